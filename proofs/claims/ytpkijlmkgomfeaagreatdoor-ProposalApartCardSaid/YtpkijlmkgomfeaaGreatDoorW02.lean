import Derived.Test.YtpkijlmkgomfeaaGreatDoorW01
import Derived.Test.YtpkijlmkgomfeaaGreatDoorShelf
import Derived.Deep.QuietTactic
import Derived.BigQuiet
import Derived.Deep.RegionWith
import Derived.Deep.RegionLaw
import Derived.Deep.Cut
import Derived.Lib.AppendIntMem
import Derived.Lib.ItoaLen
import Derived.Lib.AppendZeros
import Derived.Deep.AppendLies
/- plain: layer 11: joiner, an epoch's secrets, what is derived for others. -/
namespace Go.KK
open Go.RowKit
set_option linter.unusedVariables false
set_option linter.unusedSimpArgs false

def lbJoiner : ByteArray := ⟨#[106, 111, 105, 110, 101, 114]⟩
def lbWelcome : ByteArray := ⟨#[119, 101, 108, 99, 111, 109, 101]⟩
def lbEpoch : ByteArray := ⟨#[101, 112, 111, 99, 104]⟩
def lbSender : ByteArray := ⟨#[115, 101, 110, 100, 101, 114]⟩
def lbEncryption : ByteArray := ⟨#[101, 110, 99, 114, 121, 112, 116, 105, 111, 110]⟩
def lbExporter : ByteArray := ⟨#[101, 120, 112, 111, 114, 116, 101, 114]⟩
def lbConfirm : ByteArray := ⟨#[99, 111, 110, 102, 105, 114, 109]⟩
def lbMembership : ByteArray := ⟨#[109, 101, 109, 98, 101, 114, 115, 104, 105, 112]⟩
def lbResumption : ByteArray := ⟨#[114, 101, 115, 117, 109, 112, 116, 105, 111, 110]⟩
def lbInit : ByteArray := ⟨#[105, 110, 105, 116]⟩
def lbExternal : ByteArray := ⟨#[101, 120, 116, 101, 114, 110, 97, 108]⟩
def lbExported : ByteArray := ⟨#[101, 120, 112, 111, 114, 116, 101, 100]⟩
/-- The labels of what is derived of Epoch. -/
def lbs8 : List ByteArray := [lbSender, lbEncryption, lbExporter, lbConfirm, lbMembership, lbResumption, lbInit, lbExternal]
/-- An epoch's eleven numbers. -/
def epL (j : Int) (a : List Int) : List Int := [j, a.getD 1 0, a.getD 2 0, a.getD 3 0, a.getD 4 0, a.getD 5 0, a.getD 6 0, a.getD 7 0, a.getD 8 0, a.getD 11 0, a.getD 9 0]
end Go.KK

/- plain: layer 11: what an epoch's secrets are made of; epochs of other secrets have none in common. -/
namespace Go.KK
open Go.RowKit
set_option linter.unusedVariables false
set_option linter.unusedSimpArgs false

/-- What an epoch's secrets are made of: the joiner secret j, the shared ones p, the context x. -/
structure BgAt (X : List ND) (j p x : Int) (a : List Int) : Prop where
  m : At X (a.getD 0 0) (ndN 5 [j, p])
  w : DvAt X (a.getD 1 0) (a.getD 0 0) lbWelcome
  e : KeyAt X (a.getD 2 0) (a.getD 0 0) lbEpoch x
  d : ∀ k, k < 8 → DvAt X (a.getD (3 + k) 0) (a.getD 2 0) (lbs8.getD k ⟨#[]⟩)
  p : At X (a.getD 11 0) (ndN 7 [a.getD 10 0])
theorem BgAt.ext {X : List ND} {j p x : Int} {a : List Int} (h : BgAt X j p x a) (m : List ND) : BgAt (X ++ m) j p x a :=
  ⟨h.m.ext m, h.w.ext m, h.e.ext m, fun k hk => (h.d k hk).ext m, h.p.ext m⟩
/-- What an epoch behind init, commit, context and shared secrets is made of. -/
structure NxAt (X : List ND) (i c x : Int) (l : List Int) (ep : List Int) : Prop where
  go : ∃ m p a, ep = epL (ep.getD 0 0) a ∧ At X m (ndN 5 [i, c]) ∧ KeyAt X (ep.getD 0 0) m lbJoiner x ∧ PskAt X p l ∧ BgAt X (ep.getD 0 0) p x a
theorem NxAt.ext {X : List ND} {i c x : Int} {l ep : List Int} (h : NxAt X i c x l ep) (m : List ND) : NxAt (X ++ m) i c x l ep := by
  obtain ⟨u, p, a, h1, h2, h3, h4, h5⟩ := h.go
  exact ⟨u, p, a, h1, h2.ext m, h3.ext m, h4.ext m, h5.ext m⟩
/-- What is derived for others. -/
def XpAt (X : List ND) (t : Int) (ep : List Int) (lab : ByteArray) (x : Int) : Prop := ∃ y, DvAt X y (ep.getD 5 0) lab ∧ KeyAt X t y lbExported x
theorem XpAt.ext {X : List ND} {t x : Int} {ep : List Int} {lab : ByteArray} (h : XpAt X t ep lab x) (m : List ND) : XpAt (X ++ m) t ep lab x := by
  obtain ⟨y, h1, h2⟩ := h; exact ⟨y, h1.ext m, h2.ext m⟩
end Go.KK

/- plain: layer 11's laws: Psk, Joins, Apart. -/
namespace Go.KK
open Go.RowKit
set_option linter.unusedVariables false
set_option linter.unusedSimpArgs false

/-- A step that makes so many nodes at the most. -/
def Gw (F : List ND → Rs) (k : Nat) : Prop := ∀ xs, (F xs).1.length ≤ xs.length + k
theorem gw_mk (x : ND) : Gw (fun xs => mk xs x) 1 := fun xs => mak_len xs x
end Go.KK

/- Trees as rows of nodes: words of memory, of no program. -/
namespace Go.KK
open Go.RowKit
set_option linter.unusedVariables false
set_option linter.unusedSimpArgs false

/-- A node of a tree. -/
structure TN where
  k : Int
  i : Int
  e : Int
  s : Int
  h : Int
  u : List Int
deriving DecidableEq

def TN.cells (x : TN) (q : Value) : List Value := [.int .i64 x.k, .int .i64 x.i, .int .i64 x.e, .int .i64 x.s, .int .i64 x.h, q]
/-- The cells of a row of nodes, whose lists' heads are these. -/
def ncs (xs : List TN) (qs : List Value) : List Value := (List.zipWith TN.cells xs qs).flatten
/-- The slice reads as a row of nodes. -/
def Tr (w : World) (A : Option Addr) (n c : Nat) (xs : List TN) : Prop :=
  ∃ qs : List Value, qs.length = xs.length ∧ SlA w 6 A n c (ncs xs qs) ∧ ∀ (j : Nat) x q, xs[j]? = some x → qs[j]? = some q → In1 w q x.u

theorem ncs_mem (xs : List TN) (qs : List Value) : ∀ l ∈ List.zipWith TN.cells xs qs, l.length = 6 := by
  intro l hl
  obtain ⟨j, hj, rfl⟩ := List.mem_iff_getElem.1 hl
  rw [List.getElem_zipWith]
  rfl
theorem ncs_len {xs : List TN} {qs : List Value} (h : qs.length = xs.length) : (ncs xs qs).length = xs.length * 6 := by
  unfold ncs
  rw [flat_len 6 _ (ncs_mem xs qs), List.length_zipWith, h, Nat.min_self]
theorem ncs_get {xs : List TN} {qs : List Value} {j k : Nat} {x : TN} {q : Value} (hx : xs[j]? = some x) (hq : qs[j]? = some q) (hk : k < 6) : (ncs xs qs)[j * 6 + k]? = (x.cells q)[k]? :=
  flat_get 6 _ j k _ (ncs_mem xs qs) (by rw [List.getElem?_zipWith, hx, hq]) hk

section
variable {w w' : World} {A : Option Addr} {n c : Nat} {xs : List TN}
theorem Tr.keep (h : Tr w A n c xs) (hk : ∀ b o u, w.cell? ⟨b, o, none⟩ = some u → w'.cell? ⟨b, o, none⟩ = some u) : Tr w' A n c xs := by
  obtain ⟨qs, h1, h2, h3⟩ := h
  exact ⟨qs, h1, h2.keep hk, fun j x q hx hq => (h3 j x q hx hq).keep hk⟩
theorem Tr.ext (h : Tr w A n c xs) (hb : Below w.heap.size w w') : Tr w' A n c xs :=
  h.keep fun b o u hc => (hb.cell (p := ⟨b, o, none⟩) (block_lt_of_cell hc)).trans hc
theorem Tr.alloc (h : Tr w A n c xs) (o : Obj) : Tr (w.alloc o) A n c xs := h.ext ((Below.refl _ _).alloc (Nat.le_refl _) o)
theorem Tr.drew (h : Tr w A n c xs) : Tr w.drew A n c xs := h.keep fun _ _ _ hc => hc
theorem Tr.drewN (h : Tr w A n c xs) (k : Nat) : Tr (w.drewN k) A n c xs := h.keep fun _ _ _ hc => hc
theorem Tr.len (h : Tr w A n c xs) : xs.length = n := by
  obtain ⟨qs, h1, h2, h3⟩ := h
  have := h2.len
  rw [ncs_len h1] at this
  omega
theorem Tr.nc (h : Tr w A n c xs) : n ≤ c ∧ c ≤ maxLen := by
  obtain ⟨qs, h1, h2, h3⟩ := h
  exact ⟨h2.nc, h2.cm⟩
/-- What one node's cells are. -/
theorem Tr.at (h : Tr w A n c xs) {j : Nat} (hj : j < n) : ∃ b off x A' c', A = some ⟨b, off, none⟩ ∧ xs[j]? = some x ∧ w.cell? ⟨b, off + j * 6, none⟩ = some (.int .i64 x.k) ∧ w.cell? ⟨b, off + j * 6 + 1, none⟩ = some (.int .i64 x.i) ∧ w.cell? ⟨b, off + j * 6 + 2, none⟩ = some (.int .i64 x.e) ∧
    w.cell? ⟨b, off + j * 6 + 3, none⟩ = some (.int .i64 x.s) ∧ w.cell? ⟨b, off + j * 6 + 4, none⟩ = some (.int .i64 x.h) ∧ w.cell? ⟨b, off + j * 6 + 5, none⟩ = some (.slice A' x.u.length c') ∧ SlA w 1 A' x.u.length c' (x.u.map (.int .i64)) := by
  have hn := h.len
  obtain ⟨qs, h1, h2, h3⟩ := h
  have hx : xs[j]? = some (xs[j]'(by omega)) := List.getElem?_eq_getElem (by omega)
  have hq : qs[j]? = some (qs[j]'(by omega)) := List.getElem?_eq_getElem (by omega)
  obtain ⟨A', c', e, hs⟩ := h3 j _ _ hx hq
  rw [e] at hq
  generalize xs[j]'(by omega) = x at *
  have cell : ∀ k (u : Value), k < 6 → (x.cells (.slice A' x.u.length c'))[k]? = some u → ∃ b off, A = some ⟨b, off, none⟩ ∧ w.cell? ⟨b, off + j * 6 + k, none⟩ = some u := by
    intro k u hk hu
    obtain ⟨b, off, e, hc⟩ := h2.cells (j * 6 + k) u ((ncs_get hx hq hk).trans hu)
    exact ⟨b, off, e, by rw [Nat.add_assoc]; exact hc⟩
  obtain ⟨b, off, rfl, c0⟩ := cell 0 _ (by omega) rfl
  have more : ∀ k (u : Value), k < 6 → (x.cells (.slice A' x.u.length c'))[k]? = some u → w.cell? ⟨b, off + j * 6 + k, none⟩ = some u := by
    intro k u hk hu
    obtain ⟨b', off', e, hc⟩ := cell k u hk hu
    injection e with e
    injection e with e1 e2
    subst e1; subst e2
    exact hc
  exact ⟨b, off, x, A', c', rfl, hx, c0, more 1 _ (by omega) rfl, more 2 _ (by omega) rfl, more 3 _ (by omega) rfl, more 4 _ (by omega) rfl, more 5 _ (by omega) rfl, hs⟩
theorem Tr.nil (w : World) : Tr w none 0 0 [] := ⟨[], rfl, SlA.nil _ _, fun j x q h => by simp at h⟩
/-- A row cut short. -/
theorem Tr.to (h : Tr w A n c xs) {p : Nat} (hp : p ≤ n) : Tr w A p c (xs.take p) := by
  have hn := h.len
  obtain ⟨qs, h1, h2, h3⟩ := h
  have hnc := h2.nc
  refine ⟨qs.take p, by rw [List.length_take, List.length_take, h1], ⟨by omega, h2.cm, ?_, fun j u hj => ?_⟩, fun j x q hx hq => ?_⟩
  · rw [ncs_len (by rw [List.length_take, List.length_take, h1]), List.length_take, Nat.min_eq_left (by omega)]
  · have hlt : j < (ncs (xs.take p) (qs.take p)).length := by
      rcases Nat.lt_or_ge j (ncs (xs.take p) (qs.take p)).length with hh | hh
      · exact hh
      · rw [List.getElem?_eq_none hh] at hj; cases hj
    rw [ncs_len (by rw [List.length_take, List.length_take, h1]), List.length_take] at hlt
    have hd : j = j / 6 * 6 + j % 6 := by omega
    have hjp : j / 6 < p := by omega
    have hx : (xs.take p)[j / 6]? = some (xs[j / 6]'(by omega)) := by rw [List.getElem?_take, if_pos hjp]; exact List.getElem?_eq_getElem _
    have hq : (qs.take p)[j / 6]? = some (qs[j / 6]'(by omega)) := by rw [List.getElem?_take, if_pos hjp]; exact List.getElem?_eq_getElem _
    refine h2.cells j u ?_
    rw [hd] at hj ⊢
    rw [ncs_get hx hq (Nat.mod_lt _ (by omega))] at hj
    rw [ncs_get (List.getElem?_eq_getElem (by omega)) (List.getElem?_eq_getElem (by omega)) (Nat.mod_lt _ (by omega))]
    exact hj
  · rw [List.getElem?_take] at hx hq
    split at hx
    · rw [if_pos (by assumption)] at hq
      exact h3 j x q hx hq
    · cases hx
end

end Go.KK

/- plain: layer 22: nodes locked, in words of makes. -/
namespace Go.KK
open Go.RowKit
set_option linter.unusedVariables false
set_option linter.unusedSimpArgs false

/-- The terms so far, and the first error. -/
structure KS where
  x : List ND
  e : Int
def doF (S : KS) (f : List ND → Rs) : KS × Int := if S.e = 0 then (⟨(f S.x).1, (f S.x).2.2⟩, (f S.x).2.1) else (S, 0)
theorem do_no {S : KS} (f : List ND → Rs) (h : S.e ≠ 0) : doF S f = (S, 0) := if_neg h
/-- Goes on, stays an arena, and grows by so much at the most. -/
structure Go2 (S T : KS) (k : Nat) : Prop where
  ext : ∃ m, T.x = S.x ++ m
  ok : Okay S.x → Okay T.x
  len : T.x.length ≤ S.x.length + k
  e : S.e ≠ 0 → T.e ≠ 0
theorem Go2.refl (S : KS) : Go2 S S 0 := ⟨⟨[], by simp⟩, id, by omega, id⟩
theorem Go2.trans {S T U : KS} {a b : Nat} (h : Go2 S T a) (k : Go2 T U b) : Go2 S U (a + b) := by
  obtain ⟨m, hm⟩ := h.ext; obtain ⟨n, hn⟩ := k.ext
  exact ⟨⟨m ++ n, by rw [hn, hm, List.append_assoc]⟩, fun o => k.ok (h.ok o), by have := h.len; have := k.len; omega, fun e => k.e (h.e e)⟩
theorem Go2.mono {S T : KS} {a b : Nat} (h : Go2 S T a) (hab : a ≤ b) : Go2 S T b := ⟨h.ext, h.ok, by have := h.len; omega, h.e⟩
theorem Go2.at {S T : KS} {k : Nat} (h : Go2 S T k) {i : Int} {x : ND} (ha : At S.x i x) : At T.x i x := by obtain ⟨m, hm⟩ := h.ext; rw [hm]; exact ha.ext m
theorem Go2.key {S T : KS} {k : Nat} (h : Go2 S T k) {i s c : Int} {lab : ByteArray} (ha : KeyAt S.x i s lab c) : KeyAt T.x i s lab c := by obtain ⟨m, hm⟩ := h.ext; rw [hm]; exact ha.ext m
theorem Go2.e0 {S T : KS} {k : Nat} (h : Go2 S T k) (he : T.e = 0) : S.e = 0 := by
  by_cases h0 : S.e = 0
  · exact h0
  · exact absurd he (h.e h0)
theorem do_go {S : KS} {f : List ND → Rs} {k : Nat} (hf : Sb f) (hg : Gw f k) : Go2 S (doF S f).1 k := by
  by_cases he : S.e = 0
  · have e : doF S f = (⟨(f S.x).1, (f S.x).2.2⟩, (f S.x).2.1) := if_pos he
    rw [e]
    exact ⟨hf.ext S.x, hf.ok S.x, hg S.x, fun h => absurd he h⟩
  · rw [do_no f he]
    exact (Go2.refl S).mono (by omega)
def txF (s : ByteArray) (xs : List ND) : Rs := mk xs (txN s)
def liF (l : List Int) (xs : List ND) : Rs := mk xs (ndN 3 l)
theorem tx_go (S : KS) (s : ByteArray) : Go2 S (doF S (txF s)).1 1 := do_go (sb_tx s) (gw_mk _)
theorem li_go (S : KS) (l : List Int) : Go2 S (doF S (liF l)).1 1 := do_go (sb_nd 3 l) (gw_mk _)
/-- A node's parts that count. -/
def ptsF (n : TN) (o : Int) : List Int := if n.k = 0 then [o, o, o, o] else if n.k = 2 then [o, n.e, o, n.h] else [n.i, n.e, n.s, n.h]
/-- What a content is. -/
structure ContAt (X : List ND) (c : Int) (n : TN) (o ki li : Int) (us : List Int) : Prop where
  ho : At X o (txN ⟨#[]⟩)
  hk : At X ki (txN (digB n.k))
  ul : us.length = n.u.length
  hu : ∀ i, i < n.u.length → At X (us.getD i 0) (txN (digB (n.u.getD i 0)))
  hl : At X li (ndN 3 us)
  hc : At X c (ndN 3 (ki :: (ptsF n o ++ [li])))
theorem ContAt.ext {X : List ND} {c : Int} {n : TN} {o ki li : Int} {us : List Int} (h : ContAt X c n o ki li us) (m : List ND) : ContAt (X ++ m) c n o ki li us :=
  ⟨h.ho.ext m, h.hk.ext m, h.ul, fun i hi => (h.hu i hi).ext m, h.hl.ext m, h.hc.ext m⟩
def lbNode : ByteArray := ⟨#[110, 111, 100, 101]⟩
def lbNonce : ByteArray := ⟨#[110, 111, 110, 99, 101]⟩
def lbNodes : ByteArray := ⟨#[110, 111, 100, 101, 115]⟩
structure KyAt (X : List ND) (ex x t key nonce : Int) : Prop where
  ht : At X t (txN (digB x))
  hk : KeyAt X key ex lbNode t
  hn : KeyAt X nonce ex lbNonce t
theorem KyAt.ext {X : List ND} {ex x t key nonce : Int} (h : KyAt X ex x t key nonce) (m : List ND) : KyAt (X ++ m) ex x t key nonce := ⟨h.ht.ext m, h.hk.ext m, h.hn.ext m⟩
/-- What a locked node is. -/
def LockAt (X : List ND) (v ex cx x : Int) (n : TN) : Prop := ∃ t key nonce c o ki li us, KyAt X ex x t key nonce ∧ ContAt X c n o ki li us ∧ At X v (ndN 9 [key, nonce, cx, c])
theorem LockAt.ext {X : List ND} {v ex cx x : Int} {n : TN} (h : LockAt X v ex cx x n) (m : List ND) : LockAt (X ++ m) v ex cx x n := by
  obtain ⟨t, key, nonce, c, o, ki, li, us, h1, h2, h3⟩ := h
  exact ⟨t, key, nonce, c, o, ki, li, us, h1.ext m, h2.ext m, h3.ext m⟩
end Go.KK

/- plain: layer 22: Lock, and what Open finds. -/
namespace Go.KK
open Go.RowKit
set_option linter.unusedVariables false
set_option linter.unusedSimpArgs false

def tn0 : TN := ⟨0, 0, 0, 0, 0, []⟩
/-- The terms of a node that count. -/
def prtF (n : TN) : List Int := if n.k = 1 then [n.i, n.e, n.s, n.h] else if n.k = 2 then [n.e, n.h] else []
def badN (X : List ND) (n : TN) : Bool := decide (n.k < 0) || decide (2 < n.k) || (prtF n).any (fun x => !hasB X x) || n.u.any (fun i => decide (i < 0) || decide (1000000000 ≤ i))
/-- What Lock leaves. -/
structure Lkd (X : List ND) (ep : List Int) (cx : Int) (t : List TN) (Y : List ND) (l : List Int) (ex : Int) : Prop where
  len : t.length ≤ 511
  good : ∀ n ∈ t, badN X n = false
  xp : XpAt Y ex ep lbNodes cx
  ll : l.length = t.length
  at' : ∀ i : Nat, i < t.length → LockAt Y (l.getD i 0) ex cx i (t.getD i tn0)
theorem Lkd.ext {X : List ND} {ep : List Int} {cx : Int} {t : List TN} {Y : List ND} {l : List Int} {ex : Int} (h : Lkd X ep cx t Y l ex) (m : List ND) : Lkd X ep cx t (Y ++ m) l ex :=
  ⟨h.len, h.good, h.xp.ext m, h.ll, fun i hi => (h.at' i hi).ext m⟩
end Go.KK

/- plain: layer 9: what a node's hash is made of. -/
namespace Go.KK
open Go.RowKit
set_option linter.unusedVariables false
set_option linter.unusedSimpArgs false

def tnF (xs : List TN) (x : Nat) : TN := xs.getD x tn0
/-- Fine so far, with so much room left. -/
structure Fn (S : KS) (r : Nat) : Prop where
  e : S.e = 0
  ok : Okay S.x
  len : S.x.length + r ≤ 100000
theorem Fn.mono {S : KS} {r k : Nat} (h : Fn S r) (hk : k ≤ r) : Fn S k := ⟨h.e, h.ok, by have := h.len; omega⟩
theorem Go2.has {S T : KS} {k : Nat} (h : Go2 S T k) {i : Int} (ha : hasB S.x i = true) : hasB T.x i = true := by
  obtain ⟨m, hm⟩ := h.ext; rw [hm]; exact has_ext ha m
/-- A tree whose terms are an arena's. -/
structure TrO (X : List ND) (xs : List TN) : Prop where
  t : ∀ (j : Nat) n, xs[j]? = some n → n.k ≠ 0 → hasB X n.e = true ∧ hasB X n.h = true ∧ (j % 2 = 0 → hasB X n.i = true ∧ hasB X n.s = true)
  u : ∀ (j : Nat) n, xs[j]? = some n → n.u.length ≤ 40 ∧ ∀ i ∈ n.u, 0 ≤ i ∧ i < 1000000000
theorem tn_get {xs : List TN} {x : Nat} (h : x < xs.length) : xs[x]? = some (tnF xs x) := by
  unfold tnF; rw [List.getD_eq_getElem?_getD, List.getElem?_eq_getElem h]; rfl
theorem TrO.un {X : List ND} {xs : List TN} (h : TrO X xs) (x : Nat) : (tnF xs x).u.length ≤ 40 := by
  rcases Nat.lt_or_ge x xs.length with hx | hx
  · exact (h.u x _ (tn_get hx)).1
  · unfold tnF; rw [List.getD_eq_getElem?_getD, List.getElem?_eq_none hx]; simp [tn0]
theorem TrO.go {S T : KS} {k : Nat} {xs : List TN} (h : TrO S.x xs) (g : Go2 S T k) : TrO T.x xs :=
  ⟨fun j n hn hk => ⟨g.has (h.t j n hn hk).1, g.has (h.t j n hn hk).2.1, fun he => ⟨g.has ((h.t j n hn hk).2.2 he).1, g.has ((h.t j n hn hk).2.2 he).2⟩⟩, h.u⟩
/-- The node says so of the node x. -/
def VoAt (X : List ND) (v e h : Int) : Prop := ∃ a t o, At X a (ndN 3 [t, e, h, o]) ∧ At X v (ndN 4 [a])
theorem VoAt.ext {X : List ND} {v e h : Int} (k : VoAt X v e h) (m : List ND) : VoAt (X ++ m) v e h := by
  obtain ⟨a, t, o, h1, h2⟩ := k; exact ⟨a, t, o, h1.ext m, h2.ext m⟩
theorem VoAt.eq {X : List ND} {v e h e' h' : Int} (k : VoAt X v e h) (k' : VoAt X v e' h') : e = e' ∧ h = h' := by
  obtain ⟨a, t, o, h1, h2⟩ := k; obtain ⟨a', t', o', h1', h2'⟩ := k'
  have e1 := h2.eq h2'
  have e2 : a = a' := by injection e1 with _ _ _ e1; injection e1
  subst e2
  have e3 := h1.eq h1'
  injection e3 with _ _ _ e3
  injection e3 with _ e3
  injection e3 with e4 e3
  injection e3 with e5 e3
  exact ⟨e4, e5⟩
end Go.KK

/- term: whether a node may be. -/
namespace Go.Proofs.YtpkijlmkgomfeaaGreatDoor
open Go.RowKit Go.KK Go.Shelf
set_option linter.unusedVariables false
set_option linter.unusedSimpArgs false

/-- The program's arena, at block st. -/
abbrev ArP (w : World) (Z : Nat → Prop) (st mp : Nat) (v : Value) (xs : List ND) (qs : List Value) : Prop := Ar Tryz.prog 86 9 3 151 keyP w Z st mp v xs qs
/-- What is read of an arena. -/
structure ArV (w : World) (T : TypeId) (st : Nat) (xs : List ND) : Prop where
  go : ∃ A c m, w.heap[st]? = some (.cells #[.slice A xs.length c, m] T (0, 0)) ∧ NdA w A xs.length c xs
  ok : Okay xs
theorem Ar.v {NT K E T : TypeId} {kf : ND → List UInt8} {w : World} {Z : Nat → Prop} {st mp : Nat} {v : Value} {xs : List ND} {qs : List Value} (h : Ar Tryz.prog NT K E T kf w Z st mp v xs qs) : ArV w T st xs := by
  obtain ⟨A, c, rfl, hn⟩ := h.rows
  exact ⟨⟨A, c, _, h.box, hn⟩, h.ok⟩
theorem ArV.lt {w : World} {T : TypeId} {st : Nat} {xs : List ND} (h : ArV w T st xs) : st < w.heap.size := by
  obtain ⟨A, c, m, hb, _⟩ := h.go
  exact (Array.getElem?_eq_some_iff.1 hb).1
theorem ArV.ext {w w' : World} {T : TypeId} {st : Nat} {xs : List ND} (h : ArV w T st xs) (hb : Below w.heap.size w w') : ArV w' T st xs := by
  have hlt := h.lt
  obtain ⟨⟨A, c, m, h1, h2⟩, h3⟩ := h
  exact ⟨⟨A, c, m, (hb.block st hlt).trans h1, h2.ext hb⟩, h3⟩
theorem ArV.parts {w : World} {T : TypeId} {st : Nat} {xs : List ND} (h : ArV w T st xs) : ∃ A c m, w.cell? ⟨st, 0, none⟩ = some (.slice A xs.length c) ∧ w.cell? ⟨st, 1, none⟩ = some m ∧ NdA w A xs.length c xs := by
  obtain ⟨A, c, m, h1, h2⟩ := h.go
  exact ⟨A, c, m, cell_of_row w st 0 _ T (0, 0) h1, cell_of_row w st 1 _ T (0, 0) h1, h2⟩
theorem has_any (st : Nat) (xs : List ND) (t : Int) (w : World) (h : ArV w 151 st xs) :
    Calls Tryz.prog 122 #[.pointer (some ⟨st, 0, none⟩), .int .i64 t] w fun e w' => e = .returned (.bool (hasB xs t)) ∧ w' = w := by
  obtain ⟨A, c, m, h0, h1, hn⟩ := h.parts
  have HN := hid hn
  unfold hasB
  clear hn h
  by_cases ht : 0 ≤ t
  · go_enter Tryz.func122, Tryz.ntmps122
    go_wp2
    go_ret
    exact ⟨by simp [ht], rfl⟩
  · go_enter Tryz.func122, Tryz.ntmps122
    go_wp2
    go_ret
    exact ⟨by rw [decide_eq_false (by omega : ¬ 0 ≤ t)]; rfl, rfl⟩
/-- How many parts, as the program says it. -/
def arP (o : Int) : Int := match arN o with | some k => (k : Nat) | none => if o == 3 then -1 else -2
theorem arP_out {o : Int} (h : o < 1 ∨ 13 ≤ o) : arP o = -2 := by
  have : arN o = none := by
    unfold arN
    split <;> first | omega | rfl
  unfold arP
  rw [this, show (o == 3) = false from beq_eq_false_iff_ne.2 (by omega)]; rfl
set_option maxHeartbeats 4000000 in
theorem arity_any (o : Int) (w : World) :
    Calls Tryz.prog 171 #[.int .i64 o] w fun e w' => e = .returned (.int .i64 (arP o)) ∧ Below w.heap.size w w' := by
  by_cases h1 : o < 1
  · have HE := hid (arP_out (.inl h1))
    go_enter Tryz.func171, Tryz.ntmps171
    go_wp2
    go_ret
    exact ⟨by rw [HE.out]; rfl, (Below.refl _ _).alloc (Nat.le_refl _) _⟩
  by_cases h2 : 13 ≤ o
  · have HE := hid (arP_out (.inr h2))
    go_enter Tryz.func171, Tryz.ntmps171
    go_wp2
    go_ret
    exact ⟨by rw [HE.out]; rfl, (Below.refl _ _).alloc (Nat.le_refl _) _⟩
  have h3 : o = 1 ∨ o = 2 ∨ o = 3 ∨ o = 4 ∨ o = 5 ∨ o = 6 ∨ o = 7 ∨ o = 8 ∨ o = 9 ∨ o = 10 ∨ o = 11 ∨ o = 12 := by omega
  clear h1 h2
  rcases h3 with rfl | rfl | rfl | rfl | rfl | rfl | rfl | rfl | rfl | rfl | rfl | rfl
  all_goals
    go_enter Tryz.func171, Tryz.ntmps171
    go_wp2
    go_ret
    exact ⟨rfl, (Below.refl _ _).alloc (Nat.le_refl _) _⟩
theorem may1_any (st b : Nat) (xs : List ND) (t : Int) (w : World) (h : ArV w 151 st xs) (hb : w.cell? ⟨b, 0, none⟩ = some (.pointer (some ⟨st, 0, none⟩))) :
    Calls Tryz.prog 172 #[.int .i64 t, .pointer (some ⟨b, 0, none⟩)] w fun e w' => e = .returned (.bool (!hasB xs t)) ∧ w' = w := by
  have H := hid h
  clear h
  go_enter Tryz.func172, Tryz.ntmps172
  go_wp2_with fail
  refine (has_any st xs t _ H.out).mono ?_
  rintro e w' ⟨rfl, hw⟩
  subst hw
  go_wp2_with fail
  go_ret
  exact ⟨rfl, rfl⟩
end Go.Proofs.YtpkijlmkgomfeaaGreatDoor

/- term: whether a node may be, walked. -/
namespace Go.Proofs.YtpkijlmkgomfeaaGreatDoor
open Go.RowKit Go.KK Go.Shelf
set_option linter.unusedVariables false
set_option linter.unusedSimpArgs false

theorem drop_get {α : Type} {l : List α} {j : Nat} {x : α} (h : l[j]? = some x) : l.drop j = x :: l.drop (j + 1) := by
  obtain ⟨hj, rfl⟩ := List.getElem?_eq_some_iff.1 h
  exact List.drop_eq_getElem_cons hj
set_option maxHeartbeats 1000000 in
theorem ixf_may (st b : Nat) (xs : List ND) (A : Option Addr) (n c : Nat) (l : List Int) (w : World) (h : ArV w 151 st xs) (hb : w.cell? ⟨b, 0, none⟩ = some (.pointer (some ⟨st, 0, none⟩))) (hl : SlA w 1 A n c (l.map (.int .i64))) (hn : n ≤ 2147483648) :
    Calls Tryz.prog 192 #[.slice A n c, .func (.func 172) #[] #[.pointer (some ⟨b, 0, none⟩)]] w fun e w' => (∃ k : Int, e = .returned (.int .i64 k) ∧ decide (0 ≤ k) = !l.all (hasB xs)) ∧ w' = w := by
  have H := hid h; have HB := hid hb; have HS := hid hl; have HL := hid hl.lenI
  clear h hb hl
  go_enter Tryz.func192, Tryz.ntmps192
  go_wp2
  go_loopw [8] (fun i wr => ∃ j : Nat, i = .int .i64 j ∧ j ≤ n ∧ Hid (l.all (hasB xs) = (l.drop j).all (hasB xs)) ∧ wr = w) (fun i _ => n - (intOf i).toNat)
  case atStart => exact ⟨0, rfl, by omega, hid rfl, rfl⟩
  case round =>
    obtain ⟨j, hi, hj, HJ, hw⟩ := hrel
    subst hi; subst hw
    by_cases hlt : j < n
    · obtain ⟨b1, o, z, rfl, hz, hc⟩ := HS.out.elemI hlt
      have HD := hid (drop_get hz); clear hz
      rcases hh : hasB xs z with _ | _
      · have HF := hid (show l.all (hasB xs) = false by rw [HJ.out, HD.out, List.all_cons, hh]; rfl)
        go_wp2_with (go_at_call 172; refine (may1_any st b xs z _ H.out HB.out).mono ?_; rintro e w' ⟨rfl, hw'⟩; subst hw'; rw [hh])
        go_ret
        exact ⟨⟨j, rfl, by rw [HF.out, decide_eq_true (by omega)]; rfl⟩, rfl⟩
      · have HF := hid (show l.all (hasB xs) = (l.drop (j + 1)).all (hasB xs) by rw [HJ.out, HD.out, List.all_cons, hh]; rfl)
        go_wp2_with (go_at_call 172; refine (may1_any st b xs z _ H.out HB.out).mono ?_; rintro e w' ⟨rfl, hw'⟩; subst hw'; rw [hh])
        go_roundw
        case rel => exact ⟨j + 1, by go_num, by omega, HF, by first | rfl | trivial⟩
        case measure => simp [intOf]; omega
    · have HF := hid (show l.all (hasB xs) = true by rw [HJ.out, List.drop_of_length_le (by have := HL.out; omega)]; rfl)
      go_wp2
      go_ret
      exact ⟨⟨-1, rfl, by rw [HF.out]; rfl⟩, rfl⟩
theorem ctf_may (st b : Nat) (xs : List ND) (A : Option Addr) (n c : Nat) (l : List Int) (w : World) (h : ArV w 151 st xs) (hb : w.cell? ⟨b, 0, none⟩ = some (.pointer (some ⟨st, 0, none⟩))) (hl : SlA w 1 A n c (l.map (.int .i64))) (hn : n ≤ 2147483648) :
    Calls Tryz.prog 131 #[.slice A n c, .func (.func 172) #[] #[.pointer (some ⟨b, 0, none⟩)]] w fun e w' => e = .returned (.bool (!l.all (hasB xs))) ∧ w' = w := by
  have HX := hid (ixf_may st b xs A n c l w h hb hl hn)
  clear h hb hl
  go_enter Tryz.func131, Tryz.ntmps131
  go_wp2_with fail
  refine HX.out.mono ?_
  rintro e w' ⟨⟨k, rfl, hk⟩, hw⟩
  subst hw
  have HK := hid hk
  clear hk
  go_wp2
  go_ret
  exact ⟨by rw [← HK.out]; rfl, rfl⟩

theorem len_eq (o : Int) (n : Nat) : lenB o n = !((arP o == -2) || (decide (0 ≤ arP o) && ((n : Int) != arP o))) := by
  unfold arP lenB
  rcases arN o with _ | k
  · by_cases h : o = 3
    · rw [h]; rfl
    · simp [h]
  · by_cases hk : n = k
    · subst hk
      simp
    · have h2 : ((n : Int) != (k : Int)) = true := bne_iff_ne.2 (by omega)
      have h3 : (n == k) = false := beq_eq_false_iff_ne.2 hk
      simp [h2, h3]
theorem str_none {s : ByteArray} (h : s.size = 0) : s = ⟨#[]⟩ := by
  obtain ⟨s⟩ := s
  have : s = #[] := Array.eq_empty_of_size_eq_zero h
  rw [this]
theorem none_yes {s : ByteArray} (h : s.size = 0) : s.toList.isEmpty = true := by rw [str_none h]; simp
theorem none_no {s : ByteArray} (h : ¬ s.size = 0) : s.toList.isEmpty = false := by
  have h1 : (s.toList == (⟨#[]⟩ : ByteArray).toList) = false := by
    rw [← beq_toListBytes, Bool.eq_false_iff]
    intro e
    rw [Go.MapKept.bytes_beq] at e
    rw [e] at h
    exact h rfl
  rcases hl : s.toList with _ | ⟨b, l⟩
  · rw [hl] at h1; simp at h1
  · rfl
set_option maxHeartbeats 8000000 in
set_option maxRecDepth 20000 in
theorem may_any (st : Nat) (xs : List ND) (x : ND) (A : Option Addr) (c : Nat) (w : World) (h : ArV w 151 st xs) (hl : SlA w 1 A x.l.length c (x.l.map (.int .i64))) :
    Calls Tryz.prog 97 #[.pointer (some ⟨st, 0, none⟩), .agg #[.int .i64 x.o, .int .i64 x.n, .string x.s, .slice A x.l.length c]] w fun e w' => e = .returned (.bool (mayB xs x)) ∧ Below w.heap.size w w' := by
  have H := hid h; have HS := hid hl
  have HM := hid (len_eq x.o x.l.length)
  have B0 := hid (show Below w.heap.size w ((w.alloc (.cells #[.pointer (some ⟨st, 0, none⟩)] 26)).alloc (.cells #[.int .i64 x.o, .int .i64 x.n, .string x.s, .slice A x.l.length c] 86)) from ((Below.refl _ _).alloc (Nat.le_refl _) _).alloc (by simp) _)
  have hu : mayB xs x = (lenB x.o x.l.length && decide (x.l.length ≤ 64) && decide (0 ≤ x.n) && decide (x.s.size ≤ 200) && (x.o == 1 || x.n == 0) && (x.o == 2 || x.s.size == 0) && x.l.all (hasB xs) && (x.o != 6 || opAt xs (x.l.getD 1 0) == 2)) := rfl
  have HU := hid hu
  have C0 := hid (show let W := (w.alloc (.cells #[.pointer (some ⟨st, 0, none⟩)] 26)).alloc (.cells #[.int .i64 x.o, .int .i64 x.n, .string x.s, .slice A x.l.length c] 86)
    W.cell? ⟨w.heap.size, 0, none⟩ = some (.pointer (some ⟨st, 0, none⟩)) ∧ W.cell? ⟨w.heap.size + 1, 0, none⟩ = some (.int .i64 x.o) ∧ W.cell? ⟨w.heap.size + 1, 1, none⟩ = some (.int .i64 x.n) ∧ W.cell? ⟨w.heap.size + 1, 2, none⟩ = some (.string x.s) ∧ W.cell? ⟨w.heap.size + 1, 3, none⟩ = some (.slice A x.l.length c) ∧ w.heap.size + 1 < W.heap.size by
      refine ⟨?_, ?_, ?_, ?_, ?_, by simp⟩
      · rw [World.cell?_alloc_old _ _ _ (by simp), World.cell?_alloc_at _ _ _ _ rfl]; rfl
      all_goals (rw [World.cell?_alloc_at _ _ _ _ (by simp)]; rfl))
  clear h hl hu
  go_enter Tryz.func97, Tryz.ntmps97
  go_wp2_with fail
  refine (arity_any x.o _).mono ?_
  rintro e1 w1 ⟨rfl, b1⟩
  have B1 := hid (B0.out.trans (b1.mono B0.out.size))
  obtain ⟨c0, c1, c2, c3, c4, hlt⟩ := C0.out
  have kp := (b1.cell (p := ⟨w.heap.size, 0, none⟩) (by simp only at hlt ⊢; omega)).trans c0
  have k0 := (b1.cell (p := ⟨w.heap.size + 1, 0, none⟩) hlt).trans c1
  have k1 := (b1.cell (p := ⟨w.heap.size + 1, 1, none⟩) hlt).trans c2
  have k2 := (b1.cell (p := ⟨w.heap.size + 1, 2, none⟩) hlt).trans c3
  have k3 := (b1.cell (p := ⟨w.heap.size + 1, 3, none⟩) hlt).trans c4
  have H1 := hid (H.out.ext B1.out)
  have HS1 := hid (HS.out.ext B1.out)
  clear b1 c0 c1 c2 c3 c4 hlt C0 B0 H HS
  generalize hK : arP x.o = K at *
  clear hK
  by_cases a1 : K = -2
  · have HF := hid (show mayB xs x = false by rw [HU.out, HM.out, a1]; rfl)
    subst a1
    go_wp2_with fail
    go_ret
    exact ⟨by rw [HF.out]; rfl, B1.out⟩
  have a1' : (K == -2) = false := beq_eq_false_iff_ne.2 a1
  by_cases a2 : 0 ≤ K ∧ (x.l.length : Int) ≠ K
  · have a2' : ((x.l.length : Int) != K) = true := bne_iff_ne.2 a2.2
    have HF := hid (show mayB xs x = false by rw [HU.out, HM.out, a1', decide_eq_true a2.1, a2']; rfl)
    have a3 := a2.1
    clear a2
    go_wp2_with fail
    go_ret
    exact ⟨by rw [HF.out]; rfl, B1.out⟩
  have HL := hid (show lenB x.o x.l.length = true by
    rw [HM.out, a1']
    by_cases h0 : 0 ≤ K
    · rw [show ((x.l.length : Int) != K) = false from by rw [bne_eq_false_iff_eq]; omega]; simp
    · rw [decide_eq_false h0]; rfl)
  have a2' : (0 ≤ K ∧ ((x.l.length : Int) != K) = false) ∨ K < 0 := by
    by_cases h0 : 0 ≤ K
    · exact .inl ⟨h0, by rw [bne_eq_false_iff_eq]; omega⟩
    · exact .inr (by omega)
  clear a1 a2
  by_cases a4 : 64 < x.l.length
  · have HF := hid (show mayB xs x = false by rw [HU.out, decide_eq_false (show ¬ x.l.length ≤ 64 by omega)]; simp)
    have a4' : (64 : Int) < (x.l.length : Int) := by omega
    rcases a2' with ⟨q1, q2⟩ | q1
    all_goals
      go_wp2_with fail
      go_ret
      exact ⟨by rw [HF.out]; rfl, B1.out⟩
  have a4' : ¬ (64 : Int) < (x.l.length : Int) := by omega
  by_cases a5 : x.n < 0
  · have HF := hid (show mayB xs x = false by rw [HU.out, decide_eq_false (show ¬ 0 ≤ x.n by omega)]; simp)
    rcases a2' with ⟨q1, q2⟩ | q1
    all_goals
      go_wp2_with fail
      go_ret
      exact ⟨by rw [HF.out]; rfl, B1.out⟩
  by_cases a6 : 200 < x.s.size
  · have HF := hid (show mayB xs x = false by rw [HU.out, decide_eq_false (show ¬ x.s.size ≤ 200 by omega)]; simp)
    have a6' : (200 : Int) < (x.s.size : Int) := by omega
    rcases a2' with ⟨q1, q2⟩ | q1
    all_goals
      go_wp2_with fail
      go_ret
      exact ⟨by rw [HF.out]; rfl, B1.out⟩
  have a6' : ¬ (200 : Int) < (x.s.size : Int) := by omega
  by_cases b1 : x.o ≠ 1 ∧ x.n ≠ 0
  · have b1a : (x.o != 1) = true := bne_iff_ne.2 b1.1
    have b1b : (x.n != 0) = true := bne_iff_ne.2 b1.2
    have HF := hid (show mayB xs x = false by rw [HU.out, beq_eq_false_iff_ne.2 b1.1, beq_eq_false_iff_ne.2 b1.2]; simp)
    clear b1
    rcases a2' with ⟨q1, q2⟩ | q1
    all_goals
      go_wp2_with fail
      go_ret
      exact ⟨by rw [HF.out]; rfl, B1.out⟩
  have b1' : (x.o != 1) = false ∨ ((x.o != 1) = true ∧ (x.n != 0) = false) := by
    by_cases h : x.o = 1
    · exact .inl (by rw [bne_eq_false_iff_eq]; exact h)
    · exact .inr ⟨bne_iff_ne.2 h, by rw [bne_eq_false_iff_eq]; omega⟩
  by_cases b2 : x.o ≠ 2 ∧ ¬ x.s.size = 0
  · have b2a : (x.o != 2) = true := bne_iff_ne.2 b2.1
    have b2b := none_no b2.2
    have HF := hid (show mayB xs x = false by rw [HU.out, beq_eq_false_iff_ne.2 b2.1, beq_eq_false_iff_ne.2 b2.2]; simp)
    clear b2
    rcases a2' with ⟨q1, q2⟩ | q1 <;> rcases b1' with b1' | ⟨b1', b1''⟩
    all_goals
      go_wp2_with fail
      go_ret
      exact ⟨by rw [HF.out]; rfl, B1.out⟩
  have b2' : (x.o != 2) = false ∨ ((x.o != 2) = true ∧ x.s.toList.isEmpty = true) := by
    by_cases h : x.o = 2
    · exact .inl (by rw [bne_eq_false_iff_eq]; exact h)
    · exact .inr ⟨bne_iff_ne.2 h, none_yes (by omega)⟩
  have HR := hid (show mayB xs x = (x.l.all (hasB xs) && (x.o != 6 || opAt xs (x.l.getD 1 0) == 2)) by
    have h1 : (x.o == 1 || x.n == 0) = true := by
      rcases Decidable.em (x.o = 1) with h | h
      · rw [h]; rfl
      · rw [show x.n = 0 by omega]; simp
    have h2 : (x.o == 2 || x.s.size == 0) = true := by
      rcases Decidable.em (x.o = 2) with h | h
      · rw [h]; rfl
      · rw [show x.s.size = 0 by omega]; simp
    rw [HU.out, HL.out, h1, h2, decide_eq_true (show x.l.length ≤ 64 by omega), decide_eq_true (show 0 ≤ x.n by omega), decide_eq_true (show x.s.size ≤ 200 by omega)]
    rfl)
  clear b1 b2
  have hlen : x.l.length ≤ 2147483648 := by omega
  rcases a2' with ⟨q1, q2⟩ | q1 <;> rcases b1' with b1' | ⟨b1', b1''⟩ <;> rcases b2' with b2' | ⟨b2', b2''⟩
  all_goals
    go_wp2_with fail
    refine (ctf_may st w.heap.size xs A _ c x.l _ H1.out kp HS1.out hlen).mono ?_
    rintro e2 w2 ⟨rfl, hw2⟩
    subst w2
    rcases hall : x.l.all (hasB xs) with _ | _
    · have HF := hid (show mayB xs x = false by rw [HR.out, hall]; rfl)
      clear hall
      go_wp2_with fail
      go_ret
      exact ⟨by rw [HF.out]; rfl, B1.out⟩
    · by_cases h6 : x.o = 6
      · have h6' : (x.o != 6) = false := by rw [bne_eq_false_iff_eq]; exact h6
        have hl3 : x.l.length = 3 := by
          have := HL.out
          rw [h6] at this
          simpa [lenB, arN] using this
        obtain ⟨bx, ox, z, hA, hz, hcz⟩ := HS1.out.elemI (k := 1) (by omega)
        have hhz : hasB xs z = true := List.all_eq_true.1 hall z (List.mem_of_getElem? hz)
        unfold hasB at hhz
        simp only [Bool.and_eq_true, decide_eq_true_eq] at hhz
        obtain ⟨hz0, hz1⟩ := hhz
        obtain ⟨j, rfl⟩ := Int.eq_ofNat_of_zero_le hz0
        obtain ⟨A', c', m', q0, qm, hnd⟩ := H1.out.parts
        obtain ⟨bn, on, y, Ay, cy, rfl, hy, y0, y1, y2, y3, -⟩ := hnd.at (j := j) (by omega)
        have HF := hid (show mayB xs x = (y.o == 2) by
          rw [HR.out, hall, h6, List.getD, hz]
          show (_ && opAt xs (j : Int) == 2) = _
          unfold opAt
          rw [Int.toNat_natCast, hy]
          rfl)
        subst hA
        clear hall hz hy hnd h6
        go_wp2_with fail
        go_quiet (fail)
        go_wp2
        go_ret
        exact ⟨by rw [HF.out]; rfl, below_drewN B1.out _⟩
      · have h6' : (x.o != 6) = true := bne_iff_ne.2 h6
        have HF := hid (show mayB xs x = true by rw [HR.out, hall, h6']; rfl)
        clear hall h6
        go_wp2_with fail
        go_quiet (fail)
        go_wp2
        go_ret
        exact ⟨by rw [HF.out]; rfl, below_drewN B1.out _⟩
end Go.Proofs.YtpkijlmkgomfeaaGreatDoor

/- term: a node's text among others, walked. -/
namespace Go.Proofs.YtpkijlmkgomfeaaGreatDoor
open Go.RowKit Go.KK Go.Shelf
set_option linter.unusedVariables false
set_option linter.unusedSimpArgs false

theorem Tryz.infoU8 : (Tryz.prog.info? 5).map (fun i => (i.zero, i.size, i.bytes)) = some (some (.int .u8 0), 1, 1) := by kernel_rfl
theorem Tryz.infoInt : (Tryz.prog.info? 3).map (fun i => (i.zero, i.size, i.bytes)) = some (some (.int .i64 0), 1, 8) := by kernel_rfl
/-- The table of tens is there, whatever is done from block B on. -/
abbrev Tb (B : Nat) (w : World) : Prop := Lib.TabBelow Tryz.prog B w "internal/strconv.uint64pow10" .u64 Lib.pow10Tab
theorem Tb.up {B B' : Nat} {w : World} (h : Tb B w) (hb : B ≤ B') : Tb B' w := fun w' h' => h w' (h'.mono hb)

section
variable {w w' : World} {B B' : Nat} {e e' : TypeId} {size size' n n' : Nat} {v v' : Value} {cs cs' : List Value}
theorem own_others {t : TypeId} (h : w.ownsRow B e size v n cs) (ho : Lib.OthersKept t none w w') (hne : e ≠ t) : w'.ownsRow B e size v n cs := by
  refine ⟨h.1, ?_⟩
  rcases h.2 with h2 | ⟨g, cap, cur, e1, hg, hh, r⟩
  · exact .inl h2
  · refine .inr ⟨g, cap, cur, e1, hg, ho g _ hh (by simp) (fun c fz e2 => ?_), r⟩
    injection e2 with _ e2
    exact hne e2
theorem own_apart (h : w.ownsRow B e size v n cs) (h' : w.ownsRow B' e' size' v' n' cs') (hne : e ≠ e') (b : Nat) (hb : v.ownBlock = some b) : v'.ownBlock ≠ some b := by
  intro hb'
  rcases h.2 with ⟨rfl, _⟩ | ⟨g, cap, cur, rfl, hg, hh, r⟩
  · cases hb
  · rcases h'.2 with ⟨rfl, _⟩ | ⟨g', cap', cur', rfl, hg', hh', r'⟩
    · cases hb'
    · injection hb with hb; injection hb' with hb'
      simp only at hb hb'
      subst hb; subst hb'
      rw [hh] at hh'
      injection hh' with hh'
      injection hh' with _ hh'
      exact hne hh'
theorem own_grown (h : w.ownsRow B e size v n cs) (hg : w.grownBy w' v'.ownBlock) (h' : w.ownsRow B' e' size' v' n' cs') (hne : e ≠ e') : w'.ownsRow B e size v n cs :=
  h.kept hg (by
    rcases hv : v.ownBlock with _ | b
    · exact .inl rfl
    · exact .inr fun e2 => own_apart h h' hne b hv e2.symm)
end
theorem bytes_ints (l : List UInt8) : Lib.byteCells l = (l.map fun b => (b.toNat : Int)).map (.int .u8) := by unfold Lib.byteCells; rw [List.map_map]; rfl
theorem str_back (l : List UInt8) : (strOfNums (l.map fun b => (b.toNat : Int))).data.toList = l := by
  rw [strOfNums_data, List.map_map]
  conv => rhs; rw [← List.map_id l]
  refine List.map_congr_left fun b _ => ?_
  simp
theorem itoa_le (i : Int) (h0 : -9223372036854775808 ≤ i) (h1 : i ≤ 9223372036854775807) : (Lib.itoa i).length ≤ 21 := Lib.itoa_length_le i h0 h1
/-- int's numbers. -/
def I64 (i : Int) : Prop := -9223372036854775808 ≤ i ∧ i ≤ 9223372036854775807
theorem join_le {l : List Int} (h : ∀ i ∈ l, I64 i) : (joinB l).length ≤ 22 * l.length := by
  induction l with
  | nil => simp [joinB]
  | cons x l ih =>
    rw [joinB_cons]
    have h1 := itoa_le x (h x (by simp)).1 (h x (by simp)).2
    have h2 := ih fun i hi => h i (by simp [hi])
    simp only [List.length_cons, List.length_append]
    omega
theorem take_snoc {α : Type} {l : List α} {j : Nat} {x : α} (h : l[j]? = some x) : l.take (j + 1) = l.take j ++ [x] := by
  rw [List.take_add_one, h]; rfl
set_option maxHeartbeats 4000000 in
set_option maxRecDepth 20000 in
theorem key_any (x : ND) (A : Option Addr) (c : Nat) (w : World) (hl : SlA w 1 A x.l.length c (x.l.map (.int .i64))) (hT : Tb w.heap.size w) (hn : x.l.length ≤ 64) (ho : I64 x.o) (hn64 : I64 x.n) (hli : ∀ i ∈ x.l, I64 i) (hs : x.s.size ≤ 200) :
    Calls Tryz.prog 98 #[.agg #[.int .i64 x.o, .int .i64 x.n, .string x.s, .slice A x.l.length c]] w fun e w' => ∃ K : ByteArray, e = .returned (.string K) ∧ K.data.toList = keyP x ∧ Below w.heap.size w w' := by
  obtain ⟨i0, hi, hz0, hz1, hz2⟩ := info_parts Tryz.infoU8
  obtain ⟨j0, hj, hy0, hy1, hy2⟩ := info_parts Tryz.infoInt
  have HS := hid hl; have HT := hid hT; have HO := hid ho; have HN := hid hn64
  have HLI := hid (show ∀ i ∈ x.n :: x.l, I64 i from fun i h => by
    rcases List.mem_cons.1 h with rfl | h
    · exact hn64
    · exact hli i h)
  have B0 := hid (show Below w.heap.size w (w.alloc (.cells #[.int .i64 x.o, .int .i64 x.n, .string x.s, .slice A x.l.length c] 86)) from (Below.refl _ _).alloc (Nat.le_refl _) _)
  have C0 := hid (show let W := w.alloc (.cells #[.int .i64 x.o, .int .i64 x.n, .string x.s, .slice A x.l.length c] 86)
    W.cell? ⟨w.heap.size, 1, none⟩ = some (.int .i64 x.n) ∧ W.cell? ⟨w.heap.size, 2, none⟩ = some (.string x.s) ∧ W.cell? ⟨w.heap.size, 3, none⟩ = some (.slice A x.l.length c) ∧ w.heap.size < W.heap.size by
      refine ⟨?_, ?_, ?_, by simp⟩
      all_goals (rw [World.cell?_alloc_at _ _ _ _ rfl]; rfl))
  clear hl hT ho hn64 hli
  go_enter Tryz.func98, Tryz.ntmps98
  go_wp2_with fail
  refine (Tryz.strconv_AppendInt_10 (w.heap.size + 1) 0 x.o HO.out.1 HO.out.2 _ [] _ (World.ownsRow_nil _ _ _ _) (by simp) (by omega) (Tb.up (HT.out.on B0.out) (by omega))).mono ?_
  rintro e1 w1 ⟨v1, rfl, o1, b1, -⟩
  obtain ⟨c1, c2, c3, hlt⟩ := C0.out
  generalize w.alloc (.cells #[.int .i64 x.o, .int .i64 x.n, .string x.s, .slice A x.l.length c] 86) = W0 at *
  rw [Nat.zero_add, List.nil_append] at o1
  have k1 := (b1.cell (p := ⟨w.heap.size, 1, none⟩) (by show w.heap.size < _; omega)).trans c1
  have k2 := (b1.cell (p := ⟨w.heap.size, 2, none⟩) (by show w.heap.size < _; omega)).trans c2
  have k3 := (b1.cell (p := ⟨w.heap.size, 3, none⟩) (by show w.heap.size < _; omega)).trans c3
  have B1 := hid b1; have O1 := hid o1; have HLT := hid hlt
  have BW1 := hid (B0.out.trans (b1.mono (by omega)))
  have HS1 := hid (HS.out.ext BW1.out)
  have hsz1 : w.heap.size + 1 ≤ w1.heap.size := by have := b1.size; omega
  have C2 := hid c2
  clear b1 o1 c1 c2 c3 hlt C0
  have k3' : (w1.alloc (.cells #[.int .i64 x.n] 3)).cell? ⟨w.heap.size, 3, none⟩ = some (.slice A x.l.length c) := (World.cell?_alloc_old _ _ _ (show w.heap.size ≠ w1.heap.size by omega)).trans k3
  go_wp2_with (at_builtin; refine wpList_append_sl _ rfl _ _ 30 rfl (w.heap.size + 1) 3 j0 (.int .i64 0) 1 8 Tryz.underlying30 hj hy0 hy1 hy2 rfl (by decide) _ 1 [.int .i64 x.n] rfl (World.ownsRow_lit (e := 3) (base := w.heap.size + 1) (size := 1) w1 #[.int .i64 x.n] 1 (by omega) (by unfold maxLen; omega) rfl) A _ c _ rfl ((HS1.out).alloc _) (ints_one _ _) (by unfold maxLen; omega) (by omega) (by simp; omega) ?_; intro v2 w2 hown2 hg2 _; have HO2 := hid hown2; have HG2 := hid hg2; obtain ⟨A2, d2, rfl, hs2⟩ := SlA.owned hown2; clear hg2 hown2)
  have O2 := hid (own_grown ((O1.out).alloc (.cells #[.int .i64 x.n] 3)) HG2.out (World.ownsRow_lit (e := 3) (base := w.heap.size + 1) (size := 1) w1 #[.int .i64 x.n] 1 (by omega) (by unfold maxLen; omega) rfl) (by decide))
  have B2 := hid ((B1.out.alloc (by omega) (.cells #[.int .i64 x.n] 3)).grown HG2.out (by simp; omega) (fun k hk => by have hk : some w1.heap.size = some k := hk; injection hk with hk; omega))
  have HL2 := hid (show [Value.int .i64 x.n] ++ x.l.map (.int .i64) = (x.n :: x.l).map (.int .i64) from rfl)
  rw [HL2.out] at HO2
  have hs2' := HO2.out
  clear hs2 hs2' k3'
  generalize hLL : x.n :: x.l = L at *
  have HLL := hid hLL
  have HLN := hid (show L.length = 1 + x.l.length by rw [← hLL]; simp; omega)
  clear hLL
  go_wp2
  go_loopw [16, 3] (fun i v wr => ∃ (j m : Nat), i = .int .i64 j ∧ j ≤ L.length ∧ Hid (m ≤ 21 + 22 * j) ∧ wr.ownsRow (w.heap.size + 1) 5 1 v m (Lib.byteCells (Lib.itoa x.o ++ joinB (L.take j))) ∧ wr.ownsRow (w.heap.size + 1) 3 1 (.slice A2 (1 + x.l.length) d2) (1 + x.l.length) (L.map (.int .i64)) ∧ Below (w.heap.size + 1) W0 wr) (fun i _ _ => L.length - (intOf i).toNat)
  case atStart => exact ⟨0, _, rfl, Nat.zero_le _, hid (by have := itoa_le x.o HO.out.1 HO.out.2; omega), by rw [List.take_zero]; simpa [joinB] using O2.out, HO2.out, B2.out⟩
  case round =>
    obtain ⟨j, m, hi', hj', HM, hv, hL, hb⟩ := hrel
    subst hi'
    have HV := hid hv; have HRow := hid hL; have HB := hid hb
    have hm : m ≤ 2000 := by have := HM.out; have := HLN.out; omega
    have hbs : w.heap.size + 1 ≤ wr.heap.size := by have := hb.size; have := HLT.out; omega
    have HSL := hid (SlA.of_own hL).2
    clear hv hL hb
    by_cases hlt : j < L.length
    · obtain ⟨b2, o2, z, rfl, hz, hc⟩ := HSL.out.elemI (show j < 1 + x.l.length by have := HLN.out; omega)
      have HZ := hid hz
      have HZ6 := hid (HLI.out z (List.mem_of_getElem? hz))
      clear hz
      have hjl : (j : Int) < 1 + (x.l.length : Int) := by have := HLN.out; omega
      go_wp2_with (first
        | (at_builtin; refine wpList_append_sl _ rfl _ _ 209 rfl (w.heap.size + 1) 5 i0 (.int .u8 0) 1 1 Tryz.underlying209 hi hz0 hz1 hz2 rfl (by decide) _ _ _ rfl ((HV.out).alloc _) _ _ _ _ rfl (SlA.lit1 (.int .u8 32)) (one_int _ _) (by unfold maxLen; omega) (by omega) (by simp; omega) ?_; intro v3 w3 h3 g3 _; have H3 := hid h3; have G3 := hid g3; clear h3 g3)
        | fail)
      have hb3 := (HB.out.alloc hbs (.cells #[.int .u8 32] 5)).grown G3.out (by simp; omega) (fun k hk => (HV.out.lt k hk).1)
      have HB3 := hid hb3
      have hs3 : w.heap.size + 1 ≤ w3.heap.size := by have := hb3.size; have := HLT.out; omega
      clear hb3
      refine (Tryz.strconv_AppendInt_10 (w.heap.size + 1) (m + 1) z HZ6.out.1 HZ6.out.2 v3 _ _ H3.out hs3 (by omega) (Tb.up ((HT.out.on B0.out).on (HB3.out.mono (by omega))) (by omega))).mono ?_
      rintro e4 w4 ⟨v4, rfl, o4, b4, q4⟩
      have O4 := hid o4; have Q4 := hid q4; have B4 := hid b4
      clear o4 q4 b4
      have HJO := hid (show Lib.byteCells (Lib.itoa x.o ++ joinB (L.take j)) ++ [.int .u8 32] ++ Lib.byteCells (Lib.itoa z) = Lib.byteCells (Lib.itoa x.o ++ joinB (L.take (j + 1))) by
        rw [take_snoc HZ.out, joinB_snoc]
        simp [Lib.byteCells])
      have hiz := itoa_le z HZ6.out.1 HZ6.out.2
      go_wp2
      go_roundw
      case rel =>
        refine ⟨j + 1, m + 1 + (Lib.itoa z).length, by go_num, by omega, hid (by have := HM.out; omega), ?_, ?_, ?_⟩
        · rw [← HJO.out]; exact O4.out
        · exact own_others (own_grown ((HRow.out).alloc _) G3.out ((HV.out).alloc _) (by decide)) Q4.out (by decide)
        · exact HB3.out.trans B4.out
      case measure => simp [intOf]; omega
    · have hjl : ¬ (j : Int) < 1 + (x.l.length : Int) := by have := HLN.out; omega
      have HTK := hid (show L.take j = L from List.take_of_length_le (by omega))
      obtain ⟨Av, cv, rfl, hsv⟩ := SlA.owned HV.out
      rw [HTK.out, bytes_ints] at hsv
      have hcv := run_str_sl (P := Tryz.prog) wr 209 9 5 Tryz.underlying209 Tryz.underlying5 Tryz.underlying9 Av m cv _ hsv
      have k2' := (HB.out.cell (p := ⟨w.heap.size, 2, none⟩) (by show w.heap.size < _; omega)).trans C2.out
      have HSB := hid (str_back (Lib.itoa x.o ++ joinB L))
      generalize strOfNums ((Lib.itoa x.o ++ joinB L).map fun b => (b.toNat : Int)) = KS at *
      clear hsv
      have hks : KS.size ≤ 2000 := by
        have h1 : KS.size = KS.data.toList.length := rfl
        rw [h1, HSB.out, List.length_append]
        have h2 := itoa_le x.o HO.out.1 HO.out.2
        have h3 := join_le HLI.out
        have := HLN.out
        omega
      have hk1 : ¬ 9223372036854775807 < KS.size + 1 := by omega
      have hk2 : ¬ 9223372036854775807 < KS.size + 1 + x.s.size := by omega
      go_wp2
      go_ret
      refine ⟨_, rfl, ?_, (B0.out.trans (HB.out.mono (by omega)))⟩
      unfold keyP
      rw [HLL.out]
      have h1 : (KS ++ (⟨#[124]⟩ : ByteArray) ++ x.s).data.toList = KS.data.toList ++ [124] ++ x.s.data.toList := by
        rw [ByteArray.data_append, ByteArray.data_append, Array.toList_append, Array.toList_append]
      rw [h1, HSB.out]
      simp
end Go.Proofs.YtpkijlmkgomfeaaGreatDoor

/- append as a step of a region that draws, of a slice that reads. -/
namespace Go.KK
open Go.RowKit
set_option linter.unusedVariables false
set_option linter.unusedSimpArgs false

section
variable {P : Program} (w : World)
theorem step_append_sl {ops : Array Oper} {o : Oper} {a : Act} {K : Act → World → Prop} {Q : Exit → Act → World → Prop} {E : Prop} (hgd : o.guard = none) (s x : Operand) (t : TypeId)
    (ho : o.op = .call { callee := .builtin .append, args := #[s, x], argTypes := #[t, t] })
    (base : Nat) (e : TypeId) (i : TypeInfo) (z : Value) (size bytes : Nat) (ht : P.underlying t = some (.slice e)) (hi : P.info? e = some i) (hz : i.zero = some z)
    (hsize : i.size = size) (hby : i.bytes = bytes) (hzs : z.cells.size = size) (hsz : 0 < size)
    (v : Value) (n : Nat) (xs : List Value) (hs : a.eval s = v) (hown : w.ownsRow base e size v n xs)
    (A : Option Addr) (m c : Nat) (news : List Value) (hx : a.eval x = .slice A m c) (hr : SlA w size A m c news) (h1 : ∀ u ∈ news, u.oneCell' = true)
    (h63 : n + m ≤ maxLen) (hbytes : (n + m) * bytes ≤ 140737488355328) (hbase : base ≤ w.heap.size)
    (h : ∀ v' w', w'.ownsRow base e size v' (n + m) (xs ++ news) → w.grownBy w' v.ownBlock → (v'.ownBlock = v.ownBlock ∨ v'.ownBlock = some w.heap.size) → K (a.put o.dst v') w') :
    if Region.wanted o (yielded ops a.tmps) = true then Oper.wp P o a w K Q else E := by
  have hw : Region.wanted o (yielded ops a.tmps) = true := by simp [Region.wanted, hgd]
  rw [if_pos hw]
  obtain ⟨v', w', hrun, h2, h3, h5⟩ := run_append_sl (P := P) w base t o.type e i z size bytes ht hi hz hsize hby hzs hsz v n xs hown A m c news hr h1 h63 hbytes hbase
  exact Lib.wp_append_run w s x t t ho _ _ hs hx v' w' hrun (h v' w' h2 h3 h5)
end
end Go.KK

