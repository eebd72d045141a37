/- plain: what layers 4 and 17 do with an arena's nodes, in plain words. -/
import Derived.Test.YtkgobglmkhkbbaaGreatDoorA2
namespace Go.KK
set_option linter.unusedVariables false
set_option linter.unusedSimpArgs false

def atN (n : Int) : ND := ⟨1, n, ⟨#[]⟩, []⟩
def ndN (o : Int) (l : List Int) : ND := ⟨o, 0, ⟨#[]⟩, l⟩
def nd0 : ND := ⟨0, 0, ⟨#[]⟩, []⟩
/-- What making a node gives: the arena, the number, the error. -/
def mk (xs : List ND) (x : ND) : List ND × Int × Int := (makT xs x, makI xs x, makE xs x)
def nodeF (xs : List ND) (t : Int) : ND := if hasB xs t then xs.getD t.toNat nd0 else nd0
def nodeE (xs : List ND) (t : Int) : Int := if hasB xs t then 0 else 4
def kno (xs : List ND) (l : List Int) : Bool := l.all (hasB xs)
def unblF (xs : List ND) (sig draw : Int) : List ND × Int × Int :=
  if kno xs [sig, draw] then
    if (nodeF xs sig).o == 10 then
      if (nodeF xs ((nodeF xs sig).l.getD 1 0)).o == 12 && (nodeF xs ((nodeF xs sig).l.getD 1 0)).l.getD 1 0 == draw then
        mk xs (ndN 10 [(nodeF xs sig).l.getD 0 0, (nodeF xs ((nodeF xs sig).l.getD 1 0)).l.getD 0 0])
      else (xs, 0, 40)
    else (xs, 0, 40)
  else (xs, 0, 1)
def askF (xs : List ND) (nonce draw : Int) : List ND × Int × Int :=
  if hasB xs nonce && decide (0 ≤ draw) then
    if makE xs (atN draw) == 0 then mk (makT xs (atN draw)) (ndN 12 [nonce, makI xs (atN draw)])
    else (makT xs (atN draw), 0, makE xs (atN draw))
  else (xs, 0, 1)
def finF (xs : List ND) (sig draw : Int) : List ND × Int × Int :=
  if makE xs (atN draw) == 0 then unblF (makT xs (atN draw)) sig (makI xs (atN draw))
  else (makT xs (atN draw), 0, makE xs (atN draw))
/-- A mint. -/
structure MT where
  k : Int
  q : Int
  g : List (Int × Int)
  p : List Int
deriving DecidableEq
def mt0 : MT := ⟨0, 0, [], []⟩
def lbF (g : List (Int × Int)) (w : Int) : Nat := g.countP fun c => decide (c.1 < w)
def isF (g : List (Int × Int)) (w : Int) : Bool := g.any fun c => c.1 == w
def cntF (g : List (Int × Int)) (w : Int) : Int := match g.find? (fun c => c.1 == w) with | some c => c.2 | none => 0
def hadF (g : List (Int × Int)) (l : List Int) : Int := (l.map (cntF g)).sum
def incF (g : List (Int × Int)) (w : Int) : List (Int × Int) := g.take (lbF g w) ++ (w, cntF g w + 1) :: g.drop (if isF g w then lbF g w + 1 else lbF g w)
def newF (xs : List ND) (sk quota : Int) : MT × Int := if hasB xs sk && decide (0 ≤ quota) then (⟨sk, quota, [], []⟩, 0) else (mt0, 1)
def issF (xs : List ND) (m : MT) (who asked : Int) : List ND × Int × MT × Int :=
  if hasB xs who && hasB xs asked && (nodeF xs asked).o == 12 then
    if m.q ≤ cntF m.g who then (xs, 0, mt0, 82)
    else if makE xs (ndN 10 [m.k, asked]) == 0 then (makT xs (ndN 10 [m.k, asked]), makI xs (ndN 10 [m.k, asked]), ⟨m.k, m.q, incF m.g who, m.p⟩, 0)
    else (makT xs (ndN 10 [m.k, asked]), 0, mt0, makE xs (ndN 10 [m.k, asked]))
  else (xs, 0, mt0, 1)
def lbI (p : List Int) (x : Int) : Nat := p.countP fun c => decide (c < x)
def spF (xs : List ND) (m : MT) (nonce sig : Int) : MT × Int :=
  if kno xs [nonce, sig] then
    if (nodeF xs sig).o == 10 && (nodeF xs sig).l.getD 0 0 == m.k && (nodeF xs sig).l.getD 1 0 == nonce then
      if m.p.contains nonce then (mt0, 81) else (⟨m.k, m.q, m.g, m.p.take (lbI m.p nonce) ++ nonce :: m.p.drop (lbI m.p nonce)⟩, 0)
    else (mt0, 40)
  else (mt0, 1)

/-! the law's arenas: twelve secrets -/
def atoms (n : Nat) : List ND := (List.range n).map fun j : Nat => atN (j : Int)
theorem atoms_succ (n : Nat) : atoms (n + 1) = atoms n ++ [atN n] := by unfold atoms; rw [List.range_succ, List.map_append]; rfl
theorem atoms_len (n : Nat) : (atoms n).length = n := by simp [atoms]
theorem atN_mem {n : Nat} {x : Int} : atN x ∈ atoms n ↔ 0 ≤ x ∧ x < n := by
  unfold atoms
  rw [List.mem_map]
  constructor
  · rintro ⟨j, hj, e⟩
    have := List.mem_range.1 hj
    injection e with _ e
    omega
  · rintro ⟨h1, h2⟩
    exact ⟨x.toNat, List.mem_range.2 (by omega), by unfold atN; rw [show ((x.toNat : Nat) : Int) = x by omega]⟩
theorem may_atom (xs : List ND) {x : Int} (h : 0 ≤ x) : mayB xs (atN x) = true := by
  have e : mayB xs (atN x) = (true && true && decide (0 ≤ x) && true && (true || x == 0) && true && true && true) := rfl
  rw [e, decide_eq_true h]; rfl
theorem mak_new {xs : List ND} {x : ND} (hm : mayB xs x = true) (hx : x ∉ xs) (hl : xs.length < 100000) : makT xs x = xs ++ [x] ∧ makI xs x = (xs.length : Nat) ∧ makE xs x = 0 := by
  unfold makT makI makE
  rw [hm, if_pos rfl, if_pos rfl, if_pos rfl, if_neg hx, if_neg hx, if_neg hx, if_neg (by omega), if_neg (by omega), if_neg (by omega)]
  exact ⟨rfl, rfl, rfl⟩
theorem mak_old {xs : List ND} {x : ND} (hm : mayB xs x = true) (hx : x ∈ xs) : makT xs x = xs ∧ makI xs x = (xs.idxOf x : Nat) ∧ makE xs x = 0 := by
  unfold makT makI makE
  rw [hm, if_pos rfl, if_pos rfl, if_pos rfl, if_pos hx, if_pos hx, if_pos hx]
  exact ⟨rfl, rfl, rfl⟩
theorem atoms_step {n : Nat} (hn : n < 100000) : makT (atoms n) (atN n) = atoms (n + 1) := by
  rw [(mak_new (may_atom _ (by omega)) (fun h => by have := atN_mem.1 h; omega) (by rw [atoms_len]; exact hn)).1, atoms_succ]
/-- A node with a part that is not yet there is new. -/
theorem fresh_part {xs : List ND} (h : Okay xs) {x : ND} {t : Int} (ht : t ∈ x.l) (hl : (xs.length : Int) ≤ t + 1) : x ∉ xs := by
  intro hx
  obtain ⟨j, hj, e⟩ := List.mem_iff_getElem.1 hx
  have hm := h.may j x (by rw [List.getElem?_eq_getElem hj, e])
  unfold mayB at hm
  simp only [Bool.and_eq_true, List.all_eq_true] at hm
  have := hm.1.2 t ht
  unfold hasB at this
  simp only [Bool.and_eq_true, decide_eq_true_eq, List.length_take] at this
  omega
end Go.KK
