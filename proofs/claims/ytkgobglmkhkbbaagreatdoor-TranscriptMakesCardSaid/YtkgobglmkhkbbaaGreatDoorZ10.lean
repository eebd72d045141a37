import Derived.Test.YtkgobglmkhkbbaaGreatDoorZ07
import Derived.Lib.AtoiTie
import Derived.Lib.AtoiAllCases
/- plain: layer 12: a text as a number; contexts read. -/
namespace Go.KK
open Go.RowKit
set_option linter.unusedVariables false
set_option linter.unusedSimpArgs false

theorem decFrom_app : ∀ (l m : List UInt8) (acc : Nat), Lib.decFrom acc (l ++ m) = (Lib.decFrom acc l).bind fun k => Lib.decFrom k m
  | [], m, acc => rfl
  | b :: l, m, acc => by
    show (match Lib.digitVal b with | some d => Lib.decFrom (acc * 10 + d) (l ++ m) | none => none) = _
    rcases h : Lib.digitVal b with _ | d
    · simp [Lib.decFrom, h]
    · simp only [Lib.decFrom, h]
      exact decFrom_app l m _
theorem digitVal_of {n : Nat} (h : n < 10) : Lib.digitVal (UInt8.ofNat (48 + n)) = some n := by
  have : ∀ i : Fin 10, Lib.digitVal (UInt8.ofNat (48 + i.val)) = some i.val := by decide
  exact this ⟨n, h⟩
theorem decFrom_digits (u : Nat) : Lib.decFrom 0 (Lib.decDigits u) = some u := by
  induction u using Nat.strongRecOn with
  | ind u ih =>
    rw [Lib.decDigits]
    split
    · rename_i h
      show (match Lib.digitVal (UInt8.ofNat (48 + u)) with | some d => some (0 * 10 + d) | none => none) = some u
      rw [digitVal_of h]
      simp
    · rename_i h
      rw [decFrom_app, ih (u / 10) (by omega)]
      simp only [Option.bind_some, Lib.decFrom, digitVal_of (Nat.mod_lt u (by omega))]
      congr 1
      omega
theorem decDigits_head (u : Nat) : ∃ b r, Lib.decDigits u = b :: r ∧ b ≠ 45 ∧ b ≠ 43 := by
  rcases h : Lib.decDigits u with _ | ⟨b, r⟩
  · exact absurd h (decDigits_ne u).1
  · refine ⟨b, r, rfl, ?_, ?_⟩
    · rintro rfl
      exact (decDigits_ne u).2 r h
    · rintro rfl
      have := Lib.digit_of_decFrom _ 0 u (decFrom_digits u) 0 43 (by rw [h]; rfl)
      obtain ⟨d, hd⟩ := this
      have := Lib.digitVal_eq hd
      simp at this
theorem atoi_digits (u : Nat) : Lib.atoi (Lib.decDigits u) = some (u : Int) := by
  obtain ⟨b, r, h, h1, h2⟩ := decDigits_head u
  have hd := decFrom_digits u
  rw [h] at hd ⊢
  unfold Lib.atoi
  dsimp only
  rw [if_neg (by simpa using h1), if_neg (by simpa using h2)]
  unfold Lib.decNat
  rw [if_neg (by simp), hd]
  rfl
/-- A text as a number: one that is written as Go writes it, of at most nine digits. -/
def numO (s : ByteArray) : Option Int :=
  match Lib.atoiAll s.data.toList with
  | .ok v => if s.size ≤ 9 ∧ 0 ≤ v ∧ digB v = s then some v else none
  | _ => none
theorem digB_size (v : Int) : (digB v).size = (Lib.itoa v).length := by unfold digB; simp [ByteArray.size]
theorem itoa_pos {v : Int} (h : 0 ≤ v) : Lib.itoa v = Lib.decDigits v.toNat := by unfold Lib.itoa; rw [if_neg (by omega)]
theorem dig_nine {v : Int} (h : 0 ≤ v) : (digB v).size ≤ 9 ↔ v < 1000000000 := by
  rw [digB_size, itoa_pos h, Lib.decDigits_length]
  constructor
  · intro h9
    have := Lib.lt_pow_nDigits v.toNat
    have h2 : 10 ^ Lib.nDigits v.toNat ≤ 10 ^ 9 := Nat.pow_le_pow_right (by omega) h9
    omega
  · intro hv
    by_cases hl : Lib.nDigits v.toNat ≤ 9
    · exact hl
    · exfalso
      have h1 := Lib.nDigits_pos v.toNat
      obtain ⟨k, hk⟩ : ∃ k, Lib.nDigits v.toNat = k + 1 := ⟨_, (Nat.sub_add_cancel h1).symm⟩
      have h9 : 9 ≤ k := by omega
      have h3 := pow_le_of_nDigits hk h9
      omega
where
  pow_le_of_nDigits {u k : Nat} (hk : Lib.nDigits u = k + 1) (h9 : 9 ≤ k) : 1000000000 ≤ u := by
    by_cases hu : 1000000000 ≤ u
    · exact hu
    · exfalso
      have : ∀ j, j ≤ 9 → ∀ u, u < 10 ^ j → Lib.nDigits u ≤ max j 1 := by
        intro j
        induction j with
        | zero => intro _ u hu; rw [Lib.nDigits_small (by simp at hu; omega)]; simp
        | succ j ih =>
          intro hj u hu
          by_cases h10 : u < 10
          · rw [Lib.nDigits_small h10]; omega
          · rw [Lib.nDigits_big h10]
            have := ih (by omega) (u / 10) (by rw [Nat.pow_succ] at hu; omega)
            have : 1 ≤ j := by
              rcases j with _ | j
              · simp at hu; omega
              · omega
            omega
      have := this 9 (Nat.le_refl _) u (by simpa using hu)
      omega
theorem numO_iff {s : ByteArray} {v : Int} : numO s = some v ↔ 0 ≤ v ∧ v < 1000000000 ∧ s = digB v := by
  unfold numO
  constructor
  · intro h
    split at h
    · split at h
      · rename_i h2
        injection h with h
        subst h
        obtain ⟨a, b, c⟩ := h2
        exact ⟨b, (dig_nine b).1 (by rw [c]; exact a), c.symm⟩
      · cases h
    · cases h
  · rintro ⟨h0, h1, rfl⟩
    have h9 := (dig_nine h0).2 h1
    have hl : (digB v).data.toList = Lib.decDigits v.toNat := by unfold digB; rw [itoa_pos h0]
    have hL : (Lib.decDigits v.toNat).length ≤ 18 := by rw [← itoa_pos h0, ← digB_size]; omega
    rw [hl, Lib.atoiAll_short _ hL, atoi_digits]
    show (if _ then some ((v.toNat : Nat) : Int) else none) = _
    have e : ((v.toNat : Nat) : Int) = v := by omega
    rw [e, if_pos ⟨h9, h0, rfl⟩]
/-- A context's parts; none: it is none. -/
def rdO (X : List ND) (t : Int) : Option (List Int) :=
  if hasB X t = true ∧ (nodeF X t).o = 3 ∧ (nodeF X t).l.length = 6 then
    (if (nodeF X ((nodeF X t).l.getD 0 0)).o = 2 ∧ (nodeF X ((nodeF X t).l.getD 0 0)).s = lbGroup ∧ (nodeF X ((nodeF X t).l.getD 2 0)).o = 2 then
      (numO (nodeF X ((nodeF X t).l.getD 2 0)).s).map fun k => [(nodeF X t).l.getD 1 0, k, (nodeF X t).l.getD 3 0, (nodeF X t).l.getD 4 0, (nodeF X t).l.getD 5 0]
    else none)
  else none
theorem nodeF_at {X : List ND} {i : Int} {x : ND} (h : At X i x) : nodeF X i = x := by
  unfold nodeF
  rw [if_pos h.has]
  rw [List.getD, h.2]; rfl
theorem rd_ct {X : List ND} {i id ep tr cf ex : Int} (h : CtAt X i id ep tr cf ex) (h0 : 0 ≤ ep) (h9 : ep < 1000000000) : rdO X i = some [id, ep, tr, cf, ex] := by
  obtain ⟨g, d, h1, h2, h3⟩ := h
  unfold rdO
  rw [nodeF_at h3]
  rw [if_pos ⟨h3.has, rfl, rfl⟩]
  show (if (nodeF X g).o = 2 ∧ (nodeF X g).s = lbGroup ∧ (nodeF X d).o = 2 then (numO (nodeF X d).s).map fun k => [id, k, tr, cf, ex] else none) = _
  rw [nodeF_at h1, nodeF_at h2]
  rw [if_pos ⟨rfl, rfl, rfl⟩]
  show (numO (digB ep)).map _ = _
  rw [numO_iff.2 ⟨h0, h9, rfl⟩]
  rfl
end Go.KK

