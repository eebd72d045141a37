/- StoreNumbers walked: a record is as long as its numbers' bytes, with their length; other numbers, other records. -/
import Derived.Test.YtdleikgcgbokmaaB5
namespace Go.Proofs.Ytdleikgcgbokmaa
open Go.RowKit Go.KK
set_option linter.unusedVariables false
set_option linter.unusedSimpArgs false

/-- How many bytes a number has. -/
def nb (k : Int) : Int := if k < 64 then 1 else if k < 16384 then 2 else 4
theorem enc_nb (k : Int) : ((enc k).length : Int) = nb k := by
  unfold enc nb
  by_cases h1 : k < 64
  · simp [h1]
  · by_cases h2 : k < 16384 <;> simp [h1, h2]
def nbs (l : List Int) : Int := (l.map nb).sum
theorem nbs_snoc (l : List Int) (x : Int) : nbs (l ++ [x]) = nbs l + nb x := by simp [nbs]
theorem body_nbs : ∀ l : List Int, ((body l).length : Int) = nbs l
  | [] => rfl
  | x :: l => by
    have := body_nbs l
    have h2 := enc_nb x
    simp only [body, nbs, List.map_cons, List.flatten_cons, List.length_append, List.sum_cons] at this ⊢
    omega
theorem rcd_len (l : List Int) (h : l.length = 7) : ((rcd l).length : Int) = nbs l + 1 := by
  have h1 := body_le l
  have h2 := body_nbs l
  unfold rcd
  have : enc ((body l).length : Int) = [((body l).length : Int)] := by unfold enc; rw [if_pos (by omega)]
  rw [List.length_append, this]
  simp only [List.length_singleton]
  omega

/-- A number's bytes at the beginning are read as that number. -/
theorem tint_enc (k : Int) (h0 : 0 ≤ k) (h1 : k ≤ 1073741823) (r : List Int) : tint (enc k ++ r) = (k, (enc k).length, 0) := by
  unfold enc
  by_cases h2 : k < 64
  · simp [h2, tint]
  · by_cases h3 : k < 16384
    · have a : ¬ 64 + k / 256 < 64 := by omega
      have b : 64 + k / 256 < 128 := by omega
      have c : (64 + k / 256 - 64) * 256 + k % 256 = k := by omega
      simp only [h2, h3, if_false, if_true, List.cons_append, List.nil_append, tint, a, b, c]
      rfl
    · have a : ¬ 128 + k / 16777216 < 64 := by omega
      have b : ¬ 128 + k / 16777216 < 128 := by omega
      have b2 : 128 + k / 16777216 < 192 := by omega
      have c : (128 + k / 16777216 - 128) * 16777216 + k / 65536 % 256 * 65536 + k / 256 % 256 * 256 + k % 256 = k := by omega
      simp only [h2, h3, if_false, if_true, List.cons_append, List.nil_append, tint, a, b, b2, c]
      rfl
theorem enc_inj {a b : Int} {r s : List Int} (ha0 : 0 ≤ a) (ha1 : a ≤ 1073741823) (hb0 : 0 ≤ b) (hb1 : b ≤ 1073741823) (h : enc a ++ r = enc b ++ s) : a = b ∧ r = s := by
  have h1 := tint_enc a ha0 ha1 r
  have h2 := tint_enc b hb0 hb1 s
  rw [h, h2] at h1
  have e : b = a := by injection h1
  subst e
  exact ⟨rfl, List.append_cancel_left h⟩
theorem body_cons (x : Int) (l : List Int) : body (x :: l) = enc x ++ body l := by simp [body]
theorem body_inj : ∀ (l k : List Int), l.length = k.length → (∀ x ∈ l, 0 ≤ x ∧ x ≤ 1073741823) → (∀ x ∈ k, 0 ≤ x ∧ x ≤ 1073741823) → body l = body k → l = k
  | [], [], _, _, _, _ => rfl
  | [], _ :: _, h, _, _, _ => by simp at h
  | _ :: _, [], h, _, _, _ => by simp at h
  | x :: l, y :: k, h, hl, hk, e => by
    rw [body_cons, body_cons] at e
    obtain ⟨hx0, hx1⟩ := hl x (by simp)
    obtain ⟨hy0, hy1⟩ := hk y (by simp)
    obtain ⟨rfl, e2⟩ := enc_inj hx0 hx1 hy0 hy1 e
    rw [body_inj l k (by simpa using h) (fun z hz => hl z (by simp [hz])) (fun z hz => hk z (by simp [hz])) e2]
theorem mayR_in {l : List Int} (h : mayR l = true) : ∀ x ∈ l, 0 ≤ x ∧ x ≤ 1073741823 := by
  unfold mayR at h
  rw [Bool.and_eq_true] at h
  intro x hx
  have := List.all_eq_true.1 h.2 x hx
  simpa [inR] using this
theorem rcd_inj {l k : List Int} (hl : l.length = 7) (hk : k.length = 7) (h1 : mayR l = true) (h2 : mayR k = true) (e : rcd l = rcd k) : l = k := by
  have b1 := body_le l
  have b2 := body_le k
  unfold rcd at e
  obtain ⟨_, e2⟩ := enc_inj (by omega) (by omega) (by omega) (by omega) e
  exact body_inj l k (by omega) (mayR_in h1) (mayR_in h2) e2
/-- Bytes of a record are bytes. -/
theorem enc_bytes (k : Int) (h0 : 0 ≤ k) (h1 : k ≤ 1073741823) : ∀ x ∈ enc k, 0 ≤ x ∧ x < 256 := by
  unfold enc
  intro x hx
  by_cases h2 : k < 64
  · rw [if_pos h2] at hx; simp at hx; omega
  · rw [if_neg h2] at hx
    by_cases h3 : k < 16384
    · rw [if_pos h3] at hx; simp at hx; omega
    · rw [if_neg h3] at hx; simp at hx; omega
theorem body_bytes (l : List Int) (h : ∀ x ∈ l, 0 ≤ x ∧ x ≤ 1073741823) : ∀ x ∈ body l, 0 ≤ x ∧ x < 256 := by
  intro x hx
  unfold body at hx
  obtain ⟨e, he, hxe⟩ := List.mem_flatten.1 hx
  obtain ⟨k, hk, rfl⟩ := List.mem_map.1 he
  exact enc_bytes k (h k hk).1 (h k hk).2 x hxe
theorem rcd_bytes {l : List Int} (h7 : l.length = 7) (h : mayR l = true) : ∀ x ∈ rcd l, 0 ≤ x ∧ x < 256 := by
  intro x hx
  have := body_le l
  unfold rcd at hx
  rcases List.mem_append.1 hx with hx | hx
  · exact enc_bytes _ (by omega) (by omega) x hx
  · exact body_bytes l (mayR_in h) x hx
/-- As texts, bytes are alike just if they are. -/
theorem str_eq {l k : List Int} (hl : ∀ x ∈ l, 0 ≤ x ∧ x < 256) (hk : ∀ x ∈ k, 0 ≤ x ∧ x < 256) : strOfNums l = strOfNums k ↔ l = k := by
  constructor
  · intro h
    have h1 : (strOfNums l).data.toList = (strOfNums k).data.toList := by rw [h]
    rw [strOfNums_data, strOfNums_data] at h1
    have h2 : (l.map fun n => UInt8.ofNat n.toNat).map (fun b => (b.toNat : Int)) = (k.map fun n => UInt8.ofNat n.toNat).map (fun b => (b.toNat : Int)) := by rw [h1]
    have back : ∀ m : List Int, (∀ x ∈ m, 0 ≤ x ∧ x < 256) → (m.map fun n => UInt8.ofNat n.toNat).map (fun b => (b.toNat : Int)) = m := by
      intro m hm
      rw [List.map_map]
      conv => rhs; rw [← List.map_id m]
      apply List.map_congr_left
      intro x hx
      obtain ⟨x0, x1⟩ := hm x hx
      simp only [Function.comp_apply, id]
      rw [UInt8.toNat_ofNat']
      omega
    rw [back l hl, back k hk] at h2
    exact h2
  · rintro rfl; rfl

end Go.Proofs.Ytdleikgcgbokmaa
