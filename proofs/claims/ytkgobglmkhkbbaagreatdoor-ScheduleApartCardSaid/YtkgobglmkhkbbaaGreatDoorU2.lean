/- plain: layer 11: joiner, an epoch's secrets, what is derived for others. -/
import Derived.Test.YtkgobglmkhkbbaaGreatDoorU1
namespace Go.KK
open Go.RowKit
set_option linter.unusedVariables false
set_option linter.unusedSimpArgs false

/-- Steps one behind the other; each knows what came of those ahead. The first error stays. -/
def runF : List ND → List Int → List (List Int → List ND → Rs) → List ND × List Int × Int
  | xs, acc, [] => (xs, acc, 0)
  | xs, acc, f :: fs => if (f acc xs).2.2 = 0 then runF (f acc xs).1 (acc ++ [(f acc xs).2.1]) fs else ((f acc xs).1, acc, (f acc xs).2.2)
theorem run_cons_ok {xs : List ND} {acc : List Int} {f : List Int → List ND → Rs} {fs : List (List Int → List ND → Rs)} (h : (f acc xs).2.2 = 0) : runF xs acc (f :: fs) = runF (f acc xs).1 (acc ++ [(f acc xs).2.1]) fs := by
  show (if _ then _ else _) = _
  rw [if_pos h]
theorem run_cons_no {xs : List ND} {acc : List Int} {f : List Int → List ND → Rs} {fs : List (List Int → List ND → Rs)} (h : (f acc xs).2.2 ≠ 0) : runF xs acc (f :: fs) = ((f acc xs).1, acc, (f acc xs).2.2) := by
  show (if _ then _ else _) = _
  rw [if_neg h]
theorem run_ext : ∀ (fs : List (List Int → List ND → Rs)) (xs : List ND) (acc : List Int), (∀ f ∈ fs, ∀ a, Sb (f a)) → ∃ m, (runF xs acc fs).1 = xs ++ m
  | [], xs, acc, _ => ⟨[], by simp [runF]⟩
  | f :: fs, xs, acc, h => by
    obtain ⟨m, hm⟩ := (h f (by simp) acc).ext xs
    by_cases he : (f acc xs).2.2 = 0
    · rw [run_cons_ok he]
      obtain ⟨m', hm'⟩ := run_ext fs (f acc xs).1 (acc ++ [(f acc xs).2.1]) fun g hg => h g (List.mem_cons_of_mem _ hg)
      exact ⟨m ++ m', by rw [hm', hm, List.append_assoc]⟩
    · rw [run_cons_no he]; exact ⟨m, hm⟩
theorem run_ok : ∀ (fs : List (List Int → List ND → Rs)) (xs : List ND) (acc : List Int), (∀ f ∈ fs, ∀ a, Sb (f a)) → Okay xs → Okay (runF xs acc fs).1
  | [], xs, acc, _, ok => ok
  | f :: fs, xs, acc, h, ok => by
    have ok2 := (h f (by simp) acc).ok xs ok
    by_cases he : (f acc xs).2.2 = 0
    · rw [run_cons_ok he]
      exact run_ok fs _ _ (fun g hg => h g (List.mem_cons_of_mem _ hg)) ok2
    · rw [run_cons_no he]; exact ok2
theorem run_fix : ∀ (fs : List (List Int → List ND → Rs)) (xs : List ND) (acc : List Int) (m : List ND), (∀ f ∈ fs, ∀ a, Sb (f a)) → Okay ((runF xs acc fs).1 ++ m) → (runF xs acc fs).2.2 = 0 →
    runF ((runF xs acc fs).1 ++ m) acc fs = ((runF xs acc fs).1 ++ m, (runF xs acc fs).2.1, 0)
  | [], xs, acc, m, _, _, _ => rfl
  | f :: fs, xs, acc, m, h, ok, he => by
    by_cases h0 : (f acc xs).2.2 = 0
    · rw [run_cons_ok h0] at ok he ⊢
      obtain ⟨m', hm'⟩ := run_ext fs (f acc xs).1 (acc ++ [(f acc xs).2.1]) fun g hg => h g (List.mem_cons_of_mem _ hg)
      have e : (runF (f acc xs).1 (acc ++ [(f acc xs).2.1]) fs).1 ++ m = (f acc xs).1 ++ (m' ++ m) := by rw [hm', List.append_assoc]
      have h1 := (h f (by simp) acc).fix xs (m' ++ m) (by rw [← e]; exact ok) h0
      rw [← e] at h1
      have h2 : (f acc ((runF (f acc xs).1 (acc ++ [(f acc xs).2.1]) fs).1 ++ m)).2.2 = 0 := by rw [h1]
      rw [run_cons_ok h2, h1]
      exact run_fix fs _ _ m (fun g hg => h g (List.mem_cons_of_mem _ hg)) ok he
    · rw [run_cons_no h0] at he; exact absurd he h0
theorem run_len : ∀ (fs : List (List Int → List ND → Rs)) (xs : List ND) (acc : List Int), (runF xs acc fs).2.2 = 0 → (runF xs acc fs).2.1.length = acc.length + fs.length
  | [], xs, acc, _ => rfl
  | f :: fs, xs, acc, h => by
    by_cases h0 : (f acc xs).2.2 = 0
    · rw [run_cons_ok h0] at h ⊢
      rw [run_len fs _ _ h, List.length_append]
      simp; omega
    · rw [run_cons_no h0] at h; exact absurd h h0

def labB (l : List UInt8) : ByteArray := ⟨l.toArray⟩
def lbJoiner : ByteArray := ⟨#[106, 111, 105, 110, 101, 114]⟩
def lbWelcome : ByteArray := ⟨#[119, 101, 108, 99, 111, 109, 101]⟩
def lbEpoch : ByteArray := ⟨#[101, 112, 111, 99, 104]⟩
def lbSender : ByteArray := ⟨#[115, 101, 110, 100, 101, 114]⟩
def lbEncryption : ByteArray := ⟨#[101, 110, 99, 114, 121, 112, 116, 105, 111, 110]⟩
def lbExporter : ByteArray := ⟨#[101, 120, 112, 111, 114, 116, 101, 114]⟩
def lbConfirm : ByteArray := ⟨#[99, 111, 110, 102, 105, 114, 109]⟩
def lbMembership : ByteArray := ⟨#[109, 101, 109, 98, 101, 114, 115, 104, 105, 112]⟩
def lbResumption : ByteArray := ⟨#[114, 101, 115, 117, 109, 112, 116, 105, 111, 110]⟩
def lbInit : ByteArray := ⟨#[105, 110, 105, 116]⟩
def lbExternal : ByteArray := ⟨#[101, 120, 116, 101, 114, 110, 97, 108]⟩
def lbExported : ByteArray := ⟨#[101, 120, 112, 111, 114, 116, 101, 100]⟩
/-- The labels of what is derived of Epoch. -/
def lbs8 : List ByteArray := [lbSender, lbEncryption, lbExporter, lbConfirm, lbMembership, lbResumption, lbInit, lbExternal]
def jnF (xs : List ND) (i c x : Int) : Rs := bdF (exF xs i c) fun ys m => exdF ys m lbJoiner x
/-- The steps of Begin. -/
def bgS (j p x : Int) : List (List Int → List ND → Rs) :=
  [fun _ ys => exF ys j p, fun a ys => dvF ys (a.getD 0 0) lbWelcome, fun a ys => exdF ys (a.getD 0 0) lbEpoch x] ++ lbs8.map (fun lb a ys => dvF ys (a.getD 2 0) lb) ++ [fun a ys => pbF ys (a.getD 10 0)]
def bgF (xs : List ND) (j p x : Int) : List ND × List Int × Int := runF xs [] (bgS j p x)
/-- An epoch's eleven numbers. -/
def epL (j : Int) (a : List Int) : List Int := [j, a.getD 1 0, a.getD 2 0, a.getD 3 0, a.getD 4 0, a.getD 5 0, a.getD 6 0, a.getD 7 0, a.getD 8 0, a.getD 11 0, a.getD 9 0]
def epZ : List Int := List.replicate 11 0
/-- Begin: the arena, the epoch, the error. -/
def begF (xs : List ND) (j p x : Int) : List ND × List Int × Int := if (bgF xs j p x).2.2 = 0 then ((bgF xs j p x).1, epL j (bgF xs j p x).2.1, 0) else ((bgF xs j p x).1, epZ, (bgF xs j p x).2.2)
/-- Next: the arena, the epoch, the error. -/
def nxF (xs : List ND) (i c x : Int) (l : List Int) : List ND × List Int × Int :=
  if (jnF xs i c x).2.2 = 0 then
    if (pskF (jnF xs i c x).1 l).2.2 = 0 then begF (pskF (jnF xs i c x).1 l).1 (jnF xs i c x).2.1 (pskF (jnF xs i c x).1 l).2.1 x
    else ((pskF (jnF xs i c x).1 l).1, epZ, (pskF (jnF xs i c x).1 l).2.2)
  else ((jnF xs i c x).1, epZ, (jnF xs i c x).2.2)
def xpF (xs : List ND) (ep : List Int) (lab : ByteArray) (x : Int) : Rs := if hasB xs x = true then bdF (dvF xs (ep.getD 5 0) lab) fun ys y => exdF ys y lbExported x else (xs, 0, 1)
theorem sb_jn (i c x : Int) : Sb fun xs => jnF xs i c x := sb_bd (G := fun m ys => exdF ys m lbJoiner x) (sb_ex i c) fun m => sb_exd m lbJoiner x
theorem bgS_sb (j p x : Int) : ∀ f ∈ bgS j p x, ∀ a, Sb (f a) := by
  intro f hf a
  unfold bgS at hf
  simp only [List.mem_append, List.mem_cons, List.mem_map, List.mem_nil_iff, or_false] at hf
  rcases hf with ((rfl | rfl | rfl) | ⟨lb, _, rfl⟩) | rfl
  · exact sb_ex j p
  · exact sb_dv _ _
  · exact sb_exd _ _ _
  · exact sb_dv _ _
  · exact sb_pb _
theorem beg_ext (xs : List ND) (j p x : Int) : ∃ m, (begF xs j p x).1 = xs ++ m := by
  obtain ⟨m, hm⟩ := run_ext _ xs [] (bgS_sb j p x)
  refine ⟨m, ?_⟩
  unfold begF
  split <;> exact hm
theorem beg_fix (xs : List ND) (j p x : Int) (m : List ND) (ok : Okay ((begF xs j p x).1 ++ m)) (h : (begF xs j p x).2.2 = 0) : begF ((begF xs j p x).1 ++ m) j p x = ((begF xs j p x).1 ++ m, (begF xs j p x).2.1, 0) := by
  unfold begF at ok h ⊢
  by_cases h0 : (bgF xs j p x).2.2 = 0
  · rw [if_pos h0] at ok h ⊢
    have := run_fix _ xs [] m (bgS_sb j p x) ok h0
    have e : bgF ((bgF xs j p x).1 ++ m) j p x = ((bgF xs j p x).1 ++ m, (bgF xs j p x).2.1, 0) := this
    dsimp only
    rw [e, if_pos rfl]
  · rw [if_neg h0] at h; exact absurd h h0
theorem nx_parts {xs : List ND} {i c x : Int} {l : List Int} (h : (nxF xs i c x l).2.2 = 0) : (jnF xs i c x).2.2 = 0 ∧ (pskF (jnF xs i c x).1 l).2.2 = 0 ∧ nxF xs i c x l = begF (pskF (jnF xs i c x).1 l).1 (jnF xs i c x).2.1 (pskF (jnF xs i c x).1 l).2.1 x := by
  unfold nxF at h ⊢
  by_cases h0 : (jnF xs i c x).2.2 = 0
  · rw [if_pos h0] at h ⊢
    by_cases h1 : (pskF (jnF xs i c x).1 l).2.2 = 0
    · rw [if_pos h1]; exact ⟨h0, h1, rfl⟩
    · rw [if_neg h1] at h; exact absurd h h1
  · rw [if_neg h0] at h; exact absurd h h0
theorem nx_ext (xs : List ND) (i c x : Int) (l : List Int) : ∃ m, (nxF xs i c x l).1 = xs ++ m := by
  obtain ⟨m, hm⟩ := (sb_jn i c x).ext xs
  obtain ⟨m', hm'⟩ := (sb_psk l).ext (jnF xs i c x).1
  obtain ⟨m2, hm2⟩ := beg_ext (pskF (jnF xs i c x).1 l).1 (jnF xs i c x).2.1 (pskF (jnF xs i c x).1 l).2.1 x
  unfold nxF
  split
  · split
    · exact ⟨m ++ (m' ++ m2), by rw [hm2, hm', hm]; simp⟩
    · exact ⟨m ++ m', by dsimp only; rw [hm', hm]; simp⟩
  · exact ⟨m, hm⟩
theorem nx_ok (xs : List ND) (i c x : Int) (l : List Int) (ok : Okay xs) : Okay (nxF xs i c x l).1 := by
  have o1 := (sb_jn i c x).ok xs ok
  have o2 := (sb_psk l).ok _ o1
  have o3 := run_ok _ _ [] (bgS_sb (jnF xs i c x).2.1 (pskF (jnF xs i c x).1 l).2.1 x) o2
  unfold nxF
  split
  · split
    · unfold begF; split <;> exact o3
    · exact o2
  · exact o1
/-- Who has the joiner secret and the shared ones has the epoch; and what was made once is made again. -/
theorem nx_again {xs : List ND} {i c x : Int} {l : List Int} {m : List ND} (h : (nxF xs i c x l).2.2 = 0) (ok : Okay ((nxF xs i c x l).1 ++ m)) :
    let X := (nxF xs i c x l).1 ++ m
    let j := (jnF xs i c x).2.1
    let p := (pskF (jnF xs i c x).1 l).2.1
    pskF X l = (X, p, 0) ∧ begF X j p x = (X, (nxF xs i c x l).2.1, 0) ∧ nxF X i c x l = (X, (nxF xs i c x l).2.1, 0) := by
  obtain ⟨h0, h1, h2⟩ := nx_parts h
  obtain ⟨m2, hm2⟩ := beg_ext (pskF (jnF xs i c x).1 l).1 (jnF xs i c x).2.1 (pskF (jnF xs i c x).1 l).2.1 x
  obtain ⟨m1, hm1⟩ := (sb_psk l).ext (jnF xs i c x).1
  have eX : (nxF xs i c x l).1 ++ m = (pskF (jnF xs i c x).1 l).1 ++ (m2 ++ m) := by rw [h2, hm2]; simp
  have eX2 : (nxF xs i c x l).1 ++ m = (jnF xs i c x).1 ++ (m1 ++ (m2 ++ m)) := by rw [eX, hm1]; simp
  have a1 : jnF ((nxF xs i c x l).1 ++ m) i c x = ((nxF xs i c x l).1 ++ m, (jnF xs i c x).2.1, 0) := by
    have := (sb_jn i c x).fix xs (m1 ++ (m2 ++ m)) (by rw [← eX2]; exact ok) h0
    rwa [← eX2] at this
  have a2 : pskF ((nxF xs i c x l).1 ++ m) l = ((nxF xs i c x l).1 ++ m, (pskF (jnF xs i c x).1 l).2.1, 0) := by
    have := (sb_psk l).fix (jnF xs i c x).1 (m2 ++ m) (by rw [← eX]; exact ok) h1
    rwa [← eX] at this
  have a3 : begF ((nxF xs i c x l).1 ++ m) (jnF xs i c x).2.1 (pskF (jnF xs i c x).1 l).2.1 x = ((nxF xs i c x l).1 ++ m, (nxF xs i c x l).2.1, 0) := by
    have := beg_fix (pskF (jnF xs i c x).1 l).1 (jnF xs i c x).2.1 (pskF (jnF xs i c x).1 l).2.1 x m (by rw [← h2]; exact ok) (by rw [← h2]; exact h)
    rwa [← h2] at this
  refine ⟨a2, a3, ?_⟩
  unfold nxF at a1 a2 a3 ⊢
  rw [a1, if_pos rfl]
  dsimp only
  rw [a2, if_pos rfl]
  exact a3
end Go.KK
