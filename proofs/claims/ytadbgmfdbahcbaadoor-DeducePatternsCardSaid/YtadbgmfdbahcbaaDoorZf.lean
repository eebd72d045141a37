import Derived.Test.YtadbgmfdbahcbaaDoorZE8
import Derived.Test.YtadbgmfdbahcbaaDoorZF2
/- deduce: are they all there (the closure of closed). -/
namespace Go.Proofs.YtadbgmfdbahcbaaDoor
open Go.RowKit Go.KK Go.Shelf Go.Maps
set_option linter.unusedVariables false
set_option linter.unusedSimpArgs false

theorem keepL_low {W W' : World} {G : Nat → Prop} {A : Option Addr} {n c : Nat} {l : List Int} (h : SlA W 1 A n c (l.map (.int .i64))) (hb : Below W.heap.size W W') (hg : ∀ b, G b → W.heap.size ≤ b) : KeepL W' G A n c l := fun W2 _ hk =>
  ⟨h.nc, h.cm, h.len, fun j u hj => by
    obtain ⟨b, off, e, hc⟩ := h.cells j u hj
    refine ⟨b, off, e, ?_⟩
    have hlt : b < W.heap.size := block_lt_of_cell hc
    have hs := hb.size
    rw [World.cell?_of_block (a := ⟨b, off + j, none⟩) ((hk b (by omega) fun hh => by have := hg b hh; omega).trans (hb.block b hlt))]
    exact hc⟩
section
variable (W : World) (G R : Nat → Prop) (sp : Nat) (lv uv : Value) (xs : List ND) (s : SD)
theorem closed1_any (b : Nat) (t : Int) (h : SpA W G R sp lv uv xs s) (hb : W.cell? ⟨b, 0, none⟩ = some (.pointer (some ⟨sp, 0, none⟩))) :
    Calls Tryd.prog 44 #[.int .i64 t, .pointer (some ⟨b, 0, none⟩)] W fun e w' => e = .returned (.bool (!hasB xs t)) ∧ w' = W := by
  obtain ⟨A, c, qs, rfl, -⟩ := h.rdl
  obtain ⟨iv, ov, ⟨c0, c1, c2, c3⟩, -⟩ := h.cells
  clear h
  have HH := hid (has_iff (xs := xs) (t := t))
  by_cases h0 : t < 0
  · have hf : hasB xs t = false := by
      rw [Bool.eq_false_iff]
      intro e
      have := HH.out.1 e
      omega
    have HF := hid hf
    have h0' : decide (t < 0) = true := decide_eq_true h0
    clear hf
    go_enter Tryd.func44, Tryd.ntmps44
    go_wp2_with fail
    go_ret
    exact ⟨by rw [HF.out]; rfl, rfl⟩
  · have h0' : decide (t < 0) = false := decide_eq_false h0
    by_cases h1 : (xs.length : Int) ≤ t
    · have hf : hasB xs t = false := by
        rw [Bool.eq_false_iff]
        intro e
        have := HH.out.1 e
        omega
      have HF := hid hf
      have h1' : decide ((xs.length : Int) ≤ t) = true := decide_eq_true h1
      clear hf
      go_enter Tryd.func44, Tryd.ntmps44
      go_wp2_with fail
      go_ret
      exact ⟨by rw [HF.out]; rfl, rfl⟩
    · have HF := hid (HH.out.2 ⟨by omega, by omega⟩)
      have h1' : decide ((xs.length : Int) ≤ t) = false := decide_eq_false h1
      go_enter Tryd.func44, Tryd.ntmps44
      go_wp2_with fail
      go_ret
      exact ⟨by rw [HF.out]; rfl, rfl⟩
set_option maxHeartbeats 1000000 in
theorem ixf_closed (b : Nat) (A : Option Addr) (n c : Nat) (l : List Int) (h : SpA W G R sp lv uv xs s) (hb : W.cell? ⟨b, 0, none⟩ = some (.pointer (some ⟨sp, 0, none⟩))) (hl : SlA W 1 A n c (l.map (.int .i64))) (hn : n ≤ 2147483648) :
    Calls Tryd.prog 64 #[.slice A n c, .func (.func 44) #[] #[.pointer (some ⟨b, 0, none⟩)]] W fun e w' => (∃ k : Int, e = .returned (.int .i64 k) ∧ decide (0 ≤ k) = !l.all (hasB xs)) ∧ w' = W := by
  have H := hid h; have HB := hid hb; have HS := hid hl; have HL := hid hl.lenI
  clear h hb hl
  go_enter Tryd.func64, Tryd.ntmps64
  go_wp2
  go_loopw [8] (fun i wr => ∃ j : Nat, i = .int .i64 j ∧ j ≤ n ∧ Hid (l.all (hasB xs) = (l.drop j).all (hasB xs)) ∧ wr = W) (fun i _ => n - (intOf i).toNat)
  case atStart => exact ⟨0, rfl, by omega, hid rfl, rfl⟩
  case round =>
    obtain ⟨j, hi, hj, HJ, hw⟩ := hrel
    subst hi; subst hw
    by_cases hlt : j < n
    · obtain ⟨b1, o, z, rfl, hz, hc⟩ := HS.out.elemI hlt
      have HD := hid (drop_get hz); clear hz
      rcases hh : hasB xs z with _ | _
      · have HF := hid (show l.all (hasB xs) = false by rw [HJ.out, HD.out, List.all_cons, hh]; rfl)
        go_wp2_with (go_at_call 44; refine (closed1_any _ G R sp lv uv xs s b z H.out HB.out).mono ?_; rintro e w' ⟨rfl, hw'⟩; subst hw'; rw [hh])
        go_ret
        exact ⟨⟨j, rfl, by rw [HF.out, decide_eq_true (by omega)]; rfl⟩, rfl⟩
      · have HF := hid (show l.all (hasB xs) = (l.drop (j + 1)).all (hasB xs) by rw [HJ.out, HD.out, List.all_cons, hh]; rfl)
        go_wp2_with (go_at_call 44; refine (closed1_any _ G R sp lv uv xs s b z H.out HB.out).mono ?_; rintro e w' ⟨rfl, hw'⟩; subst hw'; rw [hh])
        go_roundw
        case rel => exact ⟨j + 1, by go_num, by omega, HF, by first | rfl | trivial⟩
        case measure => simp [intOf]; omega
    · have HF := hid (show l.all (hasB xs) = true by rw [HJ.out, List.drop_of_length_le (by have := HL.out; omega)]; rfl)
      go_wp2
      go_ret
      exact ⟨⟨-1, rfl, by rw [HF.out]; rfl⟩, rfl⟩
theorem ctf_closed (b : Nat) (A : Option Addr) (n c : Nat) (l : List Int) (h : SpA W G R sp lv uv xs s) (hb : W.cell? ⟨b, 0, none⟩ = some (.pointer (some ⟨sp, 0, none⟩))) (hl : SlA W 1 A n c (l.map (.int .i64))) (hn : n ≤ 2147483648) :
    Calls Tryd.prog 43 #[.slice A n c, .func (.func 44) #[] #[.pointer (some ⟨b, 0, none⟩)]] W fun e w' => e = .returned (.bool (!l.all (hasB xs))) ∧ w' = W := by
  have HX := hid (ixf_closed W G R sp lv uv xs s b A n c l h hb hl hn)
  clear h hb hl
  go_enter Tryd.func43, Tryd.ntmps43
  go_wp2_with fail
  refine HX.out.mono ?_
  rintro e w' ⟨⟨k, rfl, hk⟩, hw⟩
  subst hw
  have HK := hid hk
  clear hk
  go_wp2
  go_ret
  exact ⟨by rw [← HK.out]; rfl, rfl⟩
end
end Go.Proofs.YtadbgmfdbahcbaaDoor

/- deduce: closed. -/
namespace Go.Proofs.YtadbgmfdbahcbaaDoor
open Go.RowKit Go.KK Go.Shelf Go.Maps
set_option linter.unusedVariables false
set_option linter.unusedSimpArgs false

/-- What closed leaves. -/
def ClosedP (W : World) (xs : List ND) (known : List Int) (e : Ending) (w' : World) : Prop :=
  (known.all (hasB xs) = false ∧ e = .returned (.tuple #[.pointer none, .int .i64 1]) ∧ Below W.heap.size W w') ∨
  (known.all (hasB xs) = true ∧ ∃ sp G R lv uv I, e = .returned (.tuple #[.pointer (some ⟨sp, 0, none⟩), .int .i64 0]) ∧ Inv xs known ⟨I, []⟩ ∧ SpA w' G R sp lv uv xs ⟨I, []⟩ ∧ Below W.heap.size W w' ∧ ∀ b, G b → W.heap.size ≤ b)
theorem closed_any (W : World) (st : Nat) (xs : List ND) (A : Option Addr) (n c : Nat) (known : List Int) (hA : ArV W 84 st xs) (hok : Okay xs) (hul : ∀ m, (uses xs m).length ≤ 100000000) (hl : SlA W 1 A n c (known.map (.int .i64))) (hn : n ≤ 1000000) :
    Calls Tryd.prog 28 #[.pointer (some ⟨st, 0, none⟩), .slice A n c] W fun e w' => ClosedP W xs known e w' := by
  have HLK := hid (look_any W st xs hA hok hul)
  have HOK := hid hok; have HUL := hid hul; have HL := hid hl
  clear hA hok hul hl
  go_enter Tryd.func28, Tryd.ntmps28
  go_wp2_with fail
  refine HLK.out.mono ?_
  rintro e w1 ⟨sp, G, R, lv, uv, rfl, hs, hb, hg⟩
  have HS := hid hs; have HB := hid hb; have HG := hid hg
  have B0 := hid (show Below w1.heap.size w1 (w1.alloc (.cells #[.pointer (some ⟨sp, 0, none⟩)] 60)) from (Below.refl _ _).alloc (Nat.le_refl _) _)
  have HB2 := hid (show Below W.heap.size W (w1.alloc (.cells #[.pointer (some ⟨sp, 0, none⟩)] 60)) from hb.trans (B0.out.mono hb.size))
  have HCT := hid (ctf_closed (w1.alloc (.cells #[.pointer (some ⟨sp, 0, none⟩)] 60)) G R sp lv uv xs _ w1.heap.size A n c known (hs.ext B0.out) (by rw [World.cell?_alloc_at _ _ _ _ rfl]; rfl) (HL.out.ext HB2.out) (by omega))
  have HCL := hid (fun (hh : ∀ t ∈ known, hasB xs t = true) => close_any (w1.alloc (.cells #[.pointer (some ⟨sp, 0, none⟩)] 60)) G R sp lv uv xs A n c known (hs.ext B0.out) (keepL_low HL.out HB2.out hg) hh hn HUL.out)
  clear hs hb hg HLK
  go_wp2_with fail
  refine HCT.out.mono ?_
  rintro e w2 ⟨rfl, hw⟩
  subst w2
  rcases hall : known.all (hasB xs) with _ | _
  · have HF := hid hall
    clear hall
    go_wp2_with fail
    first | go_ret2 | go_ret
    exact (show ClosedP _ _ _ _ _ from .inl ⟨HF.out, rfl, HB2.out⟩)
  · have HF := hid hall
    have HCC := hid (HCL.out (List.all_eq_true.1 hall))
    have hc6 : (w1.alloc (.cells #[.pointer (some ⟨sp, 0, none⟩)] 60)).cell? ⟨w1.heap.size, 0, none⟩ = some (.pointer (some ⟨sp, 0, none⟩)) := by rw [World.cell?_alloc_at _ _ _ _ rfl]; rfl
    have HC6 := hid hc6
    clear hall HCL
    go_wp2_with fail
    refine HCC.out.mono ?_
    rintro e w3 ⟨rfl, I, hi, G', hs3, ht3, hg3⟩
    have HI := hid hi; have HS3 := hid hs3
    have HB3 := hid (show Below W.heap.size W w3 from HB2.out.trans (ht3.below HG.out HB2.out.size))
    have HG3 := hid (show ∀ b, G' b → W.heap.size ≤ b from fun b hb => (hg3 b hb).elim (HG.out b) fun h => Nat.le_trans HB2.out.size h)
    have hc7 : w3.cell? ⟨w1.heap.size, 0, none⟩ = some (.pointer (some ⟨sp, 0, none⟩)) := by
      have hlt := block_lt_of_cell hc6
      rw [World.cell?_of_block (a := ⟨w1.heap.size, 0, none⟩) (ht3.block _ hlt fun hh => Nat.lt_irrefl _ (HS.out.glt _ hh))]
      exact hc6
    clear hi hs3 ht3 hg3 hc6
    go_wp2_with fail
    first | go_ret2 | go_ret
    exact (show ClosedP _ _ _ _ _ from .inr ⟨HF.out, sp, G', R, lv, uv, I, rfl, HI.out, HS3.out, HB3.out, HG3.out⟩)
end Go.Proofs.YtadbgmfdbahcbaaDoor

/- deduce: Derives. -/
namespace Go.Proofs.YtadbgmfdbahcbaaDoor
open Go.RowKit Go.KK Go.Shelf Go.Maps
set_option linter.unusedVariables false
set_option linter.unusedSimpArgs false

/-- What Derives answers. -/
noncomputable def drvB (xs : List ND) (known : List Int) (goal : Int) : Bool := known.all (hasB xs) && hasB xs goal && derB xs known goal
def drvE (xs : List ND) (known : List Int) (goal : Int) : Int := if known.all (hasB xs) && hasB xs goal then 0 else 1
set_option maxHeartbeats 1000000 in
theorem derives_any (W : World) (st : Nat) (xs : List ND) (A : Option Addr) (n c : Nat) (known : List Int) (goal : Int) (hA : ArV W 84 st xs) (hok : Okay xs) (hul : ∀ m, (uses xs m).length ≤ 100000000) (hl : SlA W 1 A n c (known.map (.int .i64))) (hn : n ≤ 1000000) :
    Calls Tryd.prog 19 #[.pointer (some ⟨st, 0, none⟩), .slice A n c, .int .i64 goal] W fun e w' => e = .returned (.tuple #[.bool (drvB xs known goal), .int .i64 (drvE xs known goal)]) ∧ Below W.heap.size W w' := by
  have HCL := hid (closed_any W st xs A n c known hA hok hul hl hn)
  have HOK := hid hok
  have HH := hid (has_iff (xs := xs) (t := goal))
  clear hA hok hul hl
  go_enter Tryd.func19, Tryd.ntmps19
  go_wp2_with fail
  refine HCL.out.mono ?_
  rintro e w1 (⟨hall, rfl, hb⟩ | ⟨hall, sp, G, R, lv, uv, I, rfl, hi, hs, hb, -⟩)
  · have HF := hid (show drvB xs known goal = false ∧ drvE xs known goal = 1 by unfold drvB drvE; rw [hall]; exact ⟨rfl, rfl⟩)
    have HB := hid hb
    clear hall hb HCL
    go_wp2_with fail
    first | go_ret2 | go_ret
    exact ⟨by rw [HF.out.1, HF.out.2] <;> rfl, HB.out⟩
  · have HB := hid hb; have HI := hid hi; have HS := hid hs
    obtain ⟨Al, cl, qs, rfl, -⟩ := hs.rdl
    obtain ⟨iv, ov, ⟨c0, c1, c2, c3⟩, -, own1, -⟩ := hs.cells
    have hlen : I.length = xs.length := hs.len
    clear hi hs hb HCL
    by_cases h0 : goal < 0
    · have HF := hid (show drvB xs known goal = false ∧ drvE xs known goal = 1 by
        have : hasB xs goal = false := by
          rw [Bool.eq_false_iff]
          intro e
          have := HH.out.1 e
          omega
        unfold drvB drvE
        rw [hall, this]
        exact ⟨rfl, rfl⟩)
      have h0' : decide (goal < 0) = true := decide_eq_true h0
      clear hall own1
      go_wp2_with fail
      first | go_ret2 | go_ret
      exact ⟨by rw [HF.out.1, HF.out.2] <;> rfl, HB.out⟩
    · have h0' : decide (goal < 0) = false := decide_eq_false h0
      by_cases h1 : (xs.length : Int) ≤ goal
      · have HF := hid (show drvB xs known goal = false ∧ drvE xs known goal = 1 by
          have : hasB xs goal = false := by
            rw [Bool.eq_false_iff]
            intro e
            have := HH.out.1 e
            omega
          unfold drvB drvE
          rw [hall, this]
          exact ⟨rfl, rfl⟩)
        have h1' : decide ((xs.length : Int) ≤ goal) = true := decide_eq_true h1
        clear hall own1
        go_wp2_with fail
        first | go_ret2 | go_ret
        exact ⟨by rw [HF.out.1, HF.out.2] <;> rfl, HB.out⟩
      · have hth : hasB xs goal = true := HH.out.2 ⟨by omega, by omega⟩
        obtain ⟨k, rfl⟩ := Int.eq_ofNat_of_zero_le (show 0 ≤ goal by omega)
        obtain ⟨ib, cap, rfl, hcb, hfb⟩ := in_cell own1 (t := k) (by show k < I.length; omega)
        have HF := hid (show drvB xs known (k : Int) = inB I (k : Int) ∧ drvE xs known (k : Int) = 0 by
          have hd := HI.out.done HOK.out (fun x hx => List.all_eq_true.1 hall x hx) hth
          have he : inB I (k : Int) = derB xs known (k : Int) := by
            rw [Bool.eq_iff_iff, derB_iff]; exact hd
          unfold drvB drvE
          rw [hall, hth, he]
          exact ⟨rfl, rfl⟩)
        have h1' : decide ((xs.length : Int) ≤ (k : Int)) = false := decide_eq_false h1
        have hkI : (k : Int) < (I.length : Int) := by omega
        have hcb' : w1.cell? ⟨ib, k, none⟩ = some (.bool (inB I (k : Int))) := hcb
        generalize inB I (k : Int) = bb at *
        clear hall own1 hcb hth
        go_wp2_with fail
        first | go_ret2 | go_ret
        exact ⟨by rw [HF.out.1, HF.out.2] <;> rfl, HB.out⟩
end Go.Proofs.YtadbgmfdbahcbaaDoor

