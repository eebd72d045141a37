import Derived.WalkKit
import Derived.WalkSpells
import Derived.WalkLawsBesides
import Derived.Maps.AppendAt
import Derived.Deep.AppendLies
import Derived.Deep.Draws
import Derived.Laws.BytesArg
import Derived.RegionTactic
import Derived.OwnWalk
import Derived.Lib.ItoaNum
import Derived.Maps.Views
import Derived.Maps.OwnSet
import Derived.Test.YtpkijlmkgomfeaaGreatDoorRows
import Derived.Lib.ItoaLen
import Derived.Lib.AtoiTie
import Derived.Lib.AtoiAllCases
/- Words for memory, of no program: a slice that reads as a list of cells (nil let in), its cuts, and an append of such a slice onto a row of the call's own. -/
namespace Go.KK
open Go.RowKit
set_option linter.unusedVariables false
set_option linter.unusedSimpArgs false

theorem hid {p : Prop} (h : p) : Hid p := h
theorem add_lit (b off k : Nat) : (⟨b, off, none⟩ : Addr).add k = ⟨b, off + k, none⟩ := by unfold Addr.add; split <;> simp_all

/-- The slice value '.slice A n c' holds the cells xs (size cells an element). -/
structure SlA (w : World) (size : Nat) (A : Option Addr) (n c : Nat) (xs : List Value) : Prop where
  nc : n ≤ c
  cm : c ≤ maxLen
  len : xs.length = n * size
  cells : ∀ j u, xs[j]? = some u → ∃ b off, A = some ⟨b, off, none⟩ ∧ w.cell? ⟨b, off + j, none⟩ = some u

section
variable {w w' : World} {size : Nat} {A : Option Addr} {n c : Nat} {xs : List Value}
theorem SlA.keep (h : SlA w size A n c xs) (hk : ∀ b o u, w.cell? ⟨b, o, none⟩ = some u → w'.cell? ⟨b, o, none⟩ = some u) : SlA w' size A n c xs :=
  ⟨h.nc, h.cm, h.len, fun j u hj => by
    obtain ⟨b, off, e, hc⟩ := h.cells j u hj
    exact ⟨b, off, e, hk _ _ _ hc⟩⟩
theorem SlA.ext (h : SlA w size A n c xs) (hb : Below w.heap.size w w') : SlA w' size A n c xs :=
  h.keep fun b o u hc => (hb.cell (p := ⟨b, o, none⟩) (block_lt_of_cell hc)).trans hc
theorem SlA.alloc (h : SlA w size A n c xs) (o : Obj) : SlA (w.alloc o) size A n c xs := h.ext ((Below.refl _ _).alloc (Nat.le_refl _) o)
theorem SlA.drew (h : SlA w size A n c xs) : SlA w.drew size A n c xs := h.keep fun _ _ _ hc => hc
theorem SlA.drewN (h : SlA w size A n c xs) (k : Nat) : SlA (w.drewN k) size A n c xs := h.keep fun _ _ _ hc => hc
theorem SlA.nil (w : World) (size : Nat) : SlA w size none 0 0 [] := ⟨Nat.le_refl _, Nat.zero_le _, by simp, fun j u h => by simp at h⟩
theorem SlA.zero (w : World) (size : Nat) (A : Option Addr) (c : Nat) (hc : c ≤ maxLen) : SlA w size A 0 c [] := ⟨Nat.zero_le _, hc, by simp, fun j u h => by simp at h⟩
theorem SlA.elem (h : SlA w 1 A n c xs) {k : Nat} (hk : k < n) : ∃ b off u, A = some ⟨b, off, none⟩ ∧ xs[k]? = some u ∧ w.cell? ⟨b, off + k, none⟩ = some u := by
  have hl : k < xs.length := by have := h.len; omega
  obtain ⟨b, off, e, hc⟩ := h.cells k xs[k] (List.getElem?_eq_getElem hl)
  exact ⟨b, off, _, e, List.getElem?_eq_getElem hl, hc⟩
theorem SlA.elemI {kd : IntKind} {l : List Int} (h : SlA w 1 A n c (l.map (.int kd))) {k : Nat} (hk : k < n) : ∃ b off x, A = some ⟨b, off, none⟩ ∧ l[k]? = some x ∧ w.cell? ⟨b, off + k, none⟩ = some (.int kd x) := by
  obtain ⟨b, off, u, e, hu, hc⟩ := h.elem hk
  rw [List.getElem?_map] at hu
  rcases hx : l[k]? with _ | x
  · rw [hx] at hu; cases hu
  · rw [hx] at hu
    injection hu with hu
    exact ⟨b, off, x, e, rfl, by rw [hc, ← hu]⟩
theorem SlA.lenI {kd : IntKind} {l : List Int} (h : SlA w 1 A n c (l.map (.int kd))) : l.length = n := by have := h.len; simpa using this
theorem SlA.of_own {base : Nat} {e : TypeId} {m : Nat} (h : w.ownsRow base e size (.slice A m c) n xs) : m = n ∧ SlA w size A m c xs := by
  rcases h.2 with ⟨e1, rfl⟩ | ⟨g, cap, cur, e1, hbg, hg, hnc, hcm, hcs, htake⟩
  · injection e1 with e1 e2 e3
    subst e1; subst e2; subst e3
    have hx : xs = [] := List.eq_nil_of_length_eq_zero (by simpa using h.1)
    subst hx
    exact ⟨rfl, SlA.nil _ _⟩
  · injection e1 with e1 e2 e3
    subst e1; subst e2; subst e3
    refine ⟨rfl, ⟨hnc, hcm, h.1, fun j u hj => ⟨g, 0, rfl, ?_⟩⟩⟩
    have := h.cells (g := g) rfl j u hj
    rwa [add_lit] at this
theorem own_shape {base : Nat} {e : TypeId} {v : Value} (h : w.ownsRow base e size v n xs) : ∃ A c, v = .slice A n c := by
  rcases h.2 with ⟨rfl, rfl⟩ | ⟨g, cap, cur, rfl, _⟩
  · exact ⟨_, _, rfl⟩
  · exact ⟨_, _, rfl⟩
/-- An owned row as a readable one, in one step. -/
theorem SlA.owned {base : Nat} {e : TypeId} {v : Value} (h : w.ownsRow base e size v n xs) : ∃ A c, v = .slice A n c ∧ SlA w size A n c xs := by
  obtain ⟨A, c, rfl⟩ := own_shape h
  exact ⟨A, c, rfl, (SlA.of_own h).2⟩
end

section
variable {P : Program} (w : World)
/-- append(v, s...), v a row of the call's own, s whatever slice that reads: nil, empty or not. -/
theorem run_append_sl (base : Nat) (t ty e : TypeId) (i : TypeInfo) (z : Value) (size bytes : Nat) (ht : P.underlying t = some (.slice e)) (hi : P.info? e = some i) (hz : i.zero = some z)
    (hsize : i.size = size) (hby : i.bytes = bytes) (hzs : z.cells.size = size) (hsz : 0 < size)
    (v : Value) (n : Nat) (xs : List Value) (hown : w.ownsRow base e size v n xs)
    (A : Option Addr) (m c : Nat) (news : List Value) (hr : SlA w size A m c news) (h1 : ∀ u ∈ news, u.oneCell' = true)
    (h63 : n + m ≤ maxLen) (hbytes : (n + m) * bytes ≤ 140737488355328) (hbase : base ≤ w.heap.size) :
    ∃ v' w', (Builtin.append_ #[t, t] ty #[v, .slice A m c]).run P w = .ok v' w' ∧ w'.ownsRow base e size v' (n + m) (xs ++ news) ∧ w.grownBy w' v.ownBlock ∧
      (v'.ownBlock = v.ownBlock ∨ v'.ownBlock = some w.heap.size) := by
  rcases A with _ | ad
  · have hn : news = [] := by
      rcases news with _ | ⟨x, l⟩
      · rfl
      · obtain ⟨b, off, e, _⟩ := hr.cells 0 x rfl
        cases e
    subst hn
    have hm : m = 0 := by
      rcases Nat.eq_zero_or_pos m with h0 | h0
      · exact h0
      · have h2 := hr.len
        have h3 := Nat.mul_pos h0 hsz
        simp only [List.length_nil] at h2
        omega
    subst hm
    refine ⟨v, w, ?_, by simpa using hown, World.grownBy.refl w _, .inl rfl⟩
    rcases hown.2 with ⟨rfl, rfl⟩ | ⟨g, cap, cur, rfl, _, _, hnc, _⟩
    · simp [Builtin.append_, run_underlying ht, sizeOf, typeInfo, hi, Builtin.lenOf, Builtin.firstCells]
    · simp [Builtin.append_, run_underlying ht, sizeOf, typeInfo, hi, Builtin.lenOf, Builtin.firstCells, hnc, storeCells]
  · have hcells : ∀ j u, news[j]? = some u → w.cell? (ad.add j) = some u := by
      intro j u hu
      obtain ⟨b, off, e, hc⟩ := hr.cells j u hu
      injection e with e
      subst e
      rw [add_lit]
      exact hc
    obtain ⟨v', w', hrun, h2, h3, _, h5⟩ := run_append_own_at (P := P) w base t ty e i z size bytes ht hi hz hsize hby hzs hsz v n xs hown ad m c news hr.len hcells h1 h63 hbytes hbase
    exact ⟨v', w', hrun, h2, h3, h5⟩

theorem wpList_append_sl {ops : Array Oper} {rest : List Oper} {o : Oper} {a : Act} {Q : Exit → Act → World → Prop} (hgd : o.guard = none) (s x : Operand) (t : TypeId)
    (ho : o.op = .call { callee := .builtin .append, args := #[s, x], argTypes := #[t, t] })
    (base : Nat) (e : TypeId) (i : TypeInfo) (z : Value) (size bytes : Nat) (ht : P.underlying t = some (.slice e)) (hi : P.info? e = some i) (hz : i.zero = some z)
    (hsize : i.size = size) (hby : i.bytes = bytes) (hzs : z.cells.size = size) (hsz : 0 < size)
    (v : Value) (n : Nat) (xs : List Value) (hs : a.eval s = v) (hown : w.ownsRow base e size v n xs)
    (A : Option Addr) (m c : Nat) (news : List Value) (hx : a.eval x = .slice A m c) (hr : SlA w size A m c news) (h1 : ∀ u ∈ news, u.oneCell' = true)
    (h63 : n + m ≤ maxLen) (hbytes : (n + m) * bytes ≤ 140737488355328) (hbase : base ≤ w.heap.size)
    (h : ∀ v' w', w'.ownsRow base e size v' (n + m) (xs ++ news) → w.grownBy w' v.ownBlock → (v'.ownBlock = v.ownBlock ∨ v'.ownBlock = some w.heap.size) → wpList P ops Q rest (a.put o.dst v') w') :
    wpList P ops Q (o :: rest) a w := by
  refine wpList_plain hgd fun K hK => ?_
  obtain ⟨v', w', hr, h2, h3, h5⟩ := run_append_sl (P := P) w base t o.type e i z size bytes ht hi hz hsize hby hzs hsz v n xs hown A m c news hr h1 h63 hbytes hbase
  unfold Oper.wp execOp
  simp only [ho, resolve, invoke, builtin, Sem.run_bind, Sem.run_pure, Result.andThen_ok, List.map_toArray, List.map_cons, List.map_nil, hs, hx, hr]
  exact hK _ _ (h v' w' h2 h3 h5)

/-- append(nil, s...): a row of its own; nothing that was there has turned. -/
theorem wpList_append_new {ops : Array Oper} {rest : List Oper} {o : Oper} {a : Act} {Q : Exit → Act → World → Prop} (hgd : o.guard = none) (s x : Operand) (t : TypeId)
    (ho : o.op = .call { callee := .builtin .append, args := #[s, x], argTypes := #[t, t] })
    (e : TypeId) (i : TypeInfo) (z : Value) (size bytes : Nat) (ht : P.underlying t = some (.slice e)) (hi : P.info? e = some i) (hz : i.zero = some z)
    (hsize : i.size = size) (hby : i.bytes = bytes) (hzs : z.cells.size = size) (hsz : 0 < size)
    (hs : a.eval s = .slice none 0 0)
    (A : Option Addr) (m c : Nat) (news : List Value) (hx : a.eval x = .slice A m c) (hr : SlA w size A m c news) (h1 : ∀ u ∈ news, u.oneCell' = true)
    (h63 : m ≤ maxLen) (hbytes : m * bytes ≤ 140737488355328)
    (h : ∀ v' w', w'.ownsRow w.heap.size e size v' m news → RowKit.Below w.heap.size w w' → wpList P ops Q rest (a.put o.dst v') w') :
    wpList P ops Q (o :: rest) a w := by
  refine wpList_append_sl w hgd s x t ho w.heap.size e i z size bytes ht hi hz hsize hby hzs hsz _ 0 [] hs (World.ownsRow_nil _ _ _ _) A m c news hx hr h1 (by simpa using h63) (by simpa using hbytes) (Nat.le_refl _) ?_
  intro v' w' hown hg _
  refine h v' w' (by simpa using hown) ?_
  exact (RowKit.Below.refl _ _).grown hg (Nat.le_refl _) (by simp [Value.ownBlock])

/-- string(s) of bytes that read. -/
theorem run_str_sl (src dst e : TypeId) (hs : P.underlying src = some (.slice e)) (he : P.underlying e = some (.int .u8)) (hd : P.underlying dst = some .string)
    (A : Option Addr) (n c : Nat) (l : List Int) (h : SlA w 1 A n c (l.map (Value.int .u8))) :
    (convert src dst (.slice A n c)).run P w = .ok (.string (strOfNums l)) w := by
  have hln : l.length = n := by have := h.len; simpa using this
  rcases l with _ | ⟨x, l⟩
  · have hn : n = 0 := by simpa using hln.symm
    subst hn
    rw [run_convert_bytes_string w src dst e _ 0 c hs he hd]
    rcases A with _ | ad
    · simp [Conv.bytesToString]; rfl
    · rw [run_bytesToString w ad 0 c [] (by simp [loadCells, loadCellsFrom])]; rfl
  · obtain ⟨b, off, rfl, _⟩ := h.cells 0 (Value.int .u8 x) rfl
    refine run_convert_bytes_arg (P := P) w src e hs he b off n c (x :: l) hln (fun i hi => ?_) dst hd
    have hl : i < (x :: l).length := by omega
    obtain ⟨b', off', e', hc⟩ := h.cells i (Value.int .u8 (x :: l)[i]) (by rw [List.getElem?_map, List.getElem?_eq_getElem hl]; rfl)
    injection e' with e'
    injection e' with e1 e2
    subst e1; subst e2
    rw [hc, List.getD, List.getElem?_eq_getElem hl]
    rfl
end

theorem ints_one (k : IntKind) (l : List Int) : ∀ u ∈ l.map (Value.int k), u.oneCell' = true := by
  intro u hu
  obtain ⟨x, _, rfl⟩ := List.mem_map.1 hu
  rfl

theorem own_mono {w : World} {base base' : Nat} {e : TypeId} {size : Nat} {v : Value} {n : Nat} {xs : List Value} (h : w.ownsRow base e size v n xs) (hb : base' ≤ base) : w.ownsRow base' e size v n xs := by
  refine ⟨h.1, ?_⟩
  rcases h.2 with h2 | ⟨g, cap, cur, e1, hbg, r⟩
  · exact .inl h2
  · exact .inr ⟨g, cap, cur, e1, Nat.le_trans hb hbg, r⟩
theorem ofInt_i64 (a : Nat) (ha : a < 9223372036854775808) : (BitVec.ofInt 64 (a : Int)).toNat = a := by
  rw [BitVec.ofInt_natCast, BitVec.toNat_ofNat]; exact Nat.mod_eq_of_lt (by omega)
theorem i64_and (a b : Int) (h1 : 0 ≤ a) (h2 : a < 9223372036854775808) (h3 : 0 ≤ b) (h4 : b < 9223372036854775808) : bits .and .i64 a b = ((a.toNat &&& b.toNat : Nat) : Int) := by
  obtain ⟨a, rfl⟩ := Int.eq_ofNat_of_zero_le h1
  obtain ⟨b, rfl⟩ := Int.eq_ofNat_of_zero_le h3
  have hx : a &&& b < 2 ^ 63 := Nat.and_lt_two_pow _ (by omega)
  show IntKind.i64.wrap ((BitVec.ofInt 64 (a : Int) &&& BitVec.ofInt 64 (b : Int)).toNat : Int) = _
  rw [BitVec.toNat_and, ofInt_i64 a (by omega), ofInt_i64 b (by omega), IntKind.wrap_i64, Int.toNat_natCast, Int.toNat_natCast]
  omega
theorem one_int (k : IntKind) (x : Int) : ∀ u ∈ [Value.int k x], u.oneCell' = true := ints_one k [x]

/-- 'Below' behind an append by the law above, the row the call's own. -/
theorem below_append {B : Nat} {a w w' : World} {v : Value} {base e size n : Nat} {xs : List Value} (h : Below B a w) (hg : w.grownBy w' v.ownBlock) (hown : w.ownsRow base e size v n xs) (hbase : B ≤ base) (hB : B ≤ w.heap.size) : Below B a w' :=
  h.grown hg hB (fun k hk => Nat.le_trans hbase (hown.lt k hk).1)

theorem grown_of_below {w w' : World} (h : Below w.heap.size w w') (row : Option Nat) : w.grownBy w' row := ⟨h.os, h.tape, h.output, h.size, fun i hi _ => h.block i hi⟩
/-- A row of the call's own stays, where nothing that was there has turned. -/
theorem own_ext {w w' : World} {base : Nat} {e : TypeId} {size : Nat} {v : Value} {n : Nat} {xs : List Value} (h : w.ownsRow base e size v n xs) (hb : Below w.heap.size w w') : w'.ownsRow base e size v n xs := by
  refine h.kept (grown_of_below hb none) ?_
  cases v.ownBlock <;> simp

theorem take_step {α : Type} {L r : List α} {u : α} {j : Nat} (h : L = L.take j ++ u :: r) (hj : (L.take j).length = j) : L.take (j + 1) = L.take j ++ [u] ∧ L = L.take (j + 1) ++ r := by
  have e : L.take (j + 1) = L.take j ++ [u] := by
    have e1 : L.take (j + 1) = (L.take j ++ u :: r).take (j + 1) := congrArg (List.take (j + 1)) h
    rw [e1, List.take_append, hj, List.take_of_length_le (by omega), show j + 1 - j = 1 by omega]
    rfl
  exact ⟨e, by rw [e, List.append_assoc]; exact h⟩
theorem below_drew {B : Nat} {a w : World} (h : Below B a w) : Below B a w.drew := ⟨h.os, h.tape, h.output, h.size, h.block⟩
theorem below_drewN {B : Nat} {a w : World} (h : Below B a w) (n : Nat) : Below B a (w.drewN n) := ⟨h.os, h.tape, h.output, h.size, h.block⟩
/-- A literal row of one cell. -/
theorem SlA.lit1 {w : World} {T : TypeId} (u : Value) : SlA (w.alloc (.cells #[u] T)) 1 (some ⟨w.heap.size, 0, none⟩) 1 1 [u] :=
  (SlA.of_own (World.ownsRow_lit (e := T) (base := 0) (size := 1) w #[u] 1 (Nat.zero_le _) (by unfold maxLen; omega) rfl)).2

end Go.KK

/- plain: terms' nodes, their texts among others (no two alike), and what an arena makes of a node. -/
namespace Go.KK
open Go.RowKit
set_option linter.unusedVariables false
set_option linter.unusedSimpArgs false

/-- A term's node. -/
structure ND where
  o : Int
  n : Int
  s : ByteArray
  l : List Int
deriving DecidableEq

/-! numbers' texts -/
def numB (b : UInt8) : Bool := (48 ≤ b && b ≤ 57) || b == 45
theorem dig_num : ∀ d : Nat, d < 10 → numB (UInt8.ofNat (48 + d)) = true := by decide +kernel
theorem decDigits_num (u : Nat) : ∀ b ∈ Lib.decDigits u, numB b = true := by
  induction u using Nat.strongRecOn with
  | ind u ih =>
    intro b hb
    rw [Lib.decDigits] at hb
    split at hb
    · rename_i h
      rw [List.mem_singleton] at hb
      subst hb
      exact dig_num u h
    · rename_i h
      rcases List.mem_append.1 hb with hb | hb
      · exact ih (u / 10) (by omega) b hb
      · rw [List.mem_singleton] at hb
        subst hb
        exact dig_num _ (Nat.mod_lt _ (by decide))
theorem itoa_num (i : Int) : ∀ b ∈ Lib.itoa i, numB b = true := by
  intro b hb
  unfold Lib.itoa at hb
  split at hb
  · rcases List.mem_cons.1 hb with rfl | hb
    · decide
    · exact decDigits_num _ _ hb
  · exact decDigits_num _ _ hb
def decV (l : List UInt8) : Nat := l.foldl (fun a b => 10 * a + (b.toNat - 48)) 0
theorem dig_val : ∀ d : Nat, d < 10 → (UInt8.ofNat (48 + d)).toNat - 48 = d := by decide +kernel
theorem decV_digits (u : Nat) : decV (Lib.decDigits u) = u := by
  induction u using Nat.strongRecOn with
  | ind u ih =>
    rw [Lib.decDigits]
    split
    · rename_i h
      show 10 * 0 + ((UInt8.ofNat (48 + u)).toNat - 48) = u
      rw [dig_val u h]; omega
    · rename_i h
      unfold decV at ih ⊢
      rw [List.foldl_append, ih (u / 10) (by omega)]
      show 10 * (u / 10) + ((UInt8.ofNat (48 + u % 10)).toNat - 48) = u
      rw [dig_val _ (Nat.mod_lt _ (by decide))]
      omega
theorem decDigits_inj {u v : Nat} (h : Lib.decDigits u = Lib.decDigits v) : u = v := by rw [← decV_digits u, ← decV_digits v, h]
theorem decDigits_ne (u : Nat) : Lib.decDigits u ≠ [] ∧ ∀ r, Lib.decDigits u ≠ 45 :: r := by
  induction u using Nat.strongRecOn with
  | ind u ih =>
    rw [Lib.decDigits]
    split
    · rename_i h
      refine ⟨by simp, fun r e => ?_⟩
      injection e with e _
      have : ∀ d : Nat, d < 10 → UInt8.ofNat (48 + d) ≠ 45 := by decide +kernel
      exact this u h e
    · rename_i h
      obtain ⟨i1, i2⟩ := ih (u / 10) (by omega)
      refine ⟨by simp, fun r e => ?_⟩
      rcases hd : Lib.decDigits (u / 10) with _ | ⟨b, t⟩
      · exact i1 hd
      · rw [hd] at e
        injection e with e _
        exact i2 t (by rw [hd, e])
theorem itoa_inj {i j : Int} (h : Lib.itoa i = Lib.itoa j) : i = j := by
  unfold Lib.itoa at h
  split at h
  · split at h
    · injection h with _ h
      have := decDigits_inj h
      omega
    · exact absurd h.symm ((decDigits_ne _).2 _)
  · split at h
    · exact absurd h ((decDigits_ne _).2 _)
    · have := decDigits_inj h
      omega
/-- Nothing, or a byte that stands in no number ahead. -/
def stopB : List UInt8 → Bool
  | [] => true
  | b :: _ => !numB b
theorem first_stop : ∀ {a a' r r' : List UInt8}, a ++ r = a' ++ r' → (∀ b ∈ a, numB b = true) → (∀ b ∈ a', numB b = true) → stopB r = true → stopB r' = true → a = a' ∧ r = r'
  | [], [], r, r', h, _, _, _, _ => ⟨rfl, h⟩
  | [], b :: a', r, r', h, _, h2, h3, _ => by
    rw [List.nil_append] at h
    rw [h] at h3
    have := h2 b (by simp)
    simp [stopB, this] at h3
  | b :: a, [], r, r', h, h1, _, _, h4 => by
    rw [List.nil_append] at h
    rw [← h] at h4
    have := h1 b (by simp)
    simp [stopB, this] at h4
  | b :: a, b' :: a', r, r', h, h1, h2, h3, h4 => by
    rw [List.cons_append, List.cons_append] at h
    injection h with e h
    obtain ⟨i1, i2⟩ := first_stop h (fun x hx => h1 x (by simp [hx])) (fun x hx => h2 x (by simp [hx])) h3 h4
    exact ⟨by rw [e, i1], i2⟩
/-- Numbers' texts, each behind a space. -/
def joinB (l : List Int) : List UInt8 := l.flatMap fun x => 32 :: Lib.itoa x
theorem joinB_cons (x : Int) (l : List Int) : joinB (x :: l) = 32 :: (Lib.itoa x ++ joinB l) := by unfold joinB; rw [List.flatMap_cons]; rfl
theorem joinB_snoc (l : List Int) (x : Int) : joinB (l ++ [x]) = joinB l ++ (32 :: Lib.itoa x) := by unfold joinB; rw [List.flatMap_append]; simp
theorem stop_join {l : List Int} {r : List UInt8} (h : stopB r = true) : stopB (joinB l ++ r) = true := by
  rcases l with _ | ⟨x, l⟩
  · exact h
  · rw [joinB_cons]; rfl
theorem joinB_inj : ∀ {l l' : List Int} {r r' : List UInt8}, joinB l ++ r = joinB l' ++ r' → stopB r = true → stopB r' = true → (∀ t, r ≠ 32 :: t) → (∀ t, r' ≠ 32 :: t) → l = l' ∧ r = r'
  | [], [], r, r', h, _, _, _, _ => ⟨rfl, h⟩
  | [], x :: l', r, r', h, _, _, h3, _ => by rw [joinB_cons] at h; exact absurd h (h3 _)
  | x :: l, [], r, r', h, _, _, _, h4 => by rw [joinB_cons] at h; exact absurd h.symm (h4 _)
  | x :: l, x' :: l', r, r', h, h1, h2, h3, h4 => by
    rw [joinB_cons, joinB_cons, List.cons_append, List.cons_append] at h
    injection h with _ h
    rw [List.append_assoc, List.append_assoc] at h
    obtain ⟨e1, e2⟩ := first_stop h (itoa_num x) (itoa_num x') (stop_join h1) (stop_join h2)
    obtain ⟨e3, e4⟩ := joinB_inj e2 h1 h2 h3 h4
    exact ⟨by rw [itoa_inj e1, e3], e4⟩
/-- The program's text of a node among others. -/
def keyP (x : ND) : List UInt8 := Lib.itoa x.o ++ joinB (x.n :: x.l) ++ 124 :: x.s.data.toList
theorem str_ext {s t : ByteArray} (h : s.data.toList = t.data.toList) : s = t := by
  obtain ⟨s⟩ := s; obtain ⟨t⟩ := t
  simp only at h
  rw [Array.toList_inj.1 h]
theorem keyP_inj {x y : ND} (h : keyP x = keyP y) : x = y := by
  unfold keyP at h
  rw [List.append_assoc, List.append_assoc] at h
  obtain ⟨e1, e2⟩ := first_stop h (itoa_num _) (itoa_num _) (stop_join rfl) (stop_join rfl)
  obtain ⟨e3, e4⟩ := joinB_inj e2 rfl rfl (fun t e => by injection e with e _; exact absurd e (by decide)) (fun t e => by injection e with e _; exact absurd e (by decide))
  injection e3 with e3 e5
  injection e4 with _ e4
  obtain ⟨_, _, _, _⟩ := x; obtain ⟨_, _, _, _⟩ := y
  simp only at e1 e3 e4 e5
  rw [itoa_inj e1, e3, str_ext e4, e5]
/-- The document's. -/
def keyR (x : ND) : List UInt8 := Lib.itoa x.o ++ 32 :: (Lib.itoa x.n ++ 32 :: (Lib.itoa x.s.size ++ 32 :: (x.s.data.toList ++ joinB x.l)))
theorem keyR_inj {x y : ND} (h : keyR x = keyR y) : x = y := by
  unfold keyR at h
  obtain ⟨e1, h⟩ := first_stop h (itoa_num _) (itoa_num _) rfl rfl
  injection h with _ h
  obtain ⟨e2, h⟩ := first_stop h (itoa_num _) (itoa_num _) rfl rfl
  injection h with _ h
  obtain ⟨e3, h⟩ := first_stop h (itoa_num _) (itoa_num _) rfl rfl
  injection h with _ h
  have e3 := itoa_inj e3
  have hl : x.s.data.toList.length = y.s.data.toList.length := by
    have h1 : x.s.size = x.s.data.toList.length := rfl
    have h2 : y.s.size = y.s.data.toList.length := rfl
    omega
  obtain ⟨e4, e5⟩ := List.append_inj h hl
  have e6 := (joinB_inj (l := x.l) (l' := y.l) (r := []) (r' := []) (by simpa using e5) rfl rfl (fun t e => by cases e) (fun t e => by cases e)).1
  obtain ⟨_, _, _, _⟩ := x; obtain ⟨_, _, _, _⟩ := y
  simp only at e1 e2 e4 e6
  rw [itoa_inj e1, itoa_inj e2, str_ext e4, e6]

/-! what may be -/
/-- How many parts a node of a kind has (none: any). -/
def arN : Int → Option Nat
  | 1 => some 0 | 2 => some 0 | 4 => some 1 | 5 => some 2 | 6 => some 3 | 7 => some 1 | 8 => some 4 | 9 => some 4 | 10 => some 2 | 11 => some 2 | 12 => some 2
  | _ => none
/-- As many parts as such a node has. -/
def lenB (o : Int) (n : Nat) : Bool := match arN o with | some k => n == k | none => o == 3
def shB (x : ND) : Bool := lenB x.o x.l.length && decide (x.l.length ≤ 64) && decide (0 ≤ x.n) && decide (x.s.size ≤ 200) && (x.o == 1 || x.n == 0) && (x.o == 2 || x.s.size == 0)
def opAt (xs : List ND) (t : Int) : Int := match xs[t.toNat]? with | some x => x.o | none => 0
def hasB (xs : List ND) (t : Int) : Bool := decide (0 ≤ t) && decide (t < xs.length)
def mayB (xs : List ND) (x : ND) : Bool := shB x && x.l.all (hasB xs) && (x.o != 6 || opAt xs (x.l.getD 1 0) == 2)
/-- The arena behind it, the number, the error. -/
def makT (xs : List ND) (x : ND) : List ND := if mayB xs x then (if x ∈ xs then xs else if 100000 ≤ xs.length then xs else xs ++ [x]) else xs
def makI (xs : List ND) (x : ND) : Int := if mayB xs x then (if x ∈ xs then (xs.idxOf x : Nat) else if 100000 ≤ xs.length then 0 else (xs.length : Nat)) else 0
def makE (xs : List ND) (x : ND) : Int := if mayB xs x then (if x ∈ xs then 0 else if 100000 ≤ xs.length then 2 else 0) else 1
theorem idxOf_get {xs : List ND} {x : ND} (h : x ∈ xs) : xs[xs.idxOf x]? = some x := by
  have hl := List.idxOf_lt_length_of_mem h
  rw [List.getElem?_eq_getElem hl, List.getElem_idxOf hl]

/-! a map of texts to numbers -/
abbrev MD := DataW Unit
structure MapOk (kf : ND → List UInt8) (xs : List ND) (D : MD) : Prop where
  is : Maps.IsMap D
  has : ∀ s, Maps.has D (.string s) = true ↔ ∃ x ∈ xs, kf x = s
  at' : ∀ (j : Nat) x, xs[j]? = some x → ∀ z, D.atKey (.string (kf x)) z = .lit (.int .i64 j)
theorem mapOk_nil (kf : ND → List UInt8) : MapOk kf [] (.map []) :=
  ⟨Maps.isMap_empty, fun s => by rw [Maps.has_eq]; simp, fun j x h => by simp at h⟩
theorem MapOk.not {kf : ND → List UInt8} {xs : List ND} {D : MD} (h : MapOk kf xs D) (hi : ∀ {x y}, kf x = kf y → x = y) {x : ND} (hx : x ∉ xs) : Maps.has D (.string (kf x)) = false := by
  rw [Bool.eq_false_iff]
  intro hh
  obtain ⟨y, hy, e⟩ := (h.has _).1 hh
  exact hx (hi e ▸ hy)
theorem MapOk.yes {kf : ND → List UInt8} {xs : List ND} {D : MD} (h : MapOk kf xs D) {x : ND} (hx : x ∈ xs) : Maps.has D (.string (kf x)) = true := (h.has _).2 ⟨x, hx, rfl⟩
theorem mapOk_put {kf : ND → List UInt8} {xs : List ND} {D : MD} (h : MapOk kf xs D) (hi : ∀ {x y}, kf x = kf y → x = y) {x : ND} (hx : x ∉ xs) : MapOk kf (xs ++ [x]) (D.put (.string (kf x)) (.lit (.int .i64 (xs.length : Nat)))) := by
  refine ⟨h.is.put _ _, fun s => ?_, fun j y hy z => ?_⟩
  · by_cases hs : kf x = s
    · subst hs
      rw [Maps.has_put_same h.is (by trivial)]
      exact ⟨fun _ => ⟨x, by simp, rfl⟩, fun _ => rfl⟩
    · rw [Maps.has_put_other (fun e => hs (by injection e with e; exact e.symm)), h.has]
      constructor
      · rintro ⟨y, hy, e⟩; exact ⟨y, by simp [hy], e⟩
      · rintro ⟨y, hy, e⟩
        rcases List.mem_append.1 hy with hy | hy
        · exact ⟨y, hy, e⟩
        · rw [List.mem_singleton] at hy; subst hy; exact absurd e hs
  · rcases Nat.lt_or_ge j xs.length with hj | hj
    · rw [List.getElem?_append_left hj] at hy
      have hne : kf y ≠ kf x := fun e => hx (hi e ▸ List.mem_of_getElem? hy)
      rw [Maps.atKey_put_other (fun e => hne (by injection e))]
      exact h.at' j y hy z
    · rw [List.getElem?_append_right hj] at hy
      have : j - xs.length = 0 := by
        rcases hk : j - xs.length with _ | k
        · rfl
        · rw [hk] at hy; simp at hy
      rw [this] at hy
      injection hy with hy
      subst hy
      rw [Maps.atKey_put_same h.is (by trivial), show j = xs.length by omega]
end Go.KK

/- Memory: an arena (a struct of a row of nodes and a map of their texts), and what is left alone. -/
namespace Go.KK
open Go.RowKit
set_option linter.unusedVariables false
set_option linter.unusedSimpArgs false

/-- Of what was there nothing has turned, but in F. -/
structure Turn (F : Nat → Prop) (w w' : World) : Prop where
  os : w'.os = w.os
  tape : w'.tape = w.tape
  output : w'.output = w.output
  size : w.heap.size ≤ w'.heap.size
  block : ∀ k, k < w.heap.size → ¬ F k → w'.heap[k]? = w.heap[k]?
theorem Turn.of_below {F : Nat → Prop} {w w' : World} (h : Below w.heap.size w w') : Turn F w w' := ⟨h.os, h.tape, h.output, h.size, fun k hk _ => h.block k hk⟩
theorem Turn.refl (F : Nat → Prop) (w : World) : Turn F w w := ⟨rfl, rfl, rfl, Nat.le_refl _, fun _ _ _ => rfl⟩
theorem Turn.trans {F F' : Nat → Prop} {a b c : World} (h : Turn F a b) (k : Turn F' b c) (hf : ∀ k, F' k → F k ∨ a.heap.size ≤ k) : Turn F a c :=
  ⟨k.os.trans h.os, k.tape.trans h.tape, k.output.trans h.output, Nat.le_trans h.size k.size, fun i hi hn => (k.block i (Nat.lt_of_lt_of_le hi h.size) fun hh => (hf i hh).elim hn (fun h => by omega)).trans (h.block i hi hn)⟩
theorem Turn.below {F : Nat → Prop} {w w' : World} {B : Nat} (h : Turn F w w') (hf : ∀ b, F b → B ≤ b) (hB : B ≤ w.heap.size) : Below B w w' :=
  ⟨h.os, h.tape, h.output, h.size, fun k hk => h.block k (Nat.lt_of_lt_of_le hk hB) fun hh => by have := hf k hh; omega⟩
theorem Turn.grown {F : Nat → Prop} {w w' : World} {r : Option Nat} (h : w.grownBy w' r) (hr : ∀ b, r = some b → F b ∨ w.heap.size ≤ b) : Turn F w w' :=
  ⟨h.os, h.tape, h.output, h.size, fun k hk hn => h.block k hk fun e => (hr k e.symm).elim hn (fun h => by omega)⟩
theorem Turn.setCell {F : Nat → Prop} {w : World} {a : Addr} (v : Value) (ha : F a.block ∨ w.heap.size ≤ a.block) : Turn F w (w.setCell a v) :=
  have h := (Below.refl (Nat.min a.block a.block) w).setCell (p := a) (Nat.min_le_left _ _) v
  ⟨h.os, h.tape, h.output, h.size, fun k hk hn => Below.heap_setCell w a v k fun e => ha.elim (fun h => hn (e ▸ h)) (fun h => by omega)⟩
theorem Turn.mono {F F' : Nat → Prop} {w w' : World} (h : Turn F w w') (hf : ∀ k, F k → F' k) : Turn F' w w' := ⟨h.os, h.tape, h.output, h.size, fun k hk hn => h.block k hk fun e => hn (hf k e)⟩

def ND.cells (x : ND) (q : Value) : List Value := [.int .i64 x.o, .int .i64 x.n, .string x.s, q]
/-- The cells of a row of nodes, whose lists' heads are these. -/
def nds (xs : List ND) (qs : List Value) : List Value := (List.zipWith ND.cells xs qs).flatten
/-- The value q is a list of numbers that reads. -/
def In1 (w : World) (q : Value) (l : List Int) : Prop := ∃ A c, q = .slice A l.length c ∧ SlA w 1 A l.length c (l.map (.int .i64))
/-- The slice reads as a row of nodes. -/
def NdA (w : World) (A : Option Addr) (n c : Nat) (xs : List ND) : Prop :=
  ∃ qs : List Value, qs.length = xs.length ∧ SlA w 4 A n c (nds xs qs) ∧ ∀ (j : Nat) x q, xs[j]? = some x → qs[j]? = some q → In1 w q x.l

theorem flat_len {α : Type} (m : Nat) : ∀ (ls : List (List α)), (∀ l ∈ ls, l.length = m) → ls.flatten.length = ls.length * m
  | [], _ => by simp
  | l :: ls, h => by
    rw [List.flatten_cons, List.length_append, h l (by simp), flat_len m ls (fun x hx => h x (by simp [hx])), List.length_cons, Nat.succ_mul]
    omega
theorem flat_get {α : Type} (m : Nat) : ∀ (ls : List (List α)) (j k : Nat) (l : List α), (∀ l ∈ ls, l.length = m) → ls[j]? = some l → k < m → ls.flatten[j * m + k]? = l[k]?
  | [], _, _, _, _, h, _ => by cases h
  | x :: ls, 0, k, l, h7, h, hk => by
    simp at h; subst h
    rw [List.flatten_cons, Nat.zero_mul, Nat.zero_add, List.getElem?_append_left (by rw [h7 x (by simp)]; exact hk)]
  | x :: ls, j + 1, k, l, h7, h, hk => by
    have hx := h7 x (by simp)
    rw [List.flatten_cons, List.getElem?_append_right (by rw [hx, Nat.succ_mul]; omega), hx, show (j + 1) * m + k - m = j * m + k by rw [Nat.succ_mul]; omega]
    exact flat_get m ls j k l (fun y hy => h7 y (by simp [hy])) (by simpa using h) hk
theorem nds_mem (xs : List ND) (qs : List Value) : ∀ l ∈ List.zipWith ND.cells xs qs, l.length = 4 := by
  intro l hl
  obtain ⟨j, hj, rfl⟩ := List.mem_iff_getElem.1 hl
  rw [List.getElem_zipWith]
  rfl
theorem nds_len {xs : List ND} {qs : List Value} (h : qs.length = xs.length) : (nds xs qs).length = xs.length * 4 := by
  unfold nds
  rw [flat_len 4 _ (nds_mem xs qs), List.length_zipWith, h, Nat.min_self]
theorem nds_get {xs : List ND} {qs : List Value} {j k : Nat} {x : ND} {q : Value} (hx : xs[j]? = some x) (hq : qs[j]? = some q) (hk : k < 4) : (nds xs qs)[j * 4 + k]? = (x.cells q)[k]? :=
  flat_get 4 _ j k _ (nds_mem xs qs) (by rw [List.getElem?_zipWith, hx, hq]) hk
theorem nds_snoc {xs : List ND} {qs : List Value} (h : qs.length = xs.length) (x : ND) (q : Value) : nds (xs ++ [x]) (qs ++ [q]) = nds xs qs ++ x.cells q := by
  unfold nds
  rw [List.zipWith_append h.symm, List.flatten_append]
  simp

section
variable {w w' : World} {A : Option Addr} {n c : Nat} {xs : List ND}
theorem In1.keep {q : Value} {l : List Int} (h : In1 w q l) (hk : ∀ b o u, w.cell? ⟨b, o, none⟩ = some u → w'.cell? ⟨b, o, none⟩ = some u) : In1 w' q l := by
  obtain ⟨A, c, e, hs⟩ := h
  exact ⟨A, c, e, hs.keep hk⟩
theorem In1.ext {q : Value} {l : List Int} (h : In1 w q l) (hb : Below w.heap.size w w') : In1 w' q l := by
  obtain ⟨A, c, e, hs⟩ := h
  exact ⟨A, c, e, hs.ext hb⟩
/-- A list reads on, where its own block is as it was. -/
theorem In1.kept {q : Value} {l : List Int} (h : In1 w q l) (hk : ∀ b, l ≠ [] → q.ownBlock = some b → w'.heap[b]? = w.heap[b]?) : In1 w' q l := by
  obtain ⟨A, c, rfl, hs⟩ := h
  refine ⟨A, c, rfl, hs.nc, hs.cm, hs.len, fun j u hj => ?_⟩
  obtain ⟨b, off, rfl, hc⟩ := hs.cells j u hj
  refine ⟨b, off, rfl, ?_⟩
  rw [World.cell?_of_block (a := ⟨b, off + j, none⟩) (hk b (fun e => by rw [e] at hj; simp at hj) rfl)]
  exact hc
theorem NdA.keep (h : NdA w A n c xs) (hk : ∀ b o u, w.cell? ⟨b, o, none⟩ = some u → w'.cell? ⟨b, o, none⟩ = some u) : NdA w' A n c xs := by
  obtain ⟨qs, h1, h2, h3⟩ := h
  exact ⟨qs, h1, h2.keep hk, fun j x q hx hq => (h3 j x q hx hq).keep hk⟩
theorem NdA.ext (h : NdA w A n c xs) (hb : Below w.heap.size w w') : NdA w' A n c xs :=
  h.keep fun b o u hc => (hb.cell (p := ⟨b, o, none⟩) (block_lt_of_cell hc)).trans hc
theorem NdA.drewN (h : NdA w A n c xs) (k : Nat) : NdA (w.drewN k) A n c xs := h.keep fun _ _ _ hc => hc
theorem NdA.len (h : NdA w A n c xs) : xs.length = n := by
  obtain ⟨qs, h1, h2, h3⟩ := h
  have := h2.len
  rw [nds_len h1] at this
  omega
theorem NdA.nc (h : NdA w A n c xs) : n ≤ c ∧ c ≤ maxLen := by
  obtain ⟨qs, h1, h2, h3⟩ := h
  exact ⟨h2.nc, h2.cm⟩
theorem NdA.nil (w : World) : NdA w none 0 0 [] := ⟨[], rfl, SlA.nil _ _, fun j x q h => by simp at h⟩
/-- What one node's cells are. -/
theorem NdA.at (h : NdA w A n c xs) {j : Nat} (hj : j < n) : ∃ b off x A' c', A = some ⟨b, off, none⟩ ∧ xs[j]? = some x ∧ w.cell? ⟨b, off + j * 4, none⟩ = some (.int .i64 x.o) ∧ w.cell? ⟨b, off + j * 4 + 1, none⟩ = some (.int .i64 x.n) ∧ w.cell? ⟨b, off + j * 4 + 2, none⟩ = some (.string x.s) ∧
    w.cell? ⟨b, off + j * 4 + 3, none⟩ = some (.slice A' x.l.length c') ∧ SlA w 1 A' x.l.length c' (x.l.map (.int .i64)) := by
  have hn := h.len
  obtain ⟨qs, h1, h2, h3⟩ := h
  have hx : xs[j]? = some (xs[j]'(by omega)) := List.getElem?_eq_getElem (by omega)
  have hq : qs[j]? = some (qs[j]'(by omega)) := List.getElem?_eq_getElem (by omega)
  generalize xs[j]'(by omega) = x at *
  generalize qs[j]'(by omega) = q at *
  obtain ⟨A', c', rfl, hs⟩ := h3 j x q hx hq
  obtain ⟨b, off, rfl, h0⟩ := h2.cells (j * 4 + 0) _ (nds_get hx hq (by decide))
  obtain ⟨b1, off1, e1, h1'⟩ := h2.cells (j * 4 + 1) _ (nds_get hx hq (by decide))
  obtain ⟨b2, off2, e2, h2'⟩ := h2.cells (j * 4 + 2) _ (nds_get hx hq (by decide))
  obtain ⟨b3, off3, e3, h3'⟩ := h2.cells (j * 4 + 3) _ (nds_get hx hq (by decide))
  injection e1 with e1; injection e1 with e1 f1
  injection e2 with e2; injection e2 with e2 f2
  injection e3 with e3; injection e3 with e3 f3
  subst e1; subst f1; subst e2; subst f2; subst e3; subst f3
  exact ⟨b, off, x, A', c', rfl, hx, h0, h1', h2', h3', hs⟩
end

/-- Nodes that an arena has made, one behind the other. -/
structure Okay (xs : List ND) : Prop where
  len : xs.length ≤ 100000
  nd : xs.Nodup
  may : ∀ (j : Nat) x, xs[j]? = some x → mayB (xs.take j) x = true
  w64 : ∀ (j : Nat) x, xs[j]? = some x → x.n < 9223372036854775808
theorem okay_nil : Okay [] := ⟨by decide, List.nodup_nil, fun j x h => by simp at h, fun j x h => by simp at h⟩
theorem okay_mak {xs : List ND} {x : ND} (h : Okay xs) (hn : x.n < 9223372036854775808) : Okay (makT xs x) := by
  unfold makT
  split
  · rename_i hm
    split
    · exact h
    · rename_i hx
      split
      · exact h
      · rename_i hl
        refine ⟨by simp; omega, ?_, fun j y hy => ?_, fun j y hy => ?_⟩
        · rw [List.nodup_append]
          exact ⟨h.nd, by simp, fun a ha b hb e => by rw [List.mem_singleton] at hb; subst hb; subst e; exact hx ha⟩
        · rcases Nat.lt_or_ge j xs.length with hj | hj
          · rw [List.getElem?_append_left hj] at hy
            rw [List.take_append_of_le_length (by omega)]
            exact h.may j y hy
          · rw [List.getElem?_append_right hj] at hy
            rcases hk : j - xs.length with _ | k
            · rw [hk] at hy
              injection hy with hy
              subst hy
              rw [show j = xs.length by omega, List.take_append_of_le_length (Nat.le_refl _), List.take_length]
              exact hm
            · rw [hk] at hy; simp at hy
        · rcases Nat.lt_or_ge j xs.length with hj | hj
          · rw [List.getElem?_append_left hj] at hy
            exact h.w64 j y hy
          · rw [List.getElem?_append_right hj] at hy
            rcases hk : j - xs.length with _ | k
            · rw [hk] at hy
              injection hy with hy
              subst hy
              exact hn
            · rw [hk] at hy; simp at hy
  · exact h

/-- The block st is an arena of these nodes; all its blocks lie in Z. -/
structure Ar (P : Program) (NT K E T : TypeId) (kf : ND → List UInt8) (w : World) (Z : Nat → Prop) (st mp : Nat) (v : Value) (xs : List ND) (qs : List Value) : Prop where
  box : w.heap[st]? = some (.cells #[v, .map (some mp)] T (0, 0))
  row : w.ownsRow 0 NT 4 v xs.length (nds xs qs)
  ql : qs.length = xs.length
  rd : ∀ (j : Nat) x q, xs[j]? = some x → qs[j]? = some q → In1 w q x.l
  own : ∀ (j : Nat) x q b, xs[j]? = some x → qs[j]? = some q → x.l ≠ [] → q.ownBlock = some b → Z b ∧ b ≠ st ∧ b ≠ mp ∧ v.ownBlock ≠ some b
  map : ∃ D, w.ownsMap P K (plainElem P E) mp xs.length D ∧ MapOk kf xs D
  zst : Z st
  zmp : Z mp ∧ mp ≠ st
  zv : ∀ b, v.ownBlock = some b → Z b ∧ b ≠ st ∧ b ≠ mp
  zlt : ∀ b, Z b → b < w.heap.size
  ok : Okay xs

section
variable {P : Program} {NT K E T : TypeId} {kf : ND → List UInt8} {w w' : World} {Z : Nat → Prop} {st mp : Nat} {v : Value} {xs : List ND} {qs : List Value}
theorem own_block {base : Nat} {e : TypeId} {size n : Nat} {cs : List Value} (h : w.ownsRow base e size v n cs) (hb : ∀ b, v.ownBlock = some b → w'.heap[b]? = w.heap[b]?) : w'.ownsRow base e size v n cs := by
  refine ⟨h.1, ?_⟩
  rcases h.2 with h2 | ⟨g, cap, cur, rfl, hg, hh, r⟩
  · exact .inl h2
  · exact .inr ⟨g, cap, cur, rfl, hg, (hb g rfl).trans hh, r⟩
theorem map_block {R : Value → Option (MD × List MemPlace)} {b n : Nat} {D : MD} (h : w.ownsMap P K R b n D) (hb : w'.heap[b]? = w.heap[b]?) : w'.ownsMap P K R b n D := by
  obtain ⟨es, clock, h1, h2⟩ := h
  exact ⟨es, clock, hb.trans h1, h2⟩
/-- An arena stays, where nothing of its own has turned. -/
theorem Ar.kept (h : Ar P NT K E T kf w Z st mp v xs qs) (hb : ∀ b, Z b → w'.heap[b]? = w.heap[b]?) (hs : w.heap.size ≤ w'.heap.size) : Ar P NT K E T kf w' Z st mp v xs qs := by
  obtain ⟨D, hD, hm⟩ := h.map
  exact ⟨(hb _ h.zst).trans h.box, own_block h.row fun b e => hb b (h.zv b e).1, h.ql, fun j x q hx hq => (h.rd j x q hx hq).kept fun b hl e => hb b (h.own j x q b hx hq hl e).1, h.own, ⟨D, map_block hD (hb _ h.zmp.1), hm⟩, h.zst, h.zmp, h.zv, fun b hz => Nat.lt_of_lt_of_le (h.zlt b hz) hs, h.ok⟩
theorem Ar.ext (h : Ar P NT K E T kf w Z st mp v xs qs) (hb : Below w.heap.size w w') : Ar P NT K E T kf w' Z st mp v xs qs :=
  h.kept (fun b hz => hb.block b (h.zlt b hz)) hb.size
theorem Ar.turn {F : Nat → Prop} (h : Ar P NT K E T kf w Z st mp v xs qs) (ht : Turn F w w') (hd : ∀ b, Z b → ¬ F b) : Ar P NT K E T kf w' Z st mp v xs qs :=
  h.kept (fun b hz => ht.block b (h.zlt b hz) (hd b hz)) ht.size
theorem Ar.drewN (h : Ar P NT K E T kf w Z st mp v xs qs) (n : Nat) : Ar P NT K E T kf (w.drewN n) Z st mp v xs qs := h.kept (fun _ _ => rfl) (Nat.le_refl _)
/-- The row reads. -/
theorem Ar.rows (h : Ar P NT K E T kf w Z st mp v xs qs) : ∃ A c, v = .slice A xs.length c ∧ NdA w A xs.length c xs := by
  obtain ⟨A, c, rfl, hs⟩ := SlA.owned h.row
  exact ⟨A, c, rfl, qs, h.ql, hs, h.rd⟩
/-- One node more. -/
theorem Ar.push (h : Ar P NT K E T kf w Z st mp v xs qs) {v' q : Value} {x : ND} {D : MD} (hok : Okay (xs ++ [x]))
    (box : w'.heap[st]? = some (.cells #[v', .map (some mp)] T (0, 0))) (row : w'.ownsRow 0 NT 4 v' (xs.length + 1) (nds xs qs ++ x.cells q)) (hv : v'.ownBlock = v.ownBlock ∨ ∀ b, v'.ownBlock = some b → w.heap.size ≤ b ∧ b < w'.heap.size)
    (hq : In1 w' q x.l) (hqn : x.l ≠ [] → ∀ b, q.ownBlock = some b → w.heap.size ≤ b ∧ b < w'.heap.size ∧ v'.ownBlock ≠ some b) (map : w'.ownsMap P K (plainElem P E) mp (xs.length + 1) D) (hm : MapOk kf (xs ++ [x]) D)
    (hl : ∀ b, Z b → b ≠ st → b ≠ mp → v.ownBlock ≠ some b → w'.heap[b]? = w.heap[b]?) (hs : w.heap.size ≤ w'.heap.size) :
    Ar P NT K E T kf w' (fun b => Z b ∨ (w.heap.size ≤ b ∧ b < w'.heap.size)) st mp v' (xs ++ [x]) (qs ++ [q]) := by
  have hlt := h.zlt
  have h1 := hlt _ h.zst; have h2 := hlt _ h.zmp.1
  refine ⟨box, by rw [nds_snoc h.ql, List.length_append]; exact row, by simp [h.ql], fun j y p hy hp => ?_, fun j y p b hy hp hne hb => ?_, ⟨D, by rw [List.length_append]; exact map, hm⟩, .inl h.zst, ⟨.inl h.zmp.1, h.zmp.2⟩, fun b hb => ?_, fun b hb => ?_, hok⟩
  · rcases Nat.lt_or_ge j xs.length with hj | hj
    · rw [List.getElem?_append_left hj] at hy
      rw [List.getElem?_append_left (by rw [h.ql]; exact hj)] at hp
      refine (h.rd j y p hy hp).kept fun b hne e => ?_
      obtain ⟨z, z1, z2, z3⟩ := h.own j y p b hy hp hne e
      exact hl b z z1 z2 z3
    · rw [List.getElem?_append_right hj] at hy
      rw [List.getElem?_append_right (by rw [h.ql]; exact hj), h.ql] at hp
      rcases hk : j - xs.length with _ | k
      · rw [hk] at hy hp
        injection hy with hy; injection hp with hp
        subst hy; subst hp
        exact hq
      · rw [hk] at hy; simp at hy
  · rcases Nat.lt_or_ge j xs.length with hj | hj
    · rw [List.getElem?_append_left hj] at hy
      rw [List.getElem?_append_left (by rw [h.ql]; exact hj)] at hp
      obtain ⟨z, z1, z2, z3⟩ := h.own j y p b hy hp hne hb
      refine ⟨.inl z, z1, z2, fun e => ?_⟩
      rcases hv with hv | hv
      · exact z3 (hv ▸ e)
      · have := (hv b e).1; have := hlt b z; omega
    · rw [List.getElem?_append_right hj] at hy
      rw [List.getElem?_append_right (by rw [h.ql]; exact hj), h.ql] at hp
      rcases hk : j - xs.length with _ | k
      · rw [hk] at hy hp
        injection hy with hy; injection hp with hp
        subst hy; subst hp
        obtain ⟨a1, a2, a3⟩ := hqn hne b hb
        exact ⟨.inr ⟨a1, a2⟩, by omega, by omega, a3⟩
      · rw [hk] at hy; simp at hy
  · rcases hv with hv | hv
    · obtain ⟨z, z1, z2⟩ := h.zv b (hv ▸ hb)
      exact ⟨.inl z, z1, z2⟩
    · obtain ⟨a1, a2⟩ := hv b hb
      exact ⟨.inr ⟨a1, a2⟩, by omega, by omega⟩
  · rcases hb with hb | hb
    · exact Nat.lt_of_lt_of_le (hlt b hb) hs
    · exact hb.2
end
end Go.KK

/- plain: what layers 4 and 17 do with an arena's nodes, in plain words. -/
namespace Go.KK
set_option linter.unusedVariables false
set_option linter.unusedSimpArgs false

def atN (n : Int) : ND := ⟨1, n, ⟨#[]⟩, []⟩
def ndN (o : Int) (l : List Int) : ND := ⟨o, 0, ⟨#[]⟩, l⟩
def nd0 : ND := ⟨0, 0, ⟨#[]⟩, []⟩
/-- What making a node gives: the arena, the number, the error. -/
def mk (xs : List ND) (x : ND) : List ND × Int × Int := (makT xs x, makI xs x, makE xs x)
def nodeF (xs : List ND) (t : Int) : ND := if hasB xs t then xs.getD t.toNat Go.KK.nd0 else Go.KK.nd0
def nodeE (xs : List ND) (t : Int) : Int := if hasB xs t then 0 else 4
/-- A mint. -/
structure MT where
  k : Int
  q : Int
  g : List (Int × Int)
  p : List Int
deriving DecidableEq
def atoms (n : Nat) : List ND := (List.range n).map fun j : Nat => atN (j : Int)
theorem atoms_succ (n : Nat) : atoms (n + 1) = atoms n ++ [atN n] := by unfold atoms; rw [List.range_succ, List.map_append]; rfl
theorem atoms_len (n : Nat) : (atoms n).length = n := by simp [atoms]
theorem atN_mem {n : Nat} {x : Int} : atN x ∈ atoms n ↔ 0 ≤ x ∧ x < n := by
  unfold atoms
  rw [List.mem_map]
  constructor
  · rintro ⟨j, hj, e⟩
    have := List.mem_range.1 hj
    injection e with _ e
    omega
  · rintro ⟨h1, h2⟩
    exact ⟨x.toNat, List.mem_range.2 (by omega), by unfold atN; rw [show ((x.toNat : Nat) : Int) = x by omega]⟩
theorem may_atom (xs : List ND) {x : Int} (h : 0 ≤ x) : mayB xs (atN x) = true := by
  have e : mayB xs (atN x) = (true && true && decide (0 ≤ x) && true && (true || x == 0) && true && true && true) := rfl
  rw [e, decide_eq_true h]; rfl
theorem mak_new {xs : List ND} {x : ND} (hm : mayB xs x = true) (hx : x ∉ xs) (hl : xs.length < 100000) : makT xs x = xs ++ [x] ∧ makI xs x = (xs.length : Nat) ∧ makE xs x = 0 := by
  unfold makT makI makE
  rw [hm, if_pos rfl, if_pos rfl, if_pos rfl, if_neg hx, if_neg hx, if_neg hx, if_neg (by omega), if_neg (by omega), if_neg (by omega)]
  exact ⟨rfl, rfl, rfl⟩
theorem mak_old {xs : List ND} {x : ND} (hm : mayB xs x = true) (hx : x ∈ xs) : makT xs x = xs ∧ makI xs x = (xs.idxOf x : Nat) ∧ makE xs x = 0 := by
  unfold makT makI makE
  rw [hm, if_pos rfl, if_pos rfl, if_pos rfl, if_pos hx, if_pos hx, if_pos hx]
  exact ⟨rfl, rfl, rfl⟩
theorem atoms_step {n : Nat} (hn : n < 100000) : makT (atoms n) (atN n) = atoms (n + 1) := by
  rw [(mak_new (may_atom _ (by omega)) (fun h => by have := atN_mem.1 h; omega) (by rw [atoms_len]; exact hn)).1, atoms_succ]
end Go.KK

/- plain: nodes made one behind the other: a node that is made again is the same term (TermOnce). -/
namespace Go.KK
open Go.RowKit
set_option linter.unusedVariables false
set_option linter.unusedSimpArgs false

theorem has_iff {xs : List ND} {t : Int} : hasB xs t = true ↔ 0 ≤ t ∧ t < (xs.length : Nat) := by
  unfold hasB
  simp only [Bool.and_eq_true, decide_eq_true_eq]
theorem may_app {xs : List ND} (l : List ND) {x : ND} (h : mayB xs x = true) : mayB (xs ++ l) x = true := by
  unfold mayB at h ⊢
  simp only [Bool.and_eq_true, List.all_eq_true, Bool.or_eq_true] at h ⊢
  refine ⟨⟨h.1.1, fun t ht => ?_⟩, h.2.imp id fun h2 => ?_⟩
  · have := h.1.2 t ht
    unfold hasB at this ⊢
    simp only [Bool.and_eq_true, decide_eq_true_eq, List.length_append] at this ⊢
    omega
  · have h3 : opAt xs (x.l.getD 1 0) = 2 := eq_of_beq h2
    have h4 : opAt (xs ++ l) (x.l.getD 1 0) = 2 := by
      unfold opAt at h3 ⊢
      rcases hh : xs[(x.l.getD 1 0).toNat]? with _ | y
      · rw [hh] at h3; exact absurd h3 (by decide)
      · rw [List.getElem?_append_left (List.getElem?_eq_some_iff.1 hh).1, hh]
        rw [hh] at h3; exact h3
    exact beq_iff_eq.2 h4
theorem take_one {α : Type} {l : List α} {j : Nat} {x : α} (h : l[j]? = some x) : l.take (j + 1) = l.take j ++ [x] := by rw [List.take_add_one, h]; rfl
theorem mak_pre (xs : List ND) (x : ND) : ∃ m, makT xs x = xs ++ m := by
  unfold makT
  split
  · split
    · exact ⟨[], by simp⟩
    · split
      · exact ⟨[], by simp⟩
      · exact ⟨[x], rfl⟩
  · exact ⟨[], by simp⟩
end Go.KK

/- plain: texts' nodes, a node made twice (of TermShort's plain text, without its atoms). -/
namespace Go.KK
open Go.RowKit
set_option linter.unusedVariables false
set_option linter.unusedSimpArgs false

/-- A text's node. -/
def txN (s : ByteArray) : ND := ⟨2, 0, s, []⟩
theorem mak_len (xs : List ND) (x : ND) : (makT xs x).length ≤ xs.length + 1 := by
  unfold makT
  split
  · split
    · omega
    · split
      · omega
      · simp
  · omega
theorem makI_b {xs : List ND} (h : xs.length ≤ 100000) (x : ND) : 0 ≤ makI xs x ∧ makI xs x ≤ 100000 := by
  unfold makI
  split
  · split
    · rename_i hx
      have := List.idxOf_lt_length_of_mem hx
      omega
    · split <;> omega
  · omega
end Go.KK

/- plain: a term's text, and what a writer writes of it that stops behind 4000 bytes. -/
namespace Go.KK
open Go.RowKit
set_option linter.unusedVariables false
set_option linter.unusedSimpArgs false

/-- Behind n bytes: all of it is written, if it ends by 4000; else so much that it is beyond. -/
def Cut (n : Nat) (tgt out : List UInt8) : Prop := (n + tgt.length ≤ 4000 → out = tgt) ∧ (4000 < n + tgt.length → 4000 < n + out.length)
theorem Cut.app {n : Nat} {t1 o1 t2 o2 : List UInt8} (h : Cut n t1 o1) (k : Cut (n + o1.length) t2 o2) : Cut n (t1 ++ t2) (o1 ++ o2) := by
  refine ⟨fun h' => ?_, fun h' => ?_⟩
  · rw [List.length_append] at h'
    have e1 := h.1 (by omega)
    subst e1
    rw [k.1 (by omega)]
  · rw [List.length_append] at h' ⊢
    by_cases h1 : n + t1.length ≤ 4000
    · have e1 := h.1 h1
      subst e1
      have := k.2 (by omega)
      omega
    · have := h.2 (by omega)
      omega
end Go.KK

/- plain: layers 4 and 11: secrets in words of makes; what was made once is made again. -/
namespace Go.KK
open Go.RowKit
set_option linter.unusedVariables false
set_option linter.unusedSimpArgs false

/-- A step: the arena, the number, the error. -/
abbrev Rs := List ND × Int × Int
/-- A number's node. -/
def At (X : List ND) (i : Int) (x : ND) : Prop := 0 ≤ i ∧ X[i.toNat]? = some x
theorem At.ext {X : List ND} {i : Int} {x : ND} (h : At X i x) (m : List ND) : At (X ++ m) i x :=
  ⟨h.1, by rw [List.getElem?_append_left (List.getElem?_eq_some_iff.1 h.2).1]; exact h.2⟩
theorem At.eq {X : List ND} {i : Int} {x y : ND} (h : At X i x) (k : At X i y) : x = y := by
  have := h.2.symm.trans k.2
  injection this
theorem At.uniq {X : List ND} (ok : Okay X) {i j : Int} {x : ND} (h : At X i x) (k : At X j x) : i = j := by
  have hi := (List.getElem?_eq_some_iff.1 h.2).1
  have := (List.getElem?_inj hi ok.nd).1 (h.2.trans k.2.symm)
  have h1 := h.1; have h2 := k.1
  omega
theorem At.has {X : List ND} {i : Int} {x : ND} (h : At X i x) : hasB X i = true := by
  have hi := (List.getElem?_eq_some_iff.1 h.2).1
  have := h.1
  exact has_iff.2 ⟨h.1, by omega⟩
theorem has_ext {X : List ND} {i : Int} (h : hasB X i = true) (m : List ND) : hasB (X ++ m) i = true := by
  have := has_iff.1 h
  exact has_iff.2 ⟨this.1, by rw [List.length_append]; omega⟩
theorem mk_at {xs : List ND} {x : ND} (h : makE xs x = 0) : At (makT xs x) (makI xs x) x ∧ mayB (makT xs x) x = true := by
  unfold makE at h
  by_cases hm : mayB xs x = true
  · rw [if_pos hm] at h
    by_cases hx : x ∈ xs
    · have e : makT xs x = xs := by unfold makT; rw [if_pos hm, if_pos hx]
      have ei : makI xs x = ((xs.idxOf x : Nat) : Int) := by unfold makI; rw [if_pos hm, if_pos hx]
      rw [e, ei]
      exact ⟨⟨by omega, by rw [Int.toNat_natCast]; exact idxOf_get hx⟩, hm⟩
    · rw [if_neg hx] at h
      by_cases hl : 100000 ≤ xs.length
      · rw [if_pos hl] at h; cases h
      · have e : makT xs x = xs ++ [x] := by unfold makT; rw [if_pos hm, if_neg hx, if_neg hl]
        have ei : makI xs x = ((xs.length : Nat) : Int) := by unfold makI; rw [if_pos hm, if_neg hx, if_neg hl]
        rw [e, ei]
        exact ⟨⟨by omega, by rw [Int.toNat_natCast, List.getElem?_append_right (Nat.le_refl _), Nat.sub_self]; rfl⟩, may_app [x] hm⟩
  · rw [if_neg hm] at h; cases h
theorem mk_fix {Y : List ND} (ok : Okay Y) {i : Int} {x : ND} (h : At Y i x) (hm : mayB Y x = true) : mk Y x = (Y, i, 0) := by
  have hx : x ∈ Y := List.mem_of_getElem? h.2
  have ei : ((Y.idxOf x : Nat) : Int) = i := At.uniq ok (x := x) ⟨by omega, by rw [Int.toNat_natCast]; exact idxOf_get hx⟩ h
  unfold mk makT makI makE
  rw [if_pos hm, if_pos hx, if_pos hm, if_pos hx, if_pos hm, if_pos hx, ei]
/-- A step that goes on an arena, and that an arena which went on takes again as it was. -/
structure Sb (F : List ND → Rs) : Prop where
  ext : ∀ xs, ∃ m, (F xs).1 = xs ++ m
  fix : ∀ xs m, Okay ((F xs).1 ++ m) → (F xs).2.2 = 0 → F ((F xs).1 ++ m) = ((F xs).1 ++ m, (F xs).2.1, 0)
  has : ∀ xs, (F xs).2.2 = 0 → hasB (F xs).1 (F xs).2.1 = true
  ok : ∀ xs, Okay xs → Okay (F xs).1
theorem sb_mk (x : ND) (hn : x.n < 9223372036854775808) : Sb fun xs => mk xs x :=
  ⟨fun xs => mak_pre xs x, fun xs m ok h => mk_fix ok ((mk_at h).1.ext m) (may_app m (mk_at h).2), fun _ h => (mk_at h).1.has, fun _ ok => okay_mak ok hn⟩
theorem sb_nd (o : Int) (l : List Int) : Sb fun xs => mk xs (ndN o l) := sb_mk _ (by show (0 : Int) < _; decide)
theorem sb_tx (s : ByteArray) : Sb fun xs => mk xs (txN s) := sb_mk _ (by show (0 : Int) < _; decide)
/-- A secret that was derived: of which one, with which label and context. -/
def KeyAt (X : List ND) (i s : Int) (lab : ByteArray) (c : Int) : Prop := ∃ t, At X t (txN lab) ∧ At X i (ndN 6 [s, t, c])
def DvAt (X : List ND) (i s : Int) (lab : ByteArray) : Prop := ∃ n, At X n (ndN 3 []) ∧ KeyAt X i s lab n
theorem KeyAt.ext {X : List ND} {i s c : Int} {lab : ByteArray} (h : KeyAt X i s lab c) (m : List ND) : KeyAt (X ++ m) i s lab c := by
  obtain ⟨t, h1, h2⟩ := h; exact ⟨t, h1.ext m, h2.ext m⟩
theorem DvAt.ext {X : List ND} {i s : Int} {lab : ByteArray} (h : DvAt X i s lab) (m : List ND) : DvAt (X ++ m) i s lab := by
  obtain ⟨n, h1, h2⟩ := h; exact ⟨n, h1.ext m, h2.ext m⟩
theorem KeyAt.eq {X : List ND} {i s s' c c' : Int} {lab lab' : ByteArray} (h : KeyAt X i s lab c) (k : KeyAt X i s' lab' c') : s = s' ∧ lab = lab' ∧ c = c' := by
  obtain ⟨t, h1, h2⟩ := h; obtain ⟨t', k1, k2⟩ := k
  have e := h2.eq k2
  unfold ndN at e
  simp only [ND.mk.injEq, List.cons.injEq, true_and, and_true] at e
  obtain ⟨e1, e2, e3⟩ := e
  subst e2
  have e4 := h1.eq k1
  unfold txN at e4
  simp only [ND.mk.injEq, true_and, and_true] at e4
  exact ⟨e1, e4, e3⟩
theorem KeyAt.uniq {X : List ND} (ok : Okay X) {i j s c : Int} {lab : ByteArray} (h : KeyAt X i s lab c) (k : KeyAt X j s lab c) : i = j := by
  obtain ⟨t, h1, h2⟩ := h; obtain ⟨t', k1, k2⟩ := k
  obtain rfl := At.uniq ok h1 k1
  exact At.uniq ok h2 k2
theorem DvAt.eq {X : List ND} {i s s' : Int} {lab lab' : ByteArray} (h : DvAt X i s lab) (k : DvAt X i s' lab') : s = s' ∧ lab = lab' := by
  obtain ⟨n, -, h2⟩ := h; obtain ⟨n', -, k2⟩ := k
  have e := h2.eq k2
  exact ⟨e.1, e.2.1⟩
theorem DvAt.uniq {X : List ND} (ok : Okay X) {i j s : Int} {lab : ByteArray} (h : DvAt X i s lab) (k : DvAt X j s lab) : i = j := by
  obtain ⟨n, h1, h2⟩ := h; obtain ⟨n', k1, k2⟩ := k
  obtain rfl := At.uniq ok h1 k1
  exact KeyAt.uniq ok h2 k2
theorem mk_at' {xs : List ND} {x : ND} (h : (mk xs x).2.2 = 0) : At (mk xs x).1 (mk xs x).2.1 x := (mk_at h).1
/-- What shared secrets in one are. -/
inductive PskAt (X : List ND) : Int → List Int → Prop
  | nil {i : Int} (h : At X i (txN ⟨#[]⟩)) : PskAt X i []
  | snoc {i p s : Int} {l : List Int} (hp : PskAt X p l) (h : At X i (ndN 5 [p, s])) : PskAt X i (l ++ [s])
theorem PskAt.ext {X : List ND} {i : Int} {l : List Int} (h : PskAt X i l) (m : List ND) : PskAt (X ++ m) i l := by
  induction h with
  | nil h => exact .nil (h.ext m)
  | snoc _ h ih => exact .snoc ih (h.ext m)
theorem PskAt.eq {X : List ND} {i : Int} {l l' : List Int} (h : PskAt X i l) (k : PskAt X i l') : l = l' := by
  induction h generalizing l' with
  | nil h =>
    cases k with
    | nil _ => rfl
    | snoc hp h' => have := h.eq h'; unfold txN ndN at this; simp at this
  | snoc hp h ih =>
    cases k with
    | nil h' => have := h.eq h'; unfold txN ndN at this; simp at this
    | snoc hp' h' =>
      have e := h.eq h'
      unfold ndN at e
      simp only [ND.mk.injEq, List.cons.injEq, true_and, and_true] at e
      obtain ⟨rfl, rfl⟩ := e
      rw [ih hp']
theorem PskAt.uniq {X : List ND} (ok : Okay X) {i j : Int} {l : List Int} (h : PskAt X i l) (k : PskAt X j l) : i = j := by
  induction h generalizing j with
  | nil h =>
    generalize hl : ([] : List Int) = l' at k
    cases k with
    | nil h' => exact At.uniq ok h h'
    | snoc hp h' => simp at hl
  | @snoc i p s l hp h ih =>
    generalize hl : l ++ [s] = l' at k
    cases k with
    | nil h' => simp at hl
    | @snoc _ p' s' m hp' h' =>
      have e := List.append_inj' hl rfl
      obtain ⟨rfl, e2⟩ := e
      simp at e2
      subst e2
      obtain rfl := ih hp'
      exact At.uniq ok h h'
end Go.KK

/- plain: layer 12: hashes, tags, contexts, chains in words of makes. -/
namespace Go.KK
open Go.RowKit
set_option linter.unusedVariables false
set_option linter.unusedSimpArgs false

/-- A hash of a list. -/
def HsAt (X : List ND) (i : Int) (l : List Int) : Prop := ∃ x, At X x (ndN 3 l) ∧ At X i (ndN 4 [x])
theorem HsAt.ext {X : List ND} {i : Int} {l : List Int} (h : HsAt X i l) (m : List ND) : HsAt (X ++ m) i l := by
  obtain ⟨x, h1, h2⟩ := h; exact ⟨x, h1.ext m, h2.ext m⟩
theorem nd_inj {o : Int} {l l' : List Int} (h : ndN o l = ndN o l') : l = l' := by
  unfold ndN at h
  simp only [ND.mk.injEq, true_and] at h
  exact h
theorem HsAt.eq {X : List ND} {i : Int} {l l' : List Int} (h : HsAt X i l) (k : HsAt X i l') : l = l' := by
  obtain ⟨x, h1, h2⟩ := h; obtain ⟨x', k1, k2⟩ := k
  have e := Go.KK.nd_inj (h2.eq k2)
  simp only [List.cons.injEq, and_true] at e
  subst e
  exact Go.KK.nd_inj (h1.eq k1)
theorem HsAt.uniq {X : List ND} (ok : Okay X) {i j : Int} {l : List Int} (h : HsAt X i l) (k : HsAt X j l) : i = j := by
  obtain ⟨x, h1, h2⟩ := h; obtain ⟨x', k1, k2⟩ := k
  obtain rfl := At.uniq ok h1 k1
  exact At.uniq ok h2 k2
theorem HsAt.iff {X : List ND} (ok : Okay X) {i j : Int} {l m : List Int} (h : HsAt X i l) (k : HsAt X j m) : i = j ↔ l = m :=
  ⟨fun e => by subst e; exact h.eq k, fun e => by subst e; exact h.uniq ok k⟩
theorem At.iff {X : List ND} (ok : Okay X) {i j : Int} {x y : ND} (h : At X i x) (k : At X j y) : i = j ↔ x = y :=
  ⟨fun e => by subst e; exact h.eq k, fun e => by subst e; exact h.uniq ok k⟩
/-- A term's parts have lesser numbers. -/
theorem At.lt {X : List ND} (ok : Okay X) {i : Int} {o : Int} {l : List Int} (h : At X i (ndN o l)) : ∀ p ∈ l, 0 ≤ p ∧ p < i := fun p hp => by
  have hm := ok.may _ _ h.2
  unfold mayB at hm
  simp only [Bool.and_eq_true, List.all_eq_true] at hm
  have hx := has_iff.1 (hm.1.2 p hp)
  rw [List.length_take] at hx
  have := h.1
  omega
theorem HsAt.lt {X : List ND} (ok : Okay X) {i : Int} {l : List Int} (h : HsAt X i l) : ∀ p ∈ l, 0 ≤ p ∧ p < i := fun p hp => by
  obtain ⟨x, h1, h2⟩ := h
  have a := h1.lt ok p hp
  have b := h2.lt ok x (by simp)
  omega
/-! a chain of messages -/
/-- What a chain's hashes are made of. -/
inductive ChAt (X : List ND) (start : Int) : List (Int × Int × Int) → List Int → Int → Prop
  | nil : ChAt X start [] [] start
  | snoc {l : List (Int × Int × Int)} {out : List Int} {s c t n : Int} {m : Int × Int × Int} (h : ChAt X start l out s) (hc : HsAt X c [s, m.1, m.2.1]) (ht : At X t (ndN 11 [m.2.2, c])) (hn : HsAt X n [c, t]) : ChAt X start (l ++ [m]) (out ++ [c]) n
theorem ChAt.ext {X : List ND} {start : Int} {l : List (Int × Int × Int)} {out : List Int} {n : Int} (h : ChAt X start l out n) (v : List ND) : ChAt (X ++ v) start l out n := by
  induction h with
  | nil => exact .nil
  | snoc _ hc ht hn ih => exact .snoc ih (hc.ext v) (ht.ext v) (hn.ext v)
end Go.KK

/- plain: layer 12: contexts. -/
namespace Go.KK
open Go.RowKit
set_option linter.unusedVariables false
set_option linter.unusedSimpArgs false

def lbGroup : ByteArray := ⟨#[103, 114, 111, 117, 112]⟩
/-- A number's digits as a text. -/
def digB (n : Int) : ByteArray := ⟨(Lib.itoa n).toArray⟩
theorem digB_inj {n m : Int} (h : digB n = digB m) : n = m := by
  have := congrArg (fun s : ByteArray => s.data.toList) h
  exact itoa_inj (by simpa [digB] using this)
/-- What a context is made of. -/
def CtAt (X : List ND) (i id ep tr cf ex : Int) : Prop := ∃ g d, At X g (txN lbGroup) ∧ At X d (txN (digB ep)) ∧ At X i (ndN 3 [g, id, d, tr, cf, ex])
theorem CtAt.ext {X : List ND} {i id ep tr cf ex : Int} (h : CtAt X i id ep tr cf ex) (m : List ND) : CtAt (X ++ m) i id ep tr cf ex := by
  obtain ⟨g, d, h1, h2, h3⟩ := h; exact ⟨g, d, h1.ext m, h2.ext m, h3.ext m⟩
theorem txN_inj {s t : ByteArray} (h : txN s = txN t) : s = t := by
  unfold txN at h
  simp only [ND.mk.injEq, true_and, and_true] at h
  exact h
theorem CtAt.eq {X : List ND} {i id ep tr cf ex id' ep' tr' cf' ex' : Int} (h : CtAt X i id ep tr cf ex) (k : CtAt X i id' ep' tr' cf' ex') : id = id' ∧ ep = ep' ∧ tr = tr' ∧ cf = cf' ∧ ex = ex' := by
  obtain ⟨g, d, h1, h2, h3⟩ := h; obtain ⟨g', d', k1, k2, k3⟩ := k
  have e := Go.KK.nd_inj (h3.eq k3)
  simp only [List.cons.injEq, and_true] at e
  obtain ⟨-, e1, e2, e3, e4, e5⟩ := e
  subst e2
  exact ⟨e1, digB_inj (txN_inj (h2.eq k2)), e3, e4, e5⟩
theorem CtAt.uniq {X : List ND} (ok : Okay X) {i j id ep tr cf ex : Int} (h : CtAt X i id ep tr cf ex) (k : CtAt X j id ep tr cf ex) : i = j := by
  obtain ⟨g, d, h1, h2, h3⟩ := h; obtain ⟨g', d', k1, k2, k3⟩ := k
  obtain rfl := At.uniq ok h1 k1
  obtain rfl := At.uniq ok h2 k2
  exact At.uniq ok h3 k3
end Go.KK

/- plain: layer 12: a text as a number; contexts read. -/
namespace Go.KK
open Go.RowKit
set_option linter.unusedVariables false
set_option linter.unusedSimpArgs false

end Go.KK

