import Derived.WalkKit
import Derived.WalkSpells
import Derived.WalkLawsBesides
import Derived.Maps.AppendAt
import Derived.Deep.AppendLies
import Derived.Deep.Draws
import Derived.Laws.BytesArg
import Derived.RegionTactic
import Derived.OwnWalk
import Derived.Lib.ItoaNum
import Derived.Maps.Views
import Derived.Maps.OwnSet
import Derived.Test.YtadbgmfdbahcbaaDoorRows
import Derived.Lib.ItoaLen
/- Words for memory, of no program: a slice that reads as a list of cells (nil let in), its cuts, and an append of such a slice onto a row of the call's own. -/
namespace Go.KK
open Go.RowKit
set_option linter.unusedVariables false
set_option linter.unusedSimpArgs false

theorem hid {p : Prop} (h : p) : Hid p := h
theorem add_lit (b off k : Nat) : (⟨b, off, none⟩ : Addr).add k = ⟨b, off + k, none⟩ := by unfold Addr.add; split <;> simp_all

/-- The slice value '.slice A n c' holds the cells xs (size cells an element). -/
structure SlA (w : World) (size : Nat) (A : Option Addr) (n c : Nat) (xs : List Value) : Prop where
  nc : n ≤ c
  cm : c ≤ maxLen
  len : xs.length = n * size
  cells : ∀ j u, xs[j]? = some u → ∃ b off, A = some ⟨b, off, none⟩ ∧ w.cell? ⟨b, off + j, none⟩ = some u

section
variable {w w' : World} {size : Nat} {A : Option Addr} {n c : Nat} {xs : List Value}
theorem SlA.keep (h : SlA w size A n c xs) (hk : ∀ b o u, w.cell? ⟨b, o, none⟩ = some u → w'.cell? ⟨b, o, none⟩ = some u) : SlA w' size A n c xs :=
  ⟨h.nc, h.cm, h.len, fun j u hj => by
    obtain ⟨b, off, e, hc⟩ := h.cells j u hj
    exact ⟨b, off, e, hk _ _ _ hc⟩⟩
theorem SlA.ext (h : SlA w size A n c xs) (hb : Below w.heap.size w w') : SlA w' size A n c xs :=
  h.keep fun b o u hc => (hb.cell (p := ⟨b, o, none⟩) (block_lt_of_cell hc)).trans hc
theorem SlA.alloc (h : SlA w size A n c xs) (o : Obj) : SlA (w.alloc o) size A n c xs := h.ext ((Below.refl _ _).alloc (Nat.le_refl _) o)
theorem SlA.drew (h : SlA w size A n c xs) : SlA w.drew size A n c xs := h.keep fun _ _ _ hc => hc
theorem SlA.drewN (h : SlA w size A n c xs) (k : Nat) : SlA (w.drewN k) size A n c xs := h.keep fun _ _ _ hc => hc
theorem SlA.nil (w : World) (size : Nat) : SlA w size none 0 0 [] := ⟨Nat.le_refl _, Nat.zero_le _, by simp, fun j u h => by simp at h⟩
theorem SlA.zero (w : World) (size : Nat) (A : Option Addr) (c : Nat) (hc : c ≤ maxLen) : SlA w size A 0 c [] := ⟨Nat.zero_le _, hc, by simp, fun j u h => by simp at h⟩
theorem SlA.elem (h : SlA w 1 A n c xs) {k : Nat} (hk : k < n) : ∃ b off u, A = some ⟨b, off, none⟩ ∧ xs[k]? = some u ∧ w.cell? ⟨b, off + k, none⟩ = some u := by
  have hl : k < xs.length := by have := h.len; omega
  obtain ⟨b, off, e, hc⟩ := h.cells k xs[k] (List.getElem?_eq_getElem hl)
  exact ⟨b, off, _, e, List.getElem?_eq_getElem hl, hc⟩
theorem SlA.elemI {kd : IntKind} {l : List Int} (h : SlA w 1 A n c (l.map (.int kd))) {k : Nat} (hk : k < n) : ∃ b off x, A = some ⟨b, off, none⟩ ∧ l[k]? = some x ∧ w.cell? ⟨b, off + k, none⟩ = some (.int kd x) := by
  obtain ⟨b, off, u, e, hu, hc⟩ := h.elem hk
  rw [List.getElem?_map] at hu
  rcases hx : l[k]? with _ | x
  · rw [hx] at hu; cases hu
  · rw [hx] at hu
    injection hu with hu
    exact ⟨b, off, x, e, rfl, by rw [hc, ← hu]⟩
theorem SlA.lenI {kd : IntKind} {l : List Int} (h : SlA w 1 A n c (l.map (.int kd))) : l.length = n := by have := h.len; simpa using this
theorem SlA.of_own {base : Nat} {e : TypeId} {m : Nat} (h : w.ownsRow base e size (.slice A m c) n xs) : m = n ∧ SlA w size A m c xs := by
  rcases h.2 with ⟨e1, rfl⟩ | ⟨g, cap, cur, e1, hbg, hg, hnc, hcm, hcs, htake⟩
  · injection e1 with e1 e2 e3
    subst e1; subst e2; subst e3
    have hx : xs = [] := List.eq_nil_of_length_eq_zero (by simpa using h.1)
    subst hx
    exact ⟨rfl, SlA.nil _ _⟩
  · injection e1 with e1 e2 e3
    subst e1; subst e2; subst e3
    refine ⟨rfl, ⟨hnc, hcm, h.1, fun j u hj => ⟨g, 0, rfl, ?_⟩⟩⟩
    have := h.cells (g := g) rfl j u hj
    rwa [add_lit] at this
theorem own_shape {base : Nat} {e : TypeId} {v : Value} (h : w.ownsRow base e size v n xs) : ∃ A c, v = .slice A n c := by
  rcases h.2 with ⟨rfl, rfl⟩ | ⟨g, cap, cur, rfl, _⟩
  · exact ⟨_, _, rfl⟩
  · exact ⟨_, _, rfl⟩
/-- An owned row as a readable one, in one step. -/
theorem SlA.owned {base : Nat} {e : TypeId} {v : Value} (h : w.ownsRow base e size v n xs) : ∃ A c, v = .slice A n c ∧ SlA w size A n c xs := by
  obtain ⟨A, c, rfl⟩ := own_shape h
  exact ⟨A, c, rfl, (SlA.of_own h).2⟩
theorem SlA.cut_from (h : SlA w 1 A n c xs) {k : Nat} (hk : k ≤ n) : ∃ A', sliced A k n c 1 = .slice A' (n - k) (c - k) ∧ SlA w 1 A' (n - k) (c - k) (xs.drop k) := by
  have h1 := h.nc; have h2 := h.cm; have h3 := h.len
  refine ⟨_, rfl, ⟨by omega, by omega, by rw [List.length_drop, h.len]; omega, fun j u hj => ?_⟩⟩
  rw [List.getElem?_drop] at hj
  obtain ⟨b, off, rfl, hc⟩ := h.cells _ _ hj
  have hlt : k + j < xs.length := by
    rcases Nat.lt_or_ge (k + j) xs.length with hh | hh
    · exact hh
    · rw [List.getElem?_eq_none hh] at hj; cases hj
  have hne : c ≠ k := by omega
  refine ⟨b, off + k, ?_, by rw [Nat.add_assoc]; exact hc⟩
  simp [hne, add_lit]
end

section
variable {P : Program} (w : World)
/-- append(v, s...), v a row of the call's own, s whatever slice that reads: nil, empty or not. -/
theorem run_append_sl (base : Nat) (t ty e : TypeId) (i : TypeInfo) (z : Value) (size bytes : Nat) (ht : P.underlying t = some (.slice e)) (hi : P.info? e = some i) (hz : i.zero = some z)
    (hsize : i.size = size) (hby : i.bytes = bytes) (hzs : z.cells.size = size) (hsz : 0 < size)
    (v : Value) (n : Nat) (xs : List Value) (hown : w.ownsRow base e size v n xs)
    (A : Option Addr) (m c : Nat) (news : List Value) (hr : SlA w size A m c news) (h1 : ∀ u ∈ news, u.oneCell' = true)
    (h63 : n + m ≤ maxLen) (hbytes : (n + m) * bytes ≤ 140737488355328) (hbase : base ≤ w.heap.size) :
    ∃ v' w', (Builtin.append_ #[t, t] ty #[v, .slice A m c]).run P w = .ok v' w' ∧ w'.ownsRow base e size v' (n + m) (xs ++ news) ∧ w.grownBy w' v.ownBlock ∧
      (v'.ownBlock = v.ownBlock ∨ v'.ownBlock = some w.heap.size) := by
  rcases A with _ | ad
  · have hn : news = [] := by
      rcases news with _ | ⟨x, l⟩
      · rfl
      · obtain ⟨b, off, e, _⟩ := hr.cells 0 x rfl
        cases e
    subst hn
    have hm : m = 0 := by
      rcases Nat.eq_zero_or_pos m with h0 | h0
      · exact h0
      · have h2 := hr.len
        have h3 := Nat.mul_pos h0 hsz
        simp only [List.length_nil] at h2
        omega
    subst hm
    refine ⟨v, w, ?_, by simpa using hown, World.grownBy.refl w _, .inl rfl⟩
    rcases hown.2 with ⟨rfl, rfl⟩ | ⟨g, cap, cur, rfl, _, _, hnc, _⟩
    · simp [Builtin.append_, run_underlying ht, sizeOf, typeInfo, hi, Builtin.lenOf, Builtin.firstCells]
    · simp [Builtin.append_, run_underlying ht, sizeOf, typeInfo, hi, Builtin.lenOf, Builtin.firstCells, hnc, storeCells]
  · have hcells : ∀ j u, news[j]? = some u → w.cell? (ad.add j) = some u := by
      intro j u hu
      obtain ⟨b, off, e, hc⟩ := hr.cells j u hu
      injection e with e
      subst e
      rw [add_lit]
      exact hc
    obtain ⟨v', w', hrun, h2, h3, _, h5⟩ := run_append_own_at (P := P) w base t ty e i z size bytes ht hi hz hsize hby hzs hsz v n xs hown ad m c news hr.len hcells h1 h63 hbytes hbase
    exact ⟨v', w', hrun, h2, h3, h5⟩

theorem wpList_append_sl {ops : Array Oper} {rest : List Oper} {o : Oper} {a : Act} {Q : Exit → Act → World → Prop} (hgd : o.guard = none) (s x : Operand) (t : TypeId)
    (ho : o.op = .call { callee := .builtin .append, args := #[s, x], argTypes := #[t, t] })
    (base : Nat) (e : TypeId) (i : TypeInfo) (z : Value) (size bytes : Nat) (ht : P.underlying t = some (.slice e)) (hi : P.info? e = some i) (hz : i.zero = some z)
    (hsize : i.size = size) (hby : i.bytes = bytes) (hzs : z.cells.size = size) (hsz : 0 < size)
    (v : Value) (n : Nat) (xs : List Value) (hs : a.eval s = v) (hown : w.ownsRow base e size v n xs)
    (A : Option Addr) (m c : Nat) (news : List Value) (hx : a.eval x = .slice A m c) (hr : SlA w size A m c news) (h1 : ∀ u ∈ news, u.oneCell' = true)
    (h63 : n + m ≤ maxLen) (hbytes : (n + m) * bytes ≤ 140737488355328) (hbase : base ≤ w.heap.size)
    (h : ∀ v' w', w'.ownsRow base e size v' (n + m) (xs ++ news) → w.grownBy w' v.ownBlock → (v'.ownBlock = v.ownBlock ∨ v'.ownBlock = some w.heap.size) → wpList P ops Q rest (a.put o.dst v') w') :
    wpList P ops Q (o :: rest) a w := by
  refine wpList_plain hgd fun K hK => ?_
  obtain ⟨v', w', hr, h2, h3, h5⟩ := run_append_sl (P := P) w base t o.type e i z size bytes ht hi hz hsize hby hzs hsz v n xs hown A m c news hr h1 h63 hbytes hbase
  unfold Oper.wp execOp
  simp only [ho, resolve, invoke, builtin, Sem.run_bind, Sem.run_pure, Result.andThen_ok, List.map_toArray, List.map_cons, List.map_nil, hs, hx, hr]
  exact hK _ _ (h v' w' h2 h3 h5)

/-- append(nil, s...): a row of its own; nothing that was there has turned. -/
theorem wpList_append_new {ops : Array Oper} {rest : List Oper} {o : Oper} {a : Act} {Q : Exit → Act → World → Prop} (hgd : o.guard = none) (s x : Operand) (t : TypeId)
    (ho : o.op = .call { callee := .builtin .append, args := #[s, x], argTypes := #[t, t] })
    (e : TypeId) (i : TypeInfo) (z : Value) (size bytes : Nat) (ht : P.underlying t = some (.slice e)) (hi : P.info? e = some i) (hz : i.zero = some z)
    (hsize : i.size = size) (hby : i.bytes = bytes) (hzs : z.cells.size = size) (hsz : 0 < size)
    (hs : a.eval s = .slice none 0 0)
    (A : Option Addr) (m c : Nat) (news : List Value) (hx : a.eval x = .slice A m c) (hr : SlA w size A m c news) (h1 : ∀ u ∈ news, u.oneCell' = true)
    (h63 : m ≤ maxLen) (hbytes : m * bytes ≤ 140737488355328)
    (h : ∀ v' w', w'.ownsRow w.heap.size e size v' m news → RowKit.Below w.heap.size w w' → wpList P ops Q rest (a.put o.dst v') w') :
    wpList P ops Q (o :: rest) a w := by
  refine wpList_append_sl w hgd s x t ho w.heap.size e i z size bytes ht hi hz hsize hby hzs hsz _ 0 [] hs (World.ownsRow_nil _ _ _ _) A m c news hx hr h1 (by simpa using h63) (by simpa using hbytes) (Nat.le_refl _) ?_
  intro v' w' hown hg _
  refine h v' w' (by simpa using hown) ?_
  exact (RowKit.Below.refl _ _).grown hg (Nat.le_refl _) (by simp [Value.ownBlock])

/-- string(s) of bytes that read. -/
theorem run_str_sl (src dst e : TypeId) (hs : P.underlying src = some (.slice e)) (he : P.underlying e = some (.int .u8)) (hd : P.underlying dst = some .string)
    (A : Option Addr) (n c : Nat) (l : List Int) (h : SlA w 1 A n c (l.map (Value.int .u8))) :
    (convert src dst (.slice A n c)).run P w = .ok (.string (strOfNums l)) w := by
  have hln : l.length = n := by have := h.len; simpa using this
  rcases l with _ | ⟨x, l⟩
  · have hn : n = 0 := by simpa using hln.symm
    subst hn
    rw [run_convert_bytes_string w src dst e _ 0 c hs he hd]
    rcases A with _ | ad
    · simp [Conv.bytesToString]; rfl
    · rw [run_bytesToString w ad 0 c [] (by simp [loadCells, loadCellsFrom])]; rfl
  · obtain ⟨b, off, rfl, _⟩ := h.cells 0 (Value.int .u8 x) rfl
    refine run_convert_bytes_arg (P := P) w src e hs he b off n c (x :: l) hln (fun i hi => ?_) dst hd
    have hl : i < (x :: l).length := by omega
    obtain ⟨b', off', e', hc⟩ := h.cells i (Value.int .u8 (x :: l)[i]) (by rw [List.getElem?_map, List.getElem?_eq_getElem hl]; rfl)
    injection e' with e'
    injection e' with e1 e2
    subst e1; subst e2
    rw [hc, List.getD, List.getElem?_eq_getElem hl]
    rfl
theorem run_str_slN (src dst e : TypeId) (hs : P.underlying src = some (.slice e)) (he : P.underlying e = some (.int .u8)) (hd : P.underlying dst = some .string)
    (A : Option Addr) (n c : Nat) (l : List Int) (h : SlA w 1 A n c (l.map (Value.int .u8))) (k : Nat) :
    (convert src dst (.slice A n c)).run P (w.drewN k) = .ok (.string (strOfNums l)) (w.drewN k) :=
  run_str_sl (w.drewN k) src dst e hs he hd A n c l (h.drewN k)
end

theorem ints_one (k : IntKind) (l : List Int) : ∀ u ∈ l.map (Value.int k), u.oneCell' = true := by
  intro u hu
  obtain ⟨x, _, rfl⟩ := List.mem_map.1 hu
  rfl

theorem own_mono {w : World} {base base' : Nat} {e : TypeId} {size : Nat} {v : Value} {n : Nat} {xs : List Value} (h : w.ownsRow base e size v n xs) (hb : base' ≤ base) : w.ownsRow base' e size v n xs := by
  refine ⟨h.1, ?_⟩
  rcases h.2 with h2 | ⟨g, cap, cur, e1, hbg, r⟩
  · exact .inl h2
  · exact .inr ⟨g, cap, cur, e1, Nat.le_trans hb hbg, r⟩
theorem ofInt_i64 (a : Nat) (ha : a < 9223372036854775808) : (BitVec.ofInt 64 (a : Int)).toNat = a := by
  rw [BitVec.ofInt_natCast, BitVec.toNat_ofNat]; exact Nat.mod_eq_of_lt (by omega)
theorem i64_and (a b : Int) (h1 : 0 ≤ a) (h2 : a < 9223372036854775808) (h3 : 0 ≤ b) (h4 : b < 9223372036854775808) : bits .and .i64 a b = ((a.toNat &&& b.toNat : Nat) : Int) := by
  obtain ⟨a, rfl⟩ := Int.eq_ofNat_of_zero_le h1
  obtain ⟨b, rfl⟩ := Int.eq_ofNat_of_zero_le h3
  have hx : a &&& b < 2 ^ 63 := Nat.and_lt_two_pow _ (by omega)
  show IntKind.i64.wrap ((BitVec.ofInt 64 (a : Int) &&& BitVec.ofInt 64 (b : Int)).toNat : Int) = _
  rw [BitVec.toNat_and, ofInt_i64 a (by omega), ofInt_i64 b (by omega), IntKind.wrap_i64, Int.toNat_natCast, Int.toNat_natCast]
  omega
theorem one_int (k : IntKind) (x : Int) : ∀ u ∈ [Value.int k x], u.oneCell' = true := ints_one k [x]

/-- 'Below' behind an append by the law above, the row the call's own. -/
theorem below_append {B : Nat} {a w w' : World} {v : Value} {base e size n : Nat} {xs : List Value} (h : Below B a w) (hg : w.grownBy w' v.ownBlock) (hown : w.ownsRow base e size v n xs) (hbase : B ≤ base) (hB : B ≤ w.heap.size) : Below B a w' :=
  h.grown hg hB (fun k hk => Nat.le_trans hbase (hown.lt k hk).1)

theorem grown_of_below {w w' : World} (h : Below w.heap.size w w') (row : Option Nat) : w.grownBy w' row := ⟨h.os, h.tape, h.output, h.size, fun i hi _ => h.block i hi⟩
/-- A row of the call's own stays, where nothing that was there has turned. -/
theorem own_ext {w w' : World} {base : Nat} {e : TypeId} {size : Nat} {v : Value} {n : Nat} {xs : List Value} (h : w.ownsRow base e size v n xs) (hb : Below w.heap.size w w') : w'.ownsRow base e size v n xs := by
  refine h.kept (grown_of_below hb none) ?_
  cases v.ownBlock <;> simp

theorem take_step {α : Type} {L r : List α} {u : α} {j : Nat} (h : L = L.take j ++ u :: r) (hj : (L.take j).length = j) : L.take (j + 1) = L.take j ++ [u] ∧ L = L.take (j + 1) ++ r := by
  have e : L.take (j + 1) = L.take j ++ [u] := by
    have e1 : L.take (j + 1) = (L.take j ++ u :: r).take (j + 1) := congrArg (List.take (j + 1)) h
    rw [e1, List.take_append, hj, List.take_of_length_le (by omega), show j + 1 - j = 1 by omega]
    rfl
  exact ⟨e, by rw [e, List.append_assoc]; exact h⟩
theorem below_drew {B : Nat} {a w : World} (h : Below B a w) : Below B a w.drew := ⟨h.os, h.tape, h.output, h.size, h.block⟩
theorem below_drewN {B : Nat} {a w : World} (h : Below B a w) (n : Nat) : Below B a (w.drewN n) := ⟨h.os, h.tape, h.output, h.size, h.block⟩
/-- A literal row of one cell. -/
theorem SlA.lit1 {w : World} {T : TypeId} (u : Value) : SlA (w.alloc (.cells #[u] T)) 1 (some ⟨w.heap.size, 0, none⟩) 1 1 [u] :=
  (SlA.of_own (World.ownsRow_lit (e := T) (base := 0) (size := 1) w #[u] 1 (Nat.zero_le _) (by unfold maxLen; omega) rfl)).2

end Go.KK

/- plain: terms' nodes, their texts among others (no two alike), and what an arena makes of a node. -/
namespace Go.KK
open Go.RowKit
set_option linter.unusedVariables false
set_option linter.unusedSimpArgs false

/-- A term's node. -/
structure ND where
  o : Int
  n : Int
  s : ByteArray
  l : List Int
deriving DecidableEq

/-! numbers' texts -/
def numB (b : UInt8) : Bool := (48 ≤ b && b ≤ 57) || b == 45
theorem dig_num : ∀ d : Nat, d < 10 → numB (UInt8.ofNat (48 + d)) = true := by decide +kernel
theorem decDigits_num (u : Nat) : ∀ b ∈ Lib.decDigits u, numB b = true := by
  induction u using Nat.strongRecOn with
  | ind u ih =>
    intro b hb
    rw [Lib.decDigits] at hb
    split at hb
    · rename_i h
      rw [List.mem_singleton] at hb
      subst hb
      exact dig_num u h
    · rename_i h
      rcases List.mem_append.1 hb with hb | hb
      · exact ih (u / 10) (by omega) b hb
      · rw [List.mem_singleton] at hb
        subst hb
        exact dig_num _ (Nat.mod_lt _ (by decide))
theorem itoa_num (i : Int) : ∀ b ∈ Lib.itoa i, numB b = true := by
  intro b hb
  unfold Lib.itoa at hb
  split at hb
  · rcases List.mem_cons.1 hb with rfl | hb
    · decide
    · exact decDigits_num _ _ hb
  · exact decDigits_num _ _ hb
def decV (l : List UInt8) : Nat := l.foldl (fun a b => 10 * a + (b.toNat - 48)) 0
theorem dig_val : ∀ d : Nat, d < 10 → (UInt8.ofNat (48 + d)).toNat - 48 = d := by decide +kernel
theorem decV_digits (u : Nat) : decV (Lib.decDigits u) = u := by
  induction u using Nat.strongRecOn with
  | ind u ih =>
    rw [Lib.decDigits]
    split
    · rename_i h
      show 10 * 0 + ((UInt8.ofNat (48 + u)).toNat - 48) = u
      rw [dig_val u h]; omega
    · rename_i h
      unfold decV at ih ⊢
      rw [List.foldl_append, ih (u / 10) (by omega)]
      show 10 * (u / 10) + ((UInt8.ofNat (48 + u % 10)).toNat - 48) = u
      rw [dig_val _ (Nat.mod_lt _ (by decide))]
      omega
theorem decDigits_inj {u v : Nat} (h : Lib.decDigits u = Lib.decDigits v) : u = v := by rw [← decV_digits u, ← decV_digits v, h]
theorem decDigits_ne (u : Nat) : Lib.decDigits u ≠ [] ∧ ∀ r, Lib.decDigits u ≠ 45 :: r := by
  induction u using Nat.strongRecOn with
  | ind u ih =>
    rw [Lib.decDigits]
    split
    · rename_i h
      refine ⟨by simp, fun r e => ?_⟩
      injection e with e _
      have : ∀ d : Nat, d < 10 → UInt8.ofNat (48 + d) ≠ 45 := by decide +kernel
      exact this u h e
    · rename_i h
      obtain ⟨i1, i2⟩ := ih (u / 10) (by omega)
      refine ⟨by simp, fun r e => ?_⟩
      rcases hd : Lib.decDigits (u / 10) with _ | ⟨b, t⟩
      · exact i1 hd
      · rw [hd] at e
        injection e with e _
        exact i2 t (by rw [hd, e])
theorem itoa_inj {i j : Int} (h : Lib.itoa i = Lib.itoa j) : i = j := by
  unfold Lib.itoa at h
  split at h
  · split at h
    · injection h with _ h
      have := decDigits_inj h
      omega
    · exact absurd h.symm ((decDigits_ne _).2 _)
  · split at h
    · exact absurd h ((decDigits_ne _).2 _)
    · have := decDigits_inj h
      omega
/-- Nothing, or a byte that stands in no number ahead. -/
def stopB : List UInt8 → Bool
  | [] => true
  | b :: _ => !numB b
theorem first_stop : ∀ {a a' r r' : List UInt8}, a ++ r = a' ++ r' → (∀ b ∈ a, numB b = true) → (∀ b ∈ a', numB b = true) → stopB r = true → stopB r' = true → a = a' ∧ r = r'
  | [], [], r, r', h, _, _, _, _ => ⟨rfl, h⟩
  | [], b :: a', r, r', h, _, h2, h3, _ => by
    rw [List.nil_append] at h
    rw [h] at h3
    have := h2 b (by simp)
    simp [stopB, this] at h3
  | b :: a, [], r, r', h, h1, _, _, h4 => by
    rw [List.nil_append] at h
    rw [← h] at h4
    have := h1 b (by simp)
    simp [stopB, this] at h4
  | b :: a, b' :: a', r, r', h, h1, h2, h3, h4 => by
    rw [List.cons_append, List.cons_append] at h
    injection h with e h
    obtain ⟨i1, i2⟩ := first_stop h (fun x hx => h1 x (by simp [hx])) (fun x hx => h2 x (by simp [hx])) h3 h4
    exact ⟨by rw [e, i1], i2⟩
/-- Numbers' texts, each behind a space. -/
def joinB (l : List Int) : List UInt8 := l.flatMap fun x => 32 :: Lib.itoa x
theorem joinB_cons (x : Int) (l : List Int) : joinB (x :: l) = 32 :: (Lib.itoa x ++ joinB l) := by unfold joinB; rw [List.flatMap_cons]; rfl
theorem joinB_snoc (l : List Int) (x : Int) : joinB (l ++ [x]) = joinB l ++ (32 :: Lib.itoa x) := by unfold joinB; rw [List.flatMap_append]; simp
theorem stop_join {l : List Int} {r : List UInt8} (h : stopB r = true) : stopB (joinB l ++ r) = true := by
  rcases l with _ | ⟨x, l⟩
  · exact h
  · rw [joinB_cons]; rfl
theorem joinB_inj : ∀ {l l' : List Int} {r r' : List UInt8}, joinB l ++ r = joinB l' ++ r' → stopB r = true → stopB r' = true → (∀ t, r ≠ 32 :: t) → (∀ t, r' ≠ 32 :: t) → l = l' ∧ r = r'
  | [], [], r, r', h, _, _, _, _ => ⟨rfl, h⟩
  | [], x :: l', r, r', h, _, _, h3, _ => by rw [joinB_cons] at h; exact absurd h (h3 _)
  | x :: l, [], r, r', h, _, _, _, h4 => by rw [joinB_cons] at h; exact absurd h.symm (h4 _)
  | x :: l, x' :: l', r, r', h, h1, h2, h3, h4 => by
    rw [joinB_cons, joinB_cons, List.cons_append, List.cons_append] at h
    injection h with _ h
    rw [List.append_assoc, List.append_assoc] at h
    obtain ⟨e1, e2⟩ := first_stop h (itoa_num x) (itoa_num x') (stop_join h1) (stop_join h2)
    obtain ⟨e3, e4⟩ := joinB_inj e2 h1 h2 h3 h4
    exact ⟨by rw [itoa_inj e1, e3], e4⟩
/-- The program's text of a node among others. -/
def keyP (x : ND) : List UInt8 := Lib.itoa x.o ++ joinB (x.n :: x.l) ++ 124 :: x.s.data.toList
theorem str_ext {s t : ByteArray} (h : s.data.toList = t.data.toList) : s = t := by
  obtain ⟨s⟩ := s; obtain ⟨t⟩ := t
  simp only at h
  rw [Array.toList_inj.1 h]
theorem keyP_inj {x y : ND} (h : keyP x = keyP y) : x = y := by
  unfold keyP at h
  rw [List.append_assoc, List.append_assoc] at h
  obtain ⟨e1, e2⟩ := first_stop h (itoa_num _) (itoa_num _) (stop_join rfl) (stop_join rfl)
  obtain ⟨e3, e4⟩ := joinB_inj e2 rfl rfl (fun t e => by injection e with e _; exact absurd e (by decide)) (fun t e => by injection e with e _; exact absurd e (by decide))
  injection e3 with e3 e5
  injection e4 with _ e4
  obtain ⟨_, _, _, _⟩ := x; obtain ⟨_, _, _, _⟩ := y
  simp only at e1 e3 e4 e5
  rw [itoa_inj e1, e3, str_ext e4, e5]
/-- The document's. -/
def keyR (x : ND) : List UInt8 := Lib.itoa x.o ++ 32 :: (Lib.itoa x.n ++ 32 :: (Lib.itoa x.s.size ++ 32 :: (x.s.data.toList ++ joinB x.l)))
theorem keyR_inj {x y : ND} (h : keyR x = keyR y) : x = y := by
  unfold keyR at h
  obtain ⟨e1, h⟩ := first_stop h (itoa_num _) (itoa_num _) rfl rfl
  injection h with _ h
  obtain ⟨e2, h⟩ := first_stop h (itoa_num _) (itoa_num _) rfl rfl
  injection h with _ h
  obtain ⟨e3, h⟩ := first_stop h (itoa_num _) (itoa_num _) rfl rfl
  injection h with _ h
  have e3 := itoa_inj e3
  have hl : x.s.data.toList.length = y.s.data.toList.length := by
    have h1 : x.s.size = x.s.data.toList.length := rfl
    have h2 : y.s.size = y.s.data.toList.length := rfl
    omega
  obtain ⟨e4, e5⟩ := List.append_inj h hl
  have e6 := (joinB_inj (l := x.l) (l' := y.l) (r := []) (r' := []) (by simpa using e5) rfl rfl (fun t e => by cases e) (fun t e => by cases e)).1
  obtain ⟨_, _, _, _⟩ := x; obtain ⟨_, _, _, _⟩ := y
  simp only at e1 e2 e4 e6
  rw [itoa_inj e1, itoa_inj e2, str_ext e4, e6]

/-! what may be -/
/-- How many parts a node of a kind has (none: any). -/
def arN : Int → Option Nat
  | 1 => some 0 | 2 => some 0 | 4 => some 1 | 5 => some 2 | 6 => some 3 | 7 => some 1 | 8 => some 4 | 9 => some 4 | 10 => some 2 | 11 => some 2 | 12 => some 2
  | _ => none
/-- As many parts as such a node has. -/
def lenB (o : Int) (n : Nat) : Bool := match arN o with | some k => n == k | none => o == 3
def shB (x : ND) : Bool := lenB x.o x.l.length && decide (x.l.length ≤ 64) && decide (0 ≤ x.n) && decide (x.s.size ≤ 200) && (x.o == 1 || x.n == 0) && (x.o == 2 || x.s.size == 0)
def opAt (xs : List ND) (t : Int) : Int := match xs[t.toNat]? with | some x => x.o | none => 0
def hasB (xs : List ND) (t : Int) : Bool := decide (0 ≤ t) && decide (t < xs.length)
def mayB (xs : List ND) (x : ND) : Bool := shB x && x.l.all (hasB xs) && (x.o != 6 || opAt xs (x.l.getD 1 0) == 2)
/-- The arena behind it, the number, the error. -/
def makT (xs : List ND) (x : ND) : List ND := if mayB xs x then (if x ∈ xs then xs else if 100000 ≤ xs.length then xs else xs ++ [x]) else xs
def makI (xs : List ND) (x : ND) : Int := if mayB xs x then (if x ∈ xs then (xs.idxOf x : Nat) else if 100000 ≤ xs.length then 0 else (xs.length : Nat)) else 0
def makE (xs : List ND) (x : ND) : Int := if mayB xs x then (if x ∈ xs then 0 else if 100000 ≤ xs.length then 2 else 0) else 1
theorem idxOf_get {xs : List ND} {x : ND} (h : x ∈ xs) : xs[xs.idxOf x]? = some x := by
  have hl := List.idxOf_lt_length_of_mem h
  rw [List.getElem?_eq_getElem hl, List.getElem_idxOf hl]

/-! a map of texts to numbers -/
abbrev MD := DataW Unit
structure MapOk (kf : ND → List UInt8) (xs : List ND) (D : MD) : Prop where
  is : Maps.IsMap D
  has : ∀ s, Maps.has D (.string s) = true ↔ ∃ x ∈ xs, kf x = s
  at' : ∀ (j : Nat) x, xs[j]? = some x → ∀ z, D.atKey (.string (kf x)) z = .lit (.int .i64 j)
theorem mapOk_nil (kf : ND → List UInt8) : MapOk kf [] (.map []) :=
  ⟨Maps.isMap_empty, fun s => by rw [Maps.has_eq]; simp, fun j x h => by simp at h⟩
theorem MapOk.not {kf : ND → List UInt8} {xs : List ND} {D : MD} (h : MapOk kf xs D) (hi : ∀ {x y}, kf x = kf y → x = y) {x : ND} (hx : x ∉ xs) : Maps.has D (.string (kf x)) = false := by
  rw [Bool.eq_false_iff]
  intro hh
  obtain ⟨y, hy, e⟩ := (h.has _).1 hh
  exact hx (hi e ▸ hy)
theorem MapOk.yes {kf : ND → List UInt8} {xs : List ND} {D : MD} (h : MapOk kf xs D) {x : ND} (hx : x ∈ xs) : Maps.has D (.string (kf x)) = true := (h.has _).2 ⟨x, hx, rfl⟩
theorem mapOk_put {kf : ND → List UInt8} {xs : List ND} {D : MD} (h : MapOk kf xs D) (hi : ∀ {x y}, kf x = kf y → x = y) {x : ND} (hx : x ∉ xs) : MapOk kf (xs ++ [x]) (D.put (.string (kf x)) (.lit (.int .i64 (xs.length : Nat)))) := by
  refine ⟨h.is.put _ _, fun s => ?_, fun j y hy z => ?_⟩
  · by_cases hs : kf x = s
    · subst hs
      rw [Maps.has_put_same h.is (by trivial)]
      exact ⟨fun _ => ⟨x, by simp, rfl⟩, fun _ => rfl⟩
    · rw [Maps.has_put_other (fun e => hs (by injection e with e; exact e.symm)), h.has]
      constructor
      · rintro ⟨y, hy, e⟩; exact ⟨y, by simp [hy], e⟩
      · rintro ⟨y, hy, e⟩
        rcases List.mem_append.1 hy with hy | hy
        · exact ⟨y, hy, e⟩
        · rw [List.mem_singleton] at hy; subst hy; exact absurd e hs
  · rcases Nat.lt_or_ge j xs.length with hj | hj
    · rw [List.getElem?_append_left hj] at hy
      have hne : kf y ≠ kf x := fun e => hx (hi e ▸ List.mem_of_getElem? hy)
      rw [Maps.atKey_put_other (fun e => hne (by injection e))]
      exact h.at' j y hy z
    · rw [List.getElem?_append_right hj] at hy
      have : j - xs.length = 0 := by
        rcases hk : j - xs.length with _ | k
        · rfl
        · rw [hk] at hy; simp at hy
      rw [this] at hy
      injection hy with hy
      subst hy
      rw [Maps.atKey_put_same h.is (by trivial), show j = xs.length by omega]
end Go.KK

/- Memory: an arena (a struct of a row of nodes and a map of their texts), and what is left alone. -/
namespace Go.KK
open Go.RowKit
set_option linter.unusedVariables false
set_option linter.unusedSimpArgs false

/-- Of what was there nothing has turned, but in F. -/
structure Turn (F : Nat → Prop) (w w' : World) : Prop where
  os : w'.os = w.os
  tape : w'.tape = w.tape
  output : w'.output = w.output
  size : w.heap.size ≤ w'.heap.size
  block : ∀ k, k < w.heap.size → ¬ F k → w'.heap[k]? = w.heap[k]?
theorem Turn.of_below {F : Nat → Prop} {w w' : World} (h : Below w.heap.size w w') : Turn F w w' := ⟨h.os, h.tape, h.output, h.size, fun k hk _ => h.block k hk⟩
theorem Turn.refl (F : Nat → Prop) (w : World) : Turn F w w := ⟨rfl, rfl, rfl, Nat.le_refl _, fun _ _ _ => rfl⟩
theorem Turn.trans {F F' : Nat → Prop} {a b c : World} (h : Turn F a b) (k : Turn F' b c) (hf : ∀ k, F' k → F k ∨ a.heap.size ≤ k) : Turn F a c :=
  ⟨k.os.trans h.os, k.tape.trans h.tape, k.output.trans h.output, Nat.le_trans h.size k.size, fun i hi hn => (k.block i (Nat.lt_of_lt_of_le hi h.size) fun hh => (hf i hh).elim hn (fun h => by omega)).trans (h.block i hi hn)⟩
theorem Turn.below {F : Nat → Prop} {w w' : World} {B : Nat} (h : Turn F w w') (hf : ∀ b, F b → B ≤ b) (hB : B ≤ w.heap.size) : Below B w w' :=
  ⟨h.os, h.tape, h.output, h.size, fun k hk => h.block k (Nat.lt_of_lt_of_le hk hB) fun hh => by have := hf k hh; omega⟩
theorem Turn.grown {F : Nat → Prop} {w w' : World} {r : Option Nat} (h : w.grownBy w' r) (hr : ∀ b, r = some b → F b ∨ w.heap.size ≤ b) : Turn F w w' :=
  ⟨h.os, h.tape, h.output, h.size, fun k hk hn => h.block k hk fun e => (hr k e.symm).elim hn (fun h => by omega)⟩
theorem Turn.setCell {F : Nat → Prop} {w : World} {a : Addr} (v : Value) (ha : F a.block ∨ w.heap.size ≤ a.block) : Turn F w (w.setCell a v) :=
  have h := (Below.refl (Nat.min a.block a.block) w).setCell (p := a) (Nat.min_le_left _ _) v
  ⟨h.os, h.tape, h.output, h.size, fun k hk hn => Below.heap_setCell w a v k fun e => ha.elim (fun h => hn (e ▸ h)) (fun h => by omega)⟩
theorem Turn.mono {F F' : Nat → Prop} {w w' : World} (h : Turn F w w') (hf : ∀ k, F k → F' k) : Turn F' w w' := ⟨h.os, h.tape, h.output, h.size, fun k hk hn => h.block k hk fun e => hn (hf k e)⟩

def ND.cells (x : ND) (q : Value) : List Value := [.int .i64 x.o, .int .i64 x.n, .string x.s, q]
/-- The cells of a row of nodes, whose lists' heads are these. -/
def nds (xs : List ND) (qs : List Value) : List Value := (List.zipWith ND.cells xs qs).flatten
/-- The value q is a list of numbers that reads. -/
def In1 (w : World) (q : Value) (l : List Int) : Prop := ∃ A c, q = .slice A l.length c ∧ SlA w 1 A l.length c (l.map (.int .i64))
/-- The slice reads as a row of nodes. -/
def NdA (w : World) (A : Option Addr) (n c : Nat) (xs : List ND) : Prop :=
  ∃ qs : List Value, qs.length = xs.length ∧ SlA w 4 A n c (nds xs qs) ∧ ∀ (j : Nat) x q, xs[j]? = some x → qs[j]? = some q → In1 w q x.l

theorem flat_len {α : Type} (m : Nat) : ∀ (ls : List (List α)), (∀ l ∈ ls, l.length = m) → ls.flatten.length = ls.length * m
  | [], _ => by simp
  | l :: ls, h => by
    rw [List.flatten_cons, List.length_append, h l (by simp), flat_len m ls (fun x hx => h x (by simp [hx])), List.length_cons, Nat.succ_mul]
    omega
theorem flat_get {α : Type} (m : Nat) : ∀ (ls : List (List α)) (j k : Nat) (l : List α), (∀ l ∈ ls, l.length = m) → ls[j]? = some l → k < m → ls.flatten[j * m + k]? = l[k]?
  | [], _, _, _, _, h, _ => by cases h
  | x :: ls, 0, k, l, h7, h, hk => by
    simp at h; subst h
    rw [List.flatten_cons, Nat.zero_mul, Nat.zero_add, List.getElem?_append_left (by rw [h7 x (by simp)]; exact hk)]
  | x :: ls, j + 1, k, l, h7, h, hk => by
    have hx := h7 x (by simp)
    rw [List.flatten_cons, List.getElem?_append_right (by rw [hx, Nat.succ_mul]; omega), hx, show (j + 1) * m + k - m = j * m + k by rw [Nat.succ_mul]; omega]
    exact flat_get m ls j k l (fun y hy => h7 y (by simp [hy])) (by simpa using h) hk
theorem nds_mem (xs : List ND) (qs : List Value) : ∀ l ∈ List.zipWith ND.cells xs qs, l.length = 4 := by
  intro l hl
  obtain ⟨j, hj, rfl⟩ := List.mem_iff_getElem.1 hl
  rw [List.getElem_zipWith]
  rfl
theorem nds_len {xs : List ND} {qs : List Value} (h : qs.length = xs.length) : (nds xs qs).length = xs.length * 4 := by
  unfold nds
  rw [flat_len 4 _ (nds_mem xs qs), List.length_zipWith, h, Nat.min_self]
theorem nds_get {xs : List ND} {qs : List Value} {j k : Nat} {x : ND} {q : Value} (hx : xs[j]? = some x) (hq : qs[j]? = some q) (hk : k < 4) : (nds xs qs)[j * 4 + k]? = (x.cells q)[k]? :=
  flat_get 4 _ j k _ (nds_mem xs qs) (by rw [List.getElem?_zipWith, hx, hq]) hk
theorem nds_snoc {xs : List ND} {qs : List Value} (h : qs.length = xs.length) (x : ND) (q : Value) : nds (xs ++ [x]) (qs ++ [q]) = nds xs qs ++ x.cells q := by
  unfold nds
  rw [List.zipWith_append h.symm, List.flatten_append]
  simp

section
variable {w w' : World} {A : Option Addr} {n c : Nat} {xs : List ND}
theorem In1.keep {q : Value} {l : List Int} (h : In1 w q l) (hk : ∀ b o u, w.cell? ⟨b, o, none⟩ = some u → w'.cell? ⟨b, o, none⟩ = some u) : In1 w' q l := by
  obtain ⟨A, c, e, hs⟩ := h
  exact ⟨A, c, e, hs.keep hk⟩
theorem In1.ext {q : Value} {l : List Int} (h : In1 w q l) (hb : Below w.heap.size w w') : In1 w' q l := by
  obtain ⟨A, c, e, hs⟩ := h
  exact ⟨A, c, e, hs.ext hb⟩
/-- A list reads on, where its own block is as it was. -/
theorem In1.kept {q : Value} {l : List Int} (h : In1 w q l) (hk : ∀ b, l ≠ [] → q.ownBlock = some b → w'.heap[b]? = w.heap[b]?) : In1 w' q l := by
  obtain ⟨A, c, rfl, hs⟩ := h
  refine ⟨A, c, rfl, hs.nc, hs.cm, hs.len, fun j u hj => ?_⟩
  obtain ⟨b, off, rfl, hc⟩ := hs.cells j u hj
  refine ⟨b, off, rfl, ?_⟩
  rw [World.cell?_of_block (a := ⟨b, off + j, none⟩) (hk b (fun e => by rw [e] at hj; simp at hj) rfl)]
  exact hc
theorem NdA.keep (h : NdA w A n c xs) (hk : ∀ b o u, w.cell? ⟨b, o, none⟩ = some u → w'.cell? ⟨b, o, none⟩ = some u) : NdA w' A n c xs := by
  obtain ⟨qs, h1, h2, h3⟩ := h
  exact ⟨qs, h1, h2.keep hk, fun j x q hx hq => (h3 j x q hx hq).keep hk⟩
theorem NdA.ext (h : NdA w A n c xs) (hb : Below w.heap.size w w') : NdA w' A n c xs :=
  h.keep fun b o u hc => (hb.cell (p := ⟨b, o, none⟩) (block_lt_of_cell hc)).trans hc
theorem NdA.drewN (h : NdA w A n c xs) (k : Nat) : NdA (w.drewN k) A n c xs := h.keep fun _ _ _ hc => hc
theorem NdA.len (h : NdA w A n c xs) : xs.length = n := by
  obtain ⟨qs, h1, h2, h3⟩ := h
  have := h2.len
  rw [nds_len h1] at this
  omega
theorem NdA.nc (h : NdA w A n c xs) : n ≤ c ∧ c ≤ maxLen := by
  obtain ⟨qs, h1, h2, h3⟩ := h
  exact ⟨h2.nc, h2.cm⟩
theorem NdA.nil (w : World) : NdA w none 0 0 [] := ⟨[], rfl, SlA.nil _ _, fun j x q h => by simp at h⟩
/-- What one node's cells are. -/
theorem NdA.at (h : NdA w A n c xs) {j : Nat} (hj : j < n) : ∃ b off x A' c', A = some ⟨b, off, none⟩ ∧ xs[j]? = some x ∧ w.cell? ⟨b, off + j * 4, none⟩ = some (.int .i64 x.o) ∧ w.cell? ⟨b, off + j * 4 + 1, none⟩ = some (.int .i64 x.n) ∧ w.cell? ⟨b, off + j * 4 + 2, none⟩ = some (.string x.s) ∧
    w.cell? ⟨b, off + j * 4 + 3, none⟩ = some (.slice A' x.l.length c') ∧ SlA w 1 A' x.l.length c' (x.l.map (.int .i64)) := by
  have hn := h.len
  obtain ⟨qs, h1, h2, h3⟩ := h
  have hx : xs[j]? = some (xs[j]'(by omega)) := List.getElem?_eq_getElem (by omega)
  have hq : qs[j]? = some (qs[j]'(by omega)) := List.getElem?_eq_getElem (by omega)
  generalize xs[j]'(by omega) = x at *
  generalize qs[j]'(by omega) = q at *
  obtain ⟨A', c', rfl, hs⟩ := h3 j x q hx hq
  obtain ⟨b, off, rfl, h0⟩ := h2.cells (j * 4 + 0) _ (nds_get hx hq (by decide))
  obtain ⟨b1, off1, e1, h1'⟩ := h2.cells (j * 4 + 1) _ (nds_get hx hq (by decide))
  obtain ⟨b2, off2, e2, h2'⟩ := h2.cells (j * 4 + 2) _ (nds_get hx hq (by decide))
  obtain ⟨b3, off3, e3, h3'⟩ := h2.cells (j * 4 + 3) _ (nds_get hx hq (by decide))
  injection e1 with e1; injection e1 with e1 f1
  injection e2 with e2; injection e2 with e2 f2
  injection e3 with e3; injection e3 with e3 f3
  subst e1; subst f1; subst e2; subst f2; subst e3; subst f3
  exact ⟨b, off, x, A', c', rfl, hx, h0, h1', h2', h3', hs⟩
end

/-- Nodes that an arena has made, one behind the other. -/
structure Okay (xs : List ND) : Prop where
  len : xs.length ≤ 100000
  nd : xs.Nodup
  may : ∀ (j : Nat) x, xs[j]? = some x → mayB (xs.take j) x = true
  w64 : ∀ (j : Nat) x, xs[j]? = some x → x.n < 9223372036854775808
theorem okay_nil : Okay [] := ⟨by decide, List.nodup_nil, fun j x h => by simp at h, fun j x h => by simp at h⟩
theorem okay_mak {xs : List ND} {x : ND} (h : Okay xs) (hn : x.n < 9223372036854775808) : Okay (makT xs x) := by
  unfold makT
  split
  · rename_i hm
    split
    · exact h
    · rename_i hx
      split
      · exact h
      · rename_i hl
        refine ⟨by simp; omega, ?_, fun j y hy => ?_, fun j y hy => ?_⟩
        · rw [List.nodup_append]
          exact ⟨h.nd, by simp, fun a ha b hb e => by rw [List.mem_singleton] at hb; subst hb; subst e; exact hx ha⟩
        · rcases Nat.lt_or_ge j xs.length with hj | hj
          · rw [List.getElem?_append_left hj] at hy
            rw [List.take_append_of_le_length (by omega)]
            exact h.may j y hy
          · rw [List.getElem?_append_right hj] at hy
            rcases hk : j - xs.length with _ | k
            · rw [hk] at hy
              injection hy with hy
              subst hy
              rw [show j = xs.length by omega, List.take_append_of_le_length (Nat.le_refl _), List.take_length]
              exact hm
            · rw [hk] at hy; simp at hy
        · rcases Nat.lt_or_ge j xs.length with hj | hj
          · rw [List.getElem?_append_left hj] at hy
            exact h.w64 j y hy
          · rw [List.getElem?_append_right hj] at hy
            rcases hk : j - xs.length with _ | k
            · rw [hk] at hy
              injection hy with hy
              subst hy
              exact hn
            · rw [hk] at hy; simp at hy
  · exact h

/-- The block st is an arena of these nodes; all its blocks lie in Z. -/
structure Ar (P : Program) (NT K E T : TypeId) (kf : ND → List UInt8) (w : World) (Z : Nat → Prop) (st mp : Nat) (v : Value) (xs : List ND) (qs : List Value) : Prop where
  box : w.heap[st]? = some (.cells #[v, .map (some mp)] T (0, 0))
  row : w.ownsRow 0 NT 4 v xs.length (nds xs qs)
  ql : qs.length = xs.length
  rd : ∀ (j : Nat) x q, xs[j]? = some x → qs[j]? = some q → In1 w q x.l
  own : ∀ (j : Nat) x q b, xs[j]? = some x → qs[j]? = some q → x.l ≠ [] → q.ownBlock = some b → Z b ∧ b ≠ st ∧ b ≠ mp ∧ v.ownBlock ≠ some b
  map : ∃ D, w.ownsMap P K (plainElem P E) mp xs.length D ∧ MapOk kf xs D
  zst : Z st
  zmp : Z mp ∧ mp ≠ st
  zv : ∀ b, v.ownBlock = some b → Z b ∧ b ≠ st ∧ b ≠ mp
  zlt : ∀ b, Z b → b < w.heap.size
  ok : Okay xs

section
variable {P : Program} {NT K E T : TypeId} {kf : ND → List UInt8} {w w' : World} {Z : Nat → Prop} {st mp : Nat} {v : Value} {xs : List ND} {qs : List Value}
theorem own_block {base : Nat} {e : TypeId} {size n : Nat} {cs : List Value} (h : w.ownsRow base e size v n cs) (hb : ∀ b, v.ownBlock = some b → w'.heap[b]? = w.heap[b]?) : w'.ownsRow base e size v n cs := by
  refine ⟨h.1, ?_⟩
  rcases h.2 with h2 | ⟨g, cap, cur, rfl, hg, hh, r⟩
  · exact .inl h2
  · exact .inr ⟨g, cap, cur, rfl, hg, (hb g rfl).trans hh, r⟩
theorem map_block {R : Value → Option (MD × List MemPlace)} {b n : Nat} {D : MD} (h : w.ownsMap P K R b n D) (hb : w'.heap[b]? = w.heap[b]?) : w'.ownsMap P K R b n D := by
  obtain ⟨es, clock, h1, h2⟩ := h
  exact ⟨es, clock, hb.trans h1, h2⟩
/-- An arena stays, where nothing of its own has turned. -/
theorem Ar.kept (h : Ar P NT K E T kf w Z st mp v xs qs) (hb : ∀ b, Z b → w'.heap[b]? = w.heap[b]?) (hs : w.heap.size ≤ w'.heap.size) : Ar P NT K E T kf w' Z st mp v xs qs := by
  obtain ⟨D, hD, hm⟩ := h.map
  exact ⟨(hb _ h.zst).trans h.box, own_block h.row fun b e => hb b (h.zv b e).1, h.ql, fun j x q hx hq => (h.rd j x q hx hq).kept fun b hl e => hb b (h.own j x q b hx hq hl e).1, h.own, ⟨D, map_block hD (hb _ h.zmp.1), hm⟩, h.zst, h.zmp, h.zv, fun b hz => Nat.lt_of_lt_of_le (h.zlt b hz) hs, h.ok⟩
theorem Ar.ext (h : Ar P NT K E T kf w Z st mp v xs qs) (hb : Below w.heap.size w w') : Ar P NT K E T kf w' Z st mp v xs qs :=
  h.kept (fun b hz => hb.block b (h.zlt b hz)) hb.size
theorem Ar.turn {F : Nat → Prop} (h : Ar P NT K E T kf w Z st mp v xs qs) (ht : Turn F w w') (hd : ∀ b, Z b → ¬ F b) : Ar P NT K E T kf w' Z st mp v xs qs :=
  h.kept (fun b hz => ht.block b (h.zlt b hz) (hd b hz)) ht.size
theorem Ar.drewN (h : Ar P NT K E T kf w Z st mp v xs qs) (n : Nat) : Ar P NT K E T kf (w.drewN n) Z st mp v xs qs := h.kept (fun _ _ => rfl) (Nat.le_refl _)
/-- The row reads. -/
theorem Ar.rows (h : Ar P NT K E T kf w Z st mp v xs qs) : ∃ A c, v = .slice A xs.length c ∧ NdA w A xs.length c xs := by
  obtain ⟨A, c, rfl, hs⟩ := SlA.owned h.row
  exact ⟨A, c, rfl, qs, h.ql, hs, h.rd⟩
/-- One node more. -/
theorem Ar.push (h : Ar P NT K E T kf w Z st mp v xs qs) {v' q : Value} {x : ND} {D : MD} (hok : Okay (xs ++ [x]))
    (box : w'.heap[st]? = some (.cells #[v', .map (some mp)] T (0, 0))) (row : w'.ownsRow 0 NT 4 v' (xs.length + 1) (nds xs qs ++ x.cells q)) (hv : v'.ownBlock = v.ownBlock ∨ ∀ b, v'.ownBlock = some b → w.heap.size ≤ b ∧ b < w'.heap.size)
    (hq : In1 w' q x.l) (hqn : x.l ≠ [] → ∀ b, q.ownBlock = some b → w.heap.size ≤ b ∧ b < w'.heap.size ∧ v'.ownBlock ≠ some b) (map : w'.ownsMap P K (plainElem P E) mp (xs.length + 1) D) (hm : MapOk kf (xs ++ [x]) D)
    (hl : ∀ b, Z b → b ≠ st → b ≠ mp → v.ownBlock ≠ some b → w'.heap[b]? = w.heap[b]?) (hs : w.heap.size ≤ w'.heap.size) :
    Ar P NT K E T kf w' (fun b => Z b ∨ (w.heap.size ≤ b ∧ b < w'.heap.size)) st mp v' (xs ++ [x]) (qs ++ [q]) := by
  have hlt := h.zlt
  have h1 := hlt _ h.zst; have h2 := hlt _ h.zmp.1
  refine ⟨box, by rw [nds_snoc h.ql, List.length_append]; exact row, by simp [h.ql], fun j y p hy hp => ?_, fun j y p b hy hp hne hb => ?_, ⟨D, by rw [List.length_append]; exact map, hm⟩, .inl h.zst, ⟨.inl h.zmp.1, h.zmp.2⟩, fun b hb => ?_, fun b hb => ?_, hok⟩
  · rcases Nat.lt_or_ge j xs.length with hj | hj
    · rw [List.getElem?_append_left hj] at hy
      rw [List.getElem?_append_left (by rw [h.ql]; exact hj)] at hp
      refine (h.rd j y p hy hp).kept fun b hne e => ?_
      obtain ⟨z, z1, z2, z3⟩ := h.own j y p b hy hp hne e
      exact hl b z z1 z2 z3
    · rw [List.getElem?_append_right hj] at hy
      rw [List.getElem?_append_right (by rw [h.ql]; exact hj), h.ql] at hp
      rcases hk : j - xs.length with _ | k
      · rw [hk] at hy hp
        injection hy with hy; injection hp with hp
        subst hy; subst hp
        exact hq
      · rw [hk] at hy; simp at hy
  · rcases Nat.lt_or_ge j xs.length with hj | hj
    · rw [List.getElem?_append_left hj] at hy
      rw [List.getElem?_append_left (by rw [h.ql]; exact hj)] at hp
      obtain ⟨z, z1, z2, z3⟩ := h.own j y p b hy hp hne hb
      refine ⟨.inl z, z1, z2, fun e => ?_⟩
      rcases hv with hv | hv
      · exact z3 (hv ▸ e)
      · have := (hv b e).1; have := hlt b z; omega
    · rw [List.getElem?_append_right hj] at hy
      rw [List.getElem?_append_right (by rw [h.ql]; exact hj), h.ql] at hp
      rcases hk : j - xs.length with _ | k
      · rw [hk] at hy hp
        injection hy with hy; injection hp with hp
        subst hy; subst hp
        obtain ⟨a1, a2, a3⟩ := hqn hne b hb
        exact ⟨.inr ⟨a1, a2⟩, by omega, by omega, a3⟩
      · rw [hk] at hy; simp at hy
  · rcases hv with hv | hv
    · obtain ⟨z, z1, z2⟩ := h.zv b (hv ▸ hb)
      exact ⟨.inl z, z1, z2⟩
    · obtain ⟨a1, a2⟩ := hv b hb
      exact ⟨.inr ⟨a1, a2⟩, by omega, by omega⟩
  · rcases hb with hb | hb
    · exact Nat.lt_of_lt_of_le (hlt b hb) hs
    · exact hb.2
end
end Go.KK

/- plain: what layers 4 and 17 do with an arena's nodes, in plain words. -/
namespace Go.KK
set_option linter.unusedVariables false
set_option linter.unusedSimpArgs false

def atN (n : Int) : ND := ⟨1, n, ⟨#[]⟩, []⟩
def ndN (o : Int) (l : List Int) : ND := ⟨o, 0, ⟨#[]⟩, l⟩
def nd0 : ND := ⟨0, 0, ⟨#[]⟩, []⟩
/-- What making a node gives: the arena, the number, the error. -/
def mk (xs : List ND) (x : ND) : List ND × Int × Int := (makT xs x, makI xs x, makE xs x)
def nodeF (xs : List ND) (t : Int) : ND := if hasB xs t then xs.getD t.toNat nd0 else nd0
def nodeE (xs : List ND) (t : Int) : Int := if hasB xs t then 0 else 4
def kno (xs : List ND) (l : List Int) : Bool := l.all (hasB xs)
def unblF (xs : List ND) (sig draw : Int) : List ND × Int × Int :=
  if kno xs [sig, draw] then
    if (nodeF xs sig).o == 10 then
      if (nodeF xs ((nodeF xs sig).l.getD 1 0)).o == 12 && (nodeF xs ((nodeF xs sig).l.getD 1 0)).l.getD 1 0 == draw then
        mk xs (ndN 10 [(nodeF xs sig).l.getD 0 0, (nodeF xs ((nodeF xs sig).l.getD 1 0)).l.getD 0 0])
      else (xs, 0, 40)
    else (xs, 0, 40)
  else (xs, 0, 1)
def askF (xs : List ND) (nonce draw : Int) : List ND × Int × Int :=
  if hasB xs nonce && decide (0 ≤ draw) then
    if makE xs (atN draw) == 0 then mk (makT xs (atN draw)) (ndN 12 [nonce, makI xs (atN draw)])
    else (makT xs (atN draw), 0, makE xs (atN draw))
  else (xs, 0, 1)
def finF (xs : List ND) (sig draw : Int) : List ND × Int × Int :=
  if makE xs (atN draw) == 0 then unblF (makT xs (atN draw)) sig (makI xs (atN draw))
  else (makT xs (atN draw), 0, makE xs (atN draw))
/-- A mint. -/
structure MT where
  k : Int
  q : Int
  g : List (Int × Int)
  p : List Int
deriving DecidableEq
def mt0 : MT := ⟨0, 0, [], []⟩
def lbF (g : List (Int × Int)) (w : Int) : Nat := g.countP fun c => decide (c.1 < w)
def isF (g : List (Int × Int)) (w : Int) : Bool := g.any fun c => c.1 == w
def cntF (g : List (Int × Int)) (w : Int) : Int := match g.find? (fun c => c.1 == w) with | some c => c.2 | none => 0
def hadF (g : List (Int × Int)) (l : List Int) : Int := (l.map (cntF g)).sum
def incF (g : List (Int × Int)) (w : Int) : List (Int × Int) := g.take (lbF g w) ++ (w, cntF g w + 1) :: g.drop (if isF g w then lbF g w + 1 else lbF g w)
def newF (xs : List ND) (sk quota : Int) : MT × Int := if hasB xs sk && decide (0 ≤ quota) then (⟨sk, quota, [], []⟩, 0) else (mt0, 1)
def issF (xs : List ND) (m : MT) (who asked : Int) : List ND × Int × MT × Int :=
  if hasB xs who && hasB xs asked && (nodeF xs asked).o == 12 then
    if m.q ≤ cntF m.g who then (xs, 0, mt0, 82)
    else if makE xs (ndN 10 [m.k, asked]) == 0 then (makT xs (ndN 10 [m.k, asked]), makI xs (ndN 10 [m.k, asked]), ⟨m.k, m.q, incF m.g who, m.p⟩, 0)
    else (makT xs (ndN 10 [m.k, asked]), 0, mt0, makE xs (ndN 10 [m.k, asked]))
  else (xs, 0, mt0, 1)
def lbI (p : List Int) (x : Int) : Nat := p.countP fun c => decide (c < x)
def spF (xs : List ND) (m : MT) (nonce sig : Int) : MT × Int :=
  if kno xs [nonce, sig] then
    if (nodeF xs sig).o == 10 && (nodeF xs sig).l.getD 0 0 == m.k && (nodeF xs sig).l.getD 1 0 == nonce then
      if m.p.contains nonce then (mt0, 81) else (⟨m.k, m.q, m.g, m.p.take (lbI m.p nonce) ++ nonce :: m.p.drop (lbI m.p nonce)⟩, 0)
    else (mt0, 40)
  else (mt0, 1)

/-! the law's arenas: twelve secrets -/
def atoms (n : Nat) : List ND := (List.range n).map fun j : Nat => atN (j : Int)
theorem atoms_succ (n : Nat) : atoms (n + 1) = atoms n ++ [atN n] := by unfold atoms; rw [List.range_succ, List.map_append]; rfl
theorem atoms_len (n : Nat) : (atoms n).length = n := by simp [atoms]
theorem atN_mem {n : Nat} {x : Int} : atN x ∈ atoms n ↔ 0 ≤ x ∧ x < n := by
  unfold atoms
  rw [List.mem_map]
  constructor
  · rintro ⟨j, hj, e⟩
    have := List.mem_range.1 hj
    injection e with _ e
    omega
  · rintro ⟨h1, h2⟩
    exact ⟨x.toNat, List.mem_range.2 (by omega), by unfold atN; rw [show ((x.toNat : Nat) : Int) = x by omega]⟩
theorem may_atom (xs : List ND) {x : Int} (h : 0 ≤ x) : mayB xs (atN x) = true := by
  have e : mayB xs (atN x) = (true && true && decide (0 ≤ x) && true && (true || x == 0) && true && true && true) := rfl
  rw [e, decide_eq_true h]; rfl
theorem mak_new {xs : List ND} {x : ND} (hm : mayB xs x = true) (hx : x ∉ xs) (hl : xs.length < 100000) : makT xs x = xs ++ [x] ∧ makI xs x = (xs.length : Nat) ∧ makE xs x = 0 := by
  unfold makT makI makE
  rw [hm, if_pos rfl, if_pos rfl, if_pos rfl, if_neg hx, if_neg hx, if_neg hx, if_neg (by omega), if_neg (by omega), if_neg (by omega)]
  exact ⟨rfl, rfl, rfl⟩
theorem mak_old {xs : List ND} {x : ND} (hm : mayB xs x = true) (hx : x ∈ xs) : makT xs x = xs ∧ makI xs x = (xs.idxOf x : Nat) ∧ makE xs x = 0 := by
  unfold makT makI makE
  rw [hm, if_pos rfl, if_pos rfl, if_pos rfl, if_pos hx, if_pos hx, if_pos hx]
  exact ⟨rfl, rfl, rfl⟩
theorem atoms_step {n : Nat} (hn : n < 100000) : makT (atoms n) (atN n) = atoms (n + 1) := by
  rw [(mak_new (may_atom _ (by omega)) (fun h => by have := atN_mem.1 h; omega) (by rw [atoms_len]; exact hn)).1, atoms_succ]
/-- A node with a part that is not yet there is new. -/
theorem fresh_part {xs : List ND} (h : Okay xs) {x : ND} {t : Int} (ht : t ∈ x.l) (hl : (xs.length : Int) ≤ t + 1) : x ∉ xs := by
  intro hx
  obtain ⟨j, hj, e⟩ := List.mem_iff_getElem.1 hx
  have hm := h.may j x (by rw [List.getElem?_eq_getElem hj, e])
  unfold mayB at hm
  simp only [Bool.and_eq_true, List.all_eq_true] at hm
  have := hm.1.2 t ht
  unfold hasB at this
  simp only [Bool.and_eq_true, decide_eq_true_eq, List.length_take] at this
  omega
end Go.KK

/- plain: nodes made one behind the other: a node that is made again is the same term (TermOnce). -/
namespace Go.KK
open Go.RowKit
set_option linter.unusedVariables false
set_option linter.unusedSimpArgs false

theorem has_iff {xs : List ND} {t : Int} : hasB xs t = true ↔ 0 ≤ t ∧ t < (xs.length : Nat) := by
  unfold hasB
  simp only [Bool.and_eq_true, decide_eq_true_eq]
theorem may_app {xs : List ND} (l : List ND) {x : ND} (h : mayB xs x = true) : mayB (xs ++ l) x = true := by
  unfold mayB at h ⊢
  simp only [Bool.and_eq_true, List.all_eq_true, Bool.or_eq_true] at h ⊢
  refine ⟨⟨h.1.1, fun t ht => ?_⟩, h.2.imp id fun h2 => ?_⟩
  · have := h.1.2 t ht
    unfold hasB at this ⊢
    simp only [Bool.and_eq_true, decide_eq_true_eq, List.length_append] at this ⊢
    omega
  · have h3 : opAt xs (x.l.getD 1 0) = 2 := eq_of_beq h2
    have h4 : opAt (xs ++ l) (x.l.getD 1 0) = 2 := by
      unfold opAt at h3 ⊢
      rcases hh : xs[(x.l.getD 1 0).toNat]? with _ | y
      · rw [hh] at h3; exact absurd h3 (by decide)
      · rw [List.getElem?_append_left (List.getElem?_eq_some_iff.1 hh).1, hh]
        rw [hh] at h3; exact h3
    exact beq_iff_eq.2 h4
/-- The arena behind nodes that were made, one behind the other. -/
def mksT (xs l : List ND) : List ND := l.foldl makT xs
/-- What is told of one: -1 where it may not be. -/
def toldI (xs : List ND) (x : ND) : Int := if makE xs x = 0 then makI xs x else -1
def mksR : List ND → List ND → List Int
  | _, [] => []
  | xs, x :: l => toldI xs x :: mksR (makT xs x) l
theorem take_one {α : Type} {l : List α} {j : Nat} {x : α} (h : l[j]? = some x) : l.take (j + 1) = l.take j ++ [x] := by rw [List.take_add_one, h]; rfl
theorem mksT_take {xs l : List ND} {j : Nat} {x : ND} (h : l[j]? = some x) : mksT xs (l.take (j + 1)) = makT (mksT xs (l.take j)) x := by
  rw [take_one h]; unfold mksT; rw [List.foldl_append]; rfl
theorem mksR_snoc (x : ND) : ∀ (l xs : List ND), mksR xs (l ++ [x]) = mksR xs l ++ [toldI (mksT xs l) x]
  | [], xs => rfl
  | y :: l, xs => by
    show toldI xs y :: mksR (makT xs y) (l ++ [x]) = toldI xs y :: mksR (makT xs y) l ++ [toldI (mksT (makT xs y) l) x]
    rw [mksR_snoc x l]; rfl
theorem mksR_take {xs l : List ND} {j : Nat} {x : ND} (h : l[j]? = some x) : mksR xs (l.take (j + 1)) = mksR xs (l.take j) ++ [toldI (mksT xs (l.take j)) x] := by
  rw [take_one h, mksR_snoc]
theorem mksR_len : ∀ (l xs : List ND), (mksR xs l).length = l.length
  | [], _ => rfl
  | _ :: l, xs => by show (mksR _ l).length + 1 = l.length + 1; rw [mksR_len l]
theorem mksR_at : ∀ (l xs : List ND) (j : Nat) (x : ND), l[j]? = some x → (mksR xs l)[j]? = some (toldI (mksT xs (l.take j)) x)
  | [], _, _, _, h => by simp at h
  | y :: l, xs, 0, x, h => by injection h with h; subst h; rfl
  | y :: l, xs, j + 1, x, h => mksR_at l (makT xs y) j x h
theorem mak_pre (xs : List ND) (x : ND) : ∃ m, makT xs x = xs ++ m := by
  unfold makT
  split
  · split
    · exact ⟨[], by simp⟩
    · split
      · exact ⟨[], by simp⟩
      · exact ⟨[x], rfl⟩
  · exact ⟨[], by simp⟩
theorem mks_pre : ∀ (l xs : List ND), ∃ m, mksT xs l = xs ++ m
  | [], xs => ⟨[], by simp [mksT]⟩
  | x :: l, xs => by
    obtain ⟨m, hm⟩ := mak_pre xs x
    obtain ⟨m', hm'⟩ := mks_pre l (makT xs x)
    exact ⟨m ++ m', by show mksT (makT xs x) l = _; rw [hm', hm, List.append_assoc]⟩
theorem mks_pre_take (xs l : List ND) (j : Nat) : ∃ m, mksT xs l = mksT xs (l.take j) ++ m := by
  obtain ⟨m, hm⟩ := mks_pre (l.drop j) (mksT xs (l.take j))
  refine ⟨m, ?_⟩
  rw [← hm]
  unfold mksT
  rw [← List.foldl_append, List.take_append_drop]
theorem mks_len (xs l : List ND) : (mksT xs l).length ≤ xs.length + l.length := by
  induction l generalizing xs with
  | nil => simp [mksT]
  | cons x l ih =>
    have h1 := ih (makT xs x)
    have h2 : (makT xs x).length ≤ xs.length + 1 := by
      unfold makT
      split
      · split
        · omega
        · split <;> simp
      · omega
    show (mksT (makT xs x) l).length ≤ _
    rw [List.length_cons]; omega
theorem mks_ok {xs l : List ND} (h : Okay xs) (hl : ∀ x ∈ l, x.n < 9223372036854775808) : Okay (mksT xs l) := by
  induction l generalizing xs with
  | nil => exact h
  | cons x l ih => exact ih (okay_mak h (hl x (by simp))) fun y hy => hl y (by simp [hy])
theorem told_some {xs : List ND} {x : ND} (h : 0 ≤ toldI xs x) : makE xs x = 0 ∧ makI xs x = toldI xs x ∧ mayB xs x = true ∧ (makT xs x)[(toldI xs x).toNat]? = some x := by
  unfold toldI at h ⊢
  split at h
  · rename_i he
    rw [if_pos he]
    refine ⟨he, rfl, ?_⟩
    by_cases hm : mayB xs x = true
    · refine ⟨hm, ?_⟩
      by_cases hx : x ∈ xs
      · obtain ⟨a, b, c⟩ := mak_old hm hx
        rw [a, b, Int.toNat_natCast]
        exact idxOf_get hx
      · by_cases hl : xs.length < 100000
        · obtain ⟨a, b, c⟩ := mak_new hm hx hl
          rw [a, b, Int.toNat_natCast]; simp
        · unfold makE at he
          rw [if_pos hm, if_neg hx, if_pos (by omega)] at he
          exact absurd he (by decide)
    · unfold makE at he
      rw [if_neg hm] at he
      exact absurd he (by decide)
  · omega
theorem told_cases (xs : List ND) (x : ND) : (makE xs x = 0 ∧ toldI xs x = makI xs x ∧ 0 ≤ toldI xs x) ∨ (makE xs x ≠ 0 ∧ toldI xs x = -1) := by
  unfold toldI
  by_cases he : makE xs x = 0
  · left
    rw [if_pos he]
    refine ⟨he, rfl, ?_⟩
    unfold makI
    split
    · split
      · omega
      · split <;> omega
    · omega
  · right; rw [if_neg he]; exact ⟨he, rfl⟩
theorem get_pre {α : Type} {xs m : List α} {j : Nat} {x : α} (h : xs[j]? = some x) : (xs ++ m)[j]? = some x := by
  rw [List.getElem?_append_left (List.getElem?_eq_some_iff.1 h).1, h]
theorem get_inj {α : Type} {xs : List α} {j k : Nat} {x : α} (hn : xs.Nodup) (h : xs[j]? = some x) (h' : xs[k]? = some x) : j = k :=
  (List.getElem?_inj (List.getElem?_eq_some_iff.1 h).1 hn).1 (h.trans h'.symm)
/-- Made again, a node is what it was. -/
theorem once_at {l : List ND} {i : Nat} {n : ND} (hl : ∀ x ∈ l, x.n < 9223372036854775808) (hi : l[i]? = some n) (h0 : 0 ≤ toldI (mksT [] (l.take i)) n) :
    makE (mksT (mksT [] l) (l.take i)) n = 0 ∧ makI (mksT (mksT [] l) (l.take i)) n = toldI (mksT [] (l.take i)) n ∧
    (∀ k x, k < i → l[k]? = some x → 0 ≤ toldI (mksT [] (l.take k)) x → (toldI (mksT [] (l.take k)) x == toldI (mksT [] (l.take i)) n) = decide (x = n)) ∧
    ∀ x ∈ n.l, x < toldI (mksT [] (l.take i)) n := by
  have hok : Okay (mksT (mksT [] l) (l.take i)) := mks_ok (mks_ok okay_nil hl) fun x hx => hl x (List.mem_of_mem_take hx)
  have at' : ∀ k x, l[k]? = some x → 0 ≤ toldI (mksT [] (l.take k)) x → mayB (mksT (mksT [] l) (l.take i)) x = true ∧ (mksT (mksT [] l) (l.take i))[(toldI (mksT [] (l.take k)) x).toNat]? = some x := by
    intro k x hk h
    obtain ⟨_, _, c, d⟩ := told_some h
    obtain ⟨m1, e1⟩ := mks_pre_take [] l (k + 1)
    obtain ⟨m2, e2⟩ := mks_pre (l.take i) (mksT [] l)
    rw [mksT_take hk] at e1
    obtain ⟨m0, e0⟩ := mak_pre (mksT [] (l.take k)) x
    refine ⟨?_, ?_⟩
    · rw [e2, e1, e0]; exact may_app _ (may_app _ (may_app _ c))
    · rw [e2, e1]; exact get_pre (get_pre d)
  obtain ⟨hm, hg⟩ := at' i n hi h0
  have hmem := List.mem_of_getElem? hg
  obtain ⟨a, b, c⟩ := mak_old hm hmem
  have hidx := get_inj hok.nd (idxOf_get hmem) hg
  refine ⟨c, by rw [b, hidx]; omega, fun k x hk hx hx0 => ?_, fun x hx => ?_⟩
  · obtain ⟨_, hgx⟩ := at' k x hx hx0
    by_cases he : x = n
    · subst he
      have := get_inj hok.nd hgx hg
      rw [decide_eq_true rfl, beq_iff_eq]
      omega
    · rw [decide_eq_false he, beq_eq_false_iff_ne]
      intro h
      rw [h] at hgx
      rw [hgx] at hg
      injection hg with hg
      exact he hg
  · have hmay := hok.may _ _ hg
    unfold mayB at hmay
    simp only [Bool.and_eq_true, List.all_eq_true] at hmay
    have := hmay.1.2 x hx
    unfold hasB at this
    simp only [Bool.and_eq_true, decide_eq_true_eq, List.length_take] at this
    omega
end Go.KK

/- plain: what a term is made of, and how many terms (TermBelow). -/
namespace Go.KK
open Go.RowKit
set_option linter.unusedVariables false
set_option linter.unusedSimpArgs false

theorem nodup_le : ∀ (N : Nat) (M : List Int), M.Nodup → (∀ x ∈ M, 0 ≤ x ∧ x < N) → M.length ≤ N
  | 0, M, _, h => by
    cases M with
    | nil => simp
    | cons x M => have := h x (by simp); omega
  | N + 1, M, hn, h => by
    by_cases hm : (N : Int) ∈ M
    · have := nodup_le N (M.erase (N : Int)) (hn.erase _) fun x hx => by
        have h1 := h x (List.mem_of_mem_erase hx)
        have h2 : x ≠ (N : Int) := ((hn.mem_erase_iff).1 hx).1
        omega
      rw [List.length_erase_of_mem hm] at this
      omega
    · have := nodup_le N M hn fun x hx => by
        have h1 := h x hx
        have h2 : x ≠ (N : Int) := fun e => hm (e ▸ hx)
        omega
      omega
theorem sub_le {α : Type} [DecidableEq α] : ∀ (M M' : List α), M.Nodup → (∀ x ∈ M, x ∈ M') → M.length ≤ M'.length
  | [], _, _, _ => by simp
  | x :: M, M', hn, h => by
    have hx := h x (by simp)
    have h2 := List.nodup_cons.1 hn
    have := sub_le M (M'.erase x) h2.2 fun y hy => (List.mem_erase_of_ne (fun e => h2.1 (by rw [← e]; exact hy))).2 (h y (by simp [hy]))
    rw [List.length_erase_of_mem hx] at this
    have := List.length_pos_of_mem hx
    rw [List.length_cons]; omega
/-- A term is made of another one. -/
inductive Rch (xs : List ND) : Int → Int → Prop
  | self {t : Int} (h : hasB xs t = true) : Rch xs t t
  | step {t x y : Int} (h : Rch xs t x) (hy : y ∈ (nodeF xs x).l) : Rch xs t y
/-- So many terms is a term made of. -/
def SizeIs (xs : List ND) (t : Int) (n : Nat) : Prop := ∃ M : List Int, M.Nodup ∧ (∀ y, y ∈ M ↔ Rch xs t y) ∧ n = M.length
theorem nodeF_get {xs : List ND} {t : Int} (h : hasB xs t = true) : xs[t.toNat]? = some (nodeF xs t) := by
  have h2 := has_iff.1 h
  unfold nodeF
  rw [h, if_pos rfl, List.getD, List.getElem?_eq_getElem (by omega)]
  rfl
theorem part_lt {xs : List ND} (ok : Okay xs) {t x : Int} (h : hasB xs t = true) (hx : x ∈ (nodeF xs t).l) : 0 ≤ x ∧ x < t ∧ hasB xs x = true := by
  have h2 := has_iff.1 h
  have hm := ok.may _ _ (nodeF_get h)
  unfold mayB at hm
  simp only [Bool.and_eq_true, List.all_eq_true] at hm
  have h3 := has_iff.1 (hm.1.2 x hx)
  rw [List.length_take] at h3
  refine ⟨h3.1, by omega, has_iff.2 ⟨h3.1, by omega⟩⟩
theorem Rch.has {xs : List ND} (ok : Okay xs) {t x : Int} (h : Rch xs t x) : hasB xs t = true ∧ hasB xs x = true ∧ 0 ≤ x ∧ x ≤ t := by
  induction h with
  | self h => exact ⟨h, h, (has_iff.1 h).1, Int.le_refl _⟩
  | step h hy ih =>
    obtain ⟨a, b, c⟩ := part_lt ok ih.2.1 hy
    exact ⟨ih.1, c, a, by omega⟩
theorem Rch.trans {xs : List ND} {t x y : Int} (h : Rch xs t x) (k : Rch xs x y) : Rch xs t y := by
  induction k with
  | self _ => exact h
  | step _ hy ih => exact .step ih hy
theorem size_uniq {xs : List ND} {t : Int} {n m : Nat} (h : SizeIs xs t n) (k : SizeIs xs t m) : n = m := by
  obtain ⟨M, a, b, rfl⟩ := h
  obtain ⟨M', a', b', rfl⟩ := k
  exact Nat.le_antisymm (sub_le _ _ a fun x hx => (b' x).2 ((b x).1 hx)) (sub_le _ _ a' fun x hx => (b x).2 ((b' x).1 hx))
theorem size_le {xs : List ND} (ok : Okay xs) {t : Int} {n : Nat} (h : SizeIs xs t n) (ht : hasB xs t = true) : (n : Int) ≤ t + 1 ∧ 1 ≤ n := by
  obtain ⟨M, a, b, rfl⟩ := h
  have h0 := has_iff.1 ht
  refine ⟨?_, List.length_pos_of_mem ((b t).2 (.self ht))⟩
  have := nodup_le (t.toNat + 1) M a fun x hx => by
    have := ((b x).1 hx).has ok
    omega
  omega
theorem size_lt {xs : List ND} (ok : Okay xs) {t x : Int} {n m : Nat} (h : SizeIs xs t n) (k : SizeIs xs x m) (ht : hasB xs t = true) (hx : x ∈ (nodeF xs t).l) : m < n := by
  obtain ⟨M, a, b, rfl⟩ := h
  obtain ⟨M', a', b', rfl⟩ := k
  have hp := part_lt ok ht hx
  have := sub_le (t :: M') M (List.nodup_cons.2 ⟨fun hm => by have := ((b' t).1 hm).has ok; omega, a'⟩) fun y hy => by
    rcases List.mem_cons.1 hy with rfl | hy
    · exact (b _).2 (.self ht)
    · exact (b y).2 ((Rch.step (.self ht) hx).trans ((b' y).1 hy))
  rw [List.length_cons] at this
  omega
theorem nodeF_app {xs : List ND} (m : List ND) {t : Int} (h : hasB xs t = true) : nodeF (xs ++ m) t = nodeF xs t ∧ hasB (xs ++ m) t = true := by
  have h2 := has_iff.1 h
  have h3 : hasB (xs ++ m) t = true := has_iff.2 ⟨h2.1, by rw [List.length_append]; omega⟩
  refine ⟨?_, h3⟩
  have e1 := nodeF_get h
  have e2 := nodeF_get h3
  rw [List.getElem?_append_left (by omega), e1] at e2
  exact (Option.some.inj e2).symm
theorem rch_app {xs : List ND} (ok : Okay xs) (m : List ND) {t : Int} (h : hasB xs t = true) (y : Int) : Rch (xs ++ m) t y ↔ Rch xs t y := by
  constructor
  · intro k
    induction k with
    | self _ => exact .self h
    | step k hy ih =>
      rw [(nodeF_app m (ih.has ok).2.1).1] at hy
      exact .step ih hy
  · intro k
    induction k with
    | self _ => exact .self (nodeF_app m h).2
    | step k hy ih =>
      rw [← (nodeF_app m ((k.has ok).2.1)).1] at hy
      exact .step ih hy
theorem size_app {xs : List ND} (ok : Okay xs) (m : List ND) {t : Int} {n : Nat} (h : hasB xs t = true) : SizeIs (xs ++ m) t n ↔ SizeIs xs t n := by
  unfold SizeIs
  constructor
  · rintro ⟨M, a, b, e⟩
    exact ⟨M, a, fun y => (b y).trans (rch_app ok m h y), e⟩
  · rintro ⟨M, a, b, e⟩
    exact ⟨M, a, fun y => (b y).trans (rch_app ok m h y).symm, e⟩
/-- On the way: M is met, O is open, and of x (if any is being looked at) so many parts have been looked at. -/
structure Pt (xs : List ND) (t : Int) (M O : List Int) (x : Option Int) (k : Nat) : Prop where
  nd : M.Nodup
  tm : t ∈ M
  r : ∀ y ∈ M, Rch xs t y
  o : ∀ y ∈ O, y ∈ M
  c : ∀ z ∈ M, z ∉ O → x ≠ some z → ∀ y ∈ (nodeF xs z).l, y ∈ M
  x : ∀ z, x = some z → z ∈ M ∧ ∀ y ∈ (nodeF xs z).l.take k, y ∈ M
theorem pt_start {xs : List ND} {t : Int} (h : hasB xs t = true) : Pt xs t [t] [t] none 0 :=
  ⟨by simp, by simp, fun y hy => by rw [List.mem_singleton] at hy; subst hy; exact .self h, fun y hy => hy, fun z hz hn => absurd hz hn, fun z e => by cases e⟩
theorem Pt.pop {xs : List ND} {t x : Int} {M O : List Int} {k : Nat} (h : Pt xs t M (O ++ [x]) none k) : Pt xs t M O (some x) 0 := by
  refine ⟨h.nd, h.tm, h.r, fun y hy => h.o y (by simp [hy]), fun z hz hn hx => h.c z hz ?_ (by simp), fun z e => ?_⟩
  · rw [List.mem_append, List.mem_singleton]
    rintro (h1 | h1)
    · exact hn h1
    · exact hx (by rw [h1])
  · injection e with e
    subst e
    exact ⟨h.o _ (by simp), by simp⟩
theorem Pt.old {xs : List ND} {t x y : Int} {M O : List Int} {k : Nat} (h : Pt xs t M O (some x) k) (hy : (nodeF xs x).l[k]? = some y) (hm : y ∈ M) : Pt xs t M O (some x) (k + 1) := by
  refine ⟨h.nd, h.tm, h.r, h.o, h.c, fun z e => ⟨(h.x z e).1, fun u hu => ?_⟩⟩
  injection e with e
  subst e
  rw [take_one hy, List.mem_append, List.mem_singleton] at hu
  rcases hu with hu | rfl
  · exact (h.x _ rfl).2 u hu
  · exact hm
theorem Pt.new {xs : List ND} {t x y : Int} {M O : List Int} {k : Nat} (h : Pt xs t M O (some x) k) (hy : (nodeF xs x).l[k]? = some y) (hm : y ∉ M) : Pt xs t (M ++ [y]) (O ++ [y]) (some x) (k + 1) := by
  refine ⟨?_, by simp [h.tm], fun u hu => ?_, fun u hu => ?_, fun z hz hn hx u hu => ?_, fun z e => ?_⟩
  · rw [List.nodup_append]
    exact ⟨h.nd, by simp, fun a ha b hb e => by rw [List.mem_singleton] at hb; subst hb; subst e; exact hm ha⟩
  · rw [List.mem_append, List.mem_singleton] at hu
    rcases hu with hu | rfl
    · exact h.r u hu
    · exact .step (h.r x (h.x x rfl).1) (List.mem_of_getElem? hy)
  · rw [List.mem_append, List.mem_singleton] at hu ⊢
    exact hu.imp (h.o u) id
  · rw [List.mem_append, List.mem_singleton] at hn
    rw [List.mem_append, List.mem_singleton] at hz
    rcases hz with hz | rfl
    · exact List.mem_append_left _ (h.c z hz (fun h' => hn (.inl h')) hx u hu)
    · exact absurd (.inr rfl) hn
  · refine ⟨List.mem_append_left _ (h.x z e).1, fun u hu => ?_⟩
    injection e with e
    subst e
    rw [take_one hy, List.mem_append, List.mem_singleton] at hu
    rw [List.mem_append, List.mem_singleton]
    rcases hu with hu | rfl
    · exact .inl ((h.x _ rfl).2 u hu)
    · exact .inr rfl
theorem Pt.done {xs : List ND} {t x : Int} {M O : List Int} {k : Nat} (h : Pt xs t M O (some x) k) (hk : (nodeF xs x).l.length ≤ k) : Pt xs t M O none 0 := by
  refine ⟨h.nd, h.tm, h.r, h.o, fun z hz hn _ u hu => ?_, fun z e => by cases e⟩
  by_cases hx : x = z
  · subst hx
    have := (h.x _ rfl).2
    rw [List.take_of_length_le hk] at this
    exact this u hu
  · exact h.c z hz hn (fun e => hx (by injection e)) u hu
theorem Pt.size {xs : List ND} {t : Int} {M : List Int} {k : Nat} (h : Pt xs t M [] none k) : ∀ y, y ∈ M ↔ Rch xs t y := fun y =>
  ⟨h.r y, fun hr => by
    have ht := h.tm
    induction hr with
    | self _ => exact ht
    | step _ hy ih => exact h.c _ ih (by simp) (by simp) _ hy⟩
theorem Pt.len {xs : List ND} (ok : Okay xs) {t : Int} {M O : List Int} {x : Option Int} {k : Nat} (h : Pt xs t M O x k) : M.length ≤ xs.length :=
  nodup_le _ M h.nd fun y hy => by
    have := (h.r y hy).has ok
    have := has_iff.1 this.2.1
    omega
end Go.KK

/- plain: what can be derived of some terms (layer 5): the rules, the least set, the worklist. -/
namespace Go.KK
open Go.RowKit
set_option linter.unusedVariables false
set_option linter.unusedSimpArgs false

theorem getD_mem {l : List Int} {k : Nat} (h : k < l.length) : l.getD k 0 ∈ l := by
  rw [List.getD, List.getElem?_eq_getElem h]; exact List.getElem_mem h
theorem nd_len {xs : List ND} (ok : Okay xs) {t : Int} (h : hasB xs t = true) : lenB (nodeF xs t).o (nodeF xs t).l.length = true := by
  have hm := ok.may _ _ (nodeF_get h)
  unfold mayB shB at hm
  simp only [Bool.and_eq_true] at hm
  exact hm.1.1.1.1.1.1.1
theorem len_of {xs : List ND} (ok : Okay xs) {t : Int} (h : hasB xs t = true) {o : Int} {k : Nat} (ho : (nodeF xs t).o = o) (hk : arN o = some k) : (nodeF xs t).l.length = k := by
  have := nd_len ok h
  rw [ho] at this
  unfold lenB at this
  rw [hk] at this
  exact eq_of_beq this
/-- One step of deriving: of these the other one. -/
inductive Rule (xs : List ND) : List Int → Int → Prop
  | comp (t : Int) (h : hasB xs t = true) (ho : (nodeF xs t).o ≠ 1) : Rule xs (nodeF xs t).l t
  | list (t x : Int) (h : hasB xs t = true) (ho : (nodeF xs t).o = 3) (hx : x ∈ (nodeF xs t).l) : Rule xs [t] x
  | opn (t x : Int) (h : hasB xs t = true) (ho : (nodeF xs t).o = 8) (hk : (nodeF xs ((nodeF xs t).l.getD 0 0)).o = 7) (hx : x ∈ ((nodeF xs t).l.drop 1).take 2) : Rule xs [t, (nodeF xs ((nodeF xs t).l.getD 0 0)).l.getD 0 0] x
  | enc (t x : Int) (h : hasB xs t = true) (ho : (nodeF xs t).o = 9) (hx : x ∈ (nodeF xs t).l.drop 1) : Rule xs [t, (nodeF xs t).l.getD 0 0] x
  | sig (t : Int) (h : hasB xs t = true) (ho : (nodeF xs t).o = 10) : Rule xs [t] ((nodeF xs t).l.getD 1 0)
  | unbl (t u : Int) (h : hasB xs t = true) (hu : hasB xs u = true) (ho : (nodeF xs t).o = 10) (hb : (nodeF xs ((nodeF xs t).l.getD 1 0)).o = 12) (uo : (nodeF xs u).o = 10) (u0 : (nodeF xs u).l.getD 0 0 = (nodeF xs t).l.getD 0 0) (u1 : (nodeF xs u).l.getD 1 0 = (nodeF xs ((nodeF xs t).l.getD 1 0)).l.getD 0 0) : Rule xs [t, (nodeF xs ((nodeF xs t).l.getD 1 0)).l.getD 1 0] u
  | blind (t : Int) (h : hasB xs t = true) (ho : (nodeF xs t).o = 12) : Rule xs [t, (nodeF xs t).l.getD 1 0] ((nodeF xs t).l.getD 0 0)
/-- A set that no step leaves. -/
def Cl (xs : List ND) (S : Int → Prop) : Prop := ∀ P c, Rule xs P c → (∀ p ∈ P, S p) → S c
/-- What can be derived of some. -/
def Der (xs : List ND) (l : List Int) (t : Int) : Prop := ∀ S, Cl xs S → (∀ x ∈ l, S x) → S t
theorem der_known {xs : List ND} {l : List Int} {t : Int} (h : t ∈ l) : Der xs l t := fun _ _ k => k t h
theorem der_cl (xs : List ND) (l : List Int) : Cl xs (Der xs l) := fun P c hr hp S hS hl => hS P c hr fun p h => hp p h S hS hl
theorem der_least {xs : List ND} {l : List Int} {S : Int → Prop} (hS : Cl xs S) (hl : ∀ x ∈ l, S x) {t : Int} (h : Der xs l t) : S t := h S hS hl
theorem der_mono {xs : List ND} {l m : List Int} (h : ∀ x ∈ l, Der xs m x) {t : Int} (ht : Der xs l t) : Der xs m t := der_least (der_cl xs m) h ht
theorem rule_has {xs : List ND} (ok : Okay xs) {P : List Int} {c : Int} (h : Rule xs P c) : (∀ p ∈ P, hasB xs p = true) ∧ hasB xs c = true := by
  have pt : ∀ {t x : Int}, hasB xs t = true → x ∈ (nodeF xs t).l → hasB xs x = true := fun ht hx => (part_lt ok ht hx).2.2
  cases h with
  | comp _ h ho => exact ⟨fun p hp => pt h hp, h⟩
  | list t x h ho hx => exact ⟨fun p hp => by rw [List.mem_singleton] at hp; subst hp; exact h, pt h hx⟩
  | opn t x h ho hk hx =>
    have hl := len_of ok h ho rfl
    have h0 := pt h (getD_mem (l := (nodeF xs t).l) (k := 0) (by omega))
    have hl0 := len_of ok h0 hk rfl
    refine ⟨fun p hp => ?_, pt h (List.mem_of_mem_drop (List.mem_of_mem_take hx))⟩
    simp only [List.mem_cons, List.not_mem_nil, or_false] at hp
    rcases hp with rfl | rfl
    · exact h
    · exact pt h0 (getD_mem (by omega))
  | enc t x h ho hx =>
    have hl := len_of ok h ho rfl
    refine ⟨fun p hp => ?_, pt h (List.mem_of_mem_drop hx)⟩
    simp only [List.mem_cons, List.not_mem_nil, or_false] at hp
    rcases hp with rfl | rfl
    · exact h
    · exact pt h (getD_mem (by omega))
  | sig t h ho =>
    have hl := len_of ok h ho rfl
    exact ⟨fun p hp => by rw [List.mem_singleton] at hp; subst hp; exact h, pt h (getD_mem (by omega))⟩
  | unbl t u h hu ho hb uo u0 u1 =>
    have hl := len_of ok h ho rfl
    have h1 := pt h (getD_mem (l := (nodeF xs t).l) (k := 1) (by omega))
    have hl1 := len_of ok h1 hb rfl
    refine ⟨fun p hp => ?_, hu⟩
    simp only [List.mem_cons, List.not_mem_nil, or_false] at hp
    rcases hp with rfl | rfl
    · exact h
    · exact pt h1 (getD_mem (by omega))
  | blind t h ho =>
    have hl := len_of ok h ho rfl
    refine ⟨fun p hp => ?_, pt h (getD_mem (by omega))⟩
    simp only [List.mem_cons, List.not_mem_nil, or_false] at hp
    rcases hp with rfl | rfl
    · exact h
    · exact pt h (getD_mem (by omega))
theorem der_has {xs : List ND} (ok : Okay xs) {l : List Int} (hl : ∀ x ∈ l, hasB xs x = true) {t : Int} (h : Der xs l t) : hasB xs t = true :=
  der_least (S := fun t => hasB xs t = true) (fun _ _ hr _ => (rule_has ok hr).2) hl h

/-! the worklist -/
def inB (I : List Bool) (t : Int) : Bool := I.getD t.toNat false
/-- Which are in, and which are still to be gone through. -/
structure SD where
  i : List Bool
  o : List Int
def add1 (s : SD) (t : Int) : SD := if inB s.i t then s else ⟨s.i.set t.toNat true, s.o ++ [t]⟩
def addL (s : SD) (l : List Int) : SD := l.foldl add1 s
/-- What a term is looked at again for: its parts, and a key that opens it. -/
def links (xs : List ND) (n : ND) : List Int :=
  n.l ++ (if n.o = 8 ∧ (nodeF xs (n.l.getD 0 0)).o = 7 then [(nodeF xs (n.l.getD 0 0)).l.getD 0 0] else if n.o = 10 ∧ (nodeF xs (n.l.getD 1 0)).o = 12 then [(nodeF xs (n.l.getD 1 0)).l.getD 1 0] else [])
def pairsT (xs : List ND) (t : Nat) : List (Int × Int) := (links xs (nodeF xs t)).map fun x => ((t : Int), x)
def pairs (xs : List ND) (k : Nat) : List (Int × Int) := (List.range k).flatMap (pairsT xs)
def useOf (ps : List (Int × Int)) (x : Int) : List Int := (ps.filter fun p => p.2 == x).map (·.1)
def uses (xs : List ND) (x : Int) : List Int := useOf (pairs xs xs.length) x
theorem useOf_mem {ps : List (Int × Int)} {x u : Int} : u ∈ useOf ps x ↔ (u, x) ∈ ps := by
  unfold useOf
  simp only [List.mem_map, List.mem_filter, beq_iff_eq]
  constructor
  · rintro ⟨⟨a, b⟩, ⟨h1, rfl⟩, rfl⟩; exact h1
  · intro h; exact ⟨(u, x), ⟨h, rfl⟩, rfl⟩
theorem pairs_mem {xs : List ND} {k : Nat} {u x : Int} : (u, x) ∈ pairs xs k ↔ 0 ≤ u ∧ u < k ∧ x ∈ links xs (nodeF xs u) := by
  unfold pairs pairsT
  simp only [List.mem_flatMap, List.mem_range, List.mem_map, Prod.mk.injEq]
  constructor
  · rintro ⟨t, ht, y, hy, rfl, rfl⟩
    exact ⟨by omega, by omega, hy⟩
  · rintro ⟨h0, h1, h2⟩
    exact ⟨u.toNat, by omega, x, by rw [show ((u.toNat : Nat) : Int) = u by omega]; exact h2, by omega, rfl⟩
theorem uses_mem {xs : List ND} {u x : Int} : u ∈ uses xs x ↔ hasB xs u = true ∧ x ∈ links xs (nodeF xs u) := by
  unfold uses
  rw [useOf_mem, pairs_mem, has_iff]
  exact ⟨fun h => ⟨⟨h.1, h.2.1⟩, h.2.2⟩, fun h => ⟨h.1.1, h.1.2, h.2⟩⟩
theorem useOf_snoc (ps : List (Int × Int)) (t y x : Int) : useOf (ps ++ [(t, y)]) x = if y = x then useOf ps x ++ [t] else useOf ps x := by
  unfold useOf
  rw [List.filter_append, List.map_append]
  by_cases h : y = x
  · subst h; simp
  · rw [if_neg h]; simp [h]
theorem pairs_succ (xs : List ND) (k : Nat) : pairs xs (k + 1) = pairs xs k ++ pairsT xs k := by
  unfold pairs; rw [List.range_succ, List.flatMap_append]; simp
def unbF (xs : List ND) (s : SD) (sk m : Int) : SD := addL s ((uses xs m).filter fun t => (nodeF xs t).o == 10 && (nodeF xs t).l.getD 0 0 == sk && (nodeF xs t).l.getD 1 0 == m)
/-- What a term is made of, as far as it comes apart. -/
def apF (xs : List ND) (s : SD) (t : Int) : SD :=
  if (nodeF xs t).o = 3 then addL s (nodeF xs t).l
  else if (nodeF xs t).o = 8 then (if (nodeF xs ((nodeF xs t).l.getD 0 0)).o = 7 ∧ inB s.i ((nodeF xs ((nodeF xs t).l.getD 0 0)).l.getD 0 0) = true then addL s (((nodeF xs t).l.drop 1).take 2) else s)
  else if (nodeF xs t).o = 9 then (if inB s.i ((nodeF xs t).l.getD 0 0) = true then addL s ((nodeF xs t).l.drop 1) else s)
  else if (nodeF xs t).o = 10 then
    (if (nodeF xs ((nodeF xs t).l.getD 1 0)).o = 12 ∧ inB (add1 s ((nodeF xs t).l.getD 1 0)).i ((nodeF xs ((nodeF xs t).l.getD 1 0)).l.getD 1 0) = true then
      unbF xs (add1 s ((nodeF xs t).l.getD 1 0)) ((nodeF xs t).l.getD 0 0) ((nodeF xs ((nodeF xs t).l.getD 1 0)).l.getD 0 0) else add1 s ((nodeF xs t).l.getD 1 0))
  else if (nodeF xs t).o = 12 then (if inB s.i ((nodeF xs t).l.getD 1 0) = true then add1 s ((nodeF xs t).l.getD 0 0) else s)
  else s
def visF (xs : List ND) (s : SD) (u : Int) : SD := if inB s.i u then apF xs s u else if (nodeF xs u).l.all (inB s.i) then add1 s u else s

/-- s' goes on from s: more is in (each of it can be derived), and all of that is still to be gone through. -/
structure Go1 (xs : List ND) (D : Int → Prop) (s s' : SD) : Prop where
  len : s'.i.length = s.i.length
  mono : ∀ t, inB s.i t = true → inB s'.i t = true
  sub : ∀ t ∈ s.o, t ∈ s'.o
  opn : ∀ t ∈ s'.o, t ∈ s.o ∨ (hasB xs t = true ∧ inB s'.i t = true)
  new : ∀ t, 0 ≤ t → inB s'.i t = true → inB s.i t = true ∨ t ∈ s'.o
  snd : ∀ t, 0 ≤ t → inB s'.i t = true → inB s.i t = true ∨ D t
section
variable {xs : List ND} {D : Int → Prop} {s s' s'' : SD}
theorem Go1.refl (xs : List ND) (D : Int → Prop) (s : SD) : Go1 xs D s s := ⟨rfl, fun _ h => h, fun _ h => h, fun _ h => .inl h, fun _ _ h => .inl h, fun _ _ h => .inl h⟩
theorem Go1.trans (h : Go1 xs D s s') (k : Go1 xs D s' s'') : Go1 xs D s s'' :=
  ⟨k.len.trans h.len, fun t ht => k.mono t (h.mono t ht), fun t ht => k.sub t (h.sub t ht),
   fun t ht => (k.opn t ht).elim (fun h1 => (h.opn t h1).imp id fun h2 => ⟨h2.1, k.mono t h2.2⟩) .inr,
   fun t h0 ht => (k.new t h0 ht).elim (fun h1 => (h.new t h0 h1).imp id (k.sub t)) .inr,
   fun t h0 ht => (k.snd t h0 ht).elim (h.snd t h0) .inr⟩
theorem inB_set {I : List Bool} {t u : Int} (ht : 0 ≤ t) (hu : 0 ≤ u) (hl : t.toNat < I.length) : inB (I.set t.toNat true) u = (decide (u = t) || inB I u) := by
  unfold inB
  rw [List.getD, List.getD, List.getElem?_set]
  by_cases h : u = t
  · subst h
    rw [if_pos rfl, if_pos hl, decide_eq_true rfl]; rfl
  · rw [if_neg (by omega), decide_eq_false h]; rfl
theorem add1_go {t : Int} (hl : s.i.length = xs.length) (h : hasB xs t = true) (hd : D t) : Go1 xs D s (add1 s t) ∧ inB (add1 s t).i t = true := by
  have h2 := has_iff.1 h
  unfold add1
  by_cases hb : inB s.i t = true
  · rw [if_pos hb]; exact ⟨.refl _ _ _, hb⟩
  · rw [if_neg hb]
    have hset : ∀ u : Int, 0 ≤ u → inB (s.i.set t.toNat true) u = (decide (u = t) || inB s.i u) := fun u hu => inB_set h2.1 hu (by omega)
    have hneg : ∀ u : Int, inB s.i u = true → inB (s.i.set t.toNat true) u = true := fun u hu => by
      by_cases h0 : 0 ≤ u
      · rw [hset u h0, hu]; simp
      · unfold inB at hu ⊢
        rw [List.getD] at hu ⊢
        rw [List.getElem?_set]
        split
        · split
          · rfl
          · omega
        · exact hu
    refine ⟨⟨by simp, hneg, fun u hu => by simp [hu], fun u hu => ?_, fun u h0 hu => ?_, fun u h0 hu => ?_⟩, by rw [hset t h2.1]; simp⟩
    · rcases List.mem_append.1 hu with hu | hu
      · exact .inl hu
      · rw [List.mem_singleton] at hu
        subst hu
        exact .inr ⟨h, by rw [hset _ h2.1]; simp⟩
    · rw [hset u h0] at hu
      by_cases e : u = t
      · exact .inr (by simp [e])
      · rw [decide_eq_false e] at hu; exact .inl hu
    · rw [hset u h0] at hu
      by_cases e : u = t
      · exact .inr (e ▸ hd)
      · rw [decide_eq_false e] at hu; exact .inl hu
theorem addL_go : ∀ {l : List Int} {s : SD}, s.i.length = xs.length → (∀ t ∈ l, hasB xs t = true ∧ D t) → Go1 xs D s (addL s l) ∧ ∀ t ∈ l, inB (addL s l).i t = true
  | [], s, _, _ => ⟨.refl _ _ _, fun t h => by simp at h⟩
  | x :: l, s, hl, h => by
    obtain ⟨a1, a2⟩ := add1_go (xs := xs) (D := D) hl (h x (by simp)).1 (h x (by simp)).2
    obtain ⟨b1, b2⟩ := addL_go (l := l) (s := add1 s x) (a1.len.trans hl) fun t ht => h t (by simp [ht])
    refine ⟨a1.trans b1, fun t ht => ?_⟩
    rcases List.mem_cons.1 ht with rfl | ht
    · exact b1.mono _ a2
    · exact b2 t ht
/-- All that s has can be derived. -/
def Snd (D : Int → Prop) (s : SD) : Prop := ∀ t, 0 ≤ t → inB s.i t = true → D t
theorem Go1.sound (h : Go1 xs D s s') (k : Snd D s) : Snd D s' := fun t h0 ht => (h.snd t h0 ht).elim (k t h0) id
theorem has_part (ok : Okay xs) {t x : Int} (h : hasB xs t = true) (hx : x ∈ (nodeF xs t).l) : hasB xs x = true := (part_lt ok h hx).2.2
theorem has0 {t : Int} (h : hasB xs t = true) : 0 ≤ t := (has_iff.1 h).1
theorem ap_go (ok : Okay xs) (hD : Cl xs D) {t : Int} (hl : s.i.length = xs.length) (hs : Snd D s) (h : hasB xs t = true) (hd : D t) : Go1 xs D s (apF xs s t) := by
  unfold apF
  split
  · rename_i ho
    exact (addL_go hl fun x hx => ⟨has_part ok h hx, hD _ _ (.list t x h ho hx) fun p hp => by rw [List.mem_singleton] at hp; subst hp; exact hd⟩).1
  split
  · rename_i ho
    split
    · rename_i hk
      have hl4 := len_of ok h ho rfl
      have h0 := has_part ok h (getD_mem (l := (nodeF xs t).l) (k := 0) (by omega))
      have hl1 := len_of ok h0 hk.1 rfl
      have hk0 := hs _ (has0 (has_part ok h0 (getD_mem (by omega)))) hk.2
      exact (addL_go hl fun x hx => ⟨has_part ok h (List.mem_of_mem_drop (List.mem_of_mem_take hx)), hD _ _ (.opn t x h ho hk.1 hx) fun p hp => by
        simp only [List.mem_cons, List.not_mem_nil, or_false] at hp
        rcases hp with rfl | rfl
        · exact hd
        · exact hk0⟩).1
    · exact .refl _ _ _
  split
  · rename_i ho
    split
    · rename_i hk
      have hl4 := len_of ok h ho rfl
      have hk0 := hs _ (has0 (has_part ok h (getD_mem (l := (nodeF xs t).l) (k := 0) (by omega)))) hk
      exact (addL_go hl fun x hx => ⟨has_part ok h (List.mem_of_mem_drop hx), hD _ _ (.enc t x h ho hx) fun p hp => by
        simp only [List.mem_cons, List.not_mem_nil, or_false] at hp
        rcases hp with rfl | rfl
        · exact hd
        · exact hk0⟩).1
    · exact .refl _ _ _
  split
  · rename_i ho
    have hl2 := len_of ok h ho rfl
    have h1 := has_part ok h (getD_mem (l := (nodeF xs t).l) (k := 1) (by omega))
    have g1 := add1_go (D := D) hl h1 (hD _ _ (.sig t h ho) fun p hp => by rw [List.mem_singleton] at hp; subst hp; exact hd)
    split
    · rename_i hk
      have hlb := len_of ok h1 hk.1 rfl
      have hk0 := g1.1.sound hs _ (has0 (has_part ok h1 (getD_mem (by omega)))) hk.2
      refine g1.1.trans (addL_go (g1.1.len.trans hl) fun u hu => ?_).1
      simp only [List.mem_filter, Bool.and_eq_true, beq_iff_eq] at hu
      obtain ⟨hu, ⟨uo, u0⟩, u1⟩ := hu
      have hu' := (uses_mem.1 hu).1
      exact ⟨hu', hD _ _ (.unbl t u h hu' ho hk.1 uo u0 u1) fun p hp => by
        simp only [List.mem_cons, List.not_mem_nil, or_false] at hp
        rcases hp with rfl | rfl
        · exact hd
        · exact hk0⟩
    · exact g1.1
  split
  · rename_i ho
    split
    · rename_i hk
      have hl2 := len_of ok h ho rfl
      have hk0 := hs _ (has0 (has_part ok h (getD_mem (l := (nodeF xs t).l) (k := 1) (by omega)))) hk
      exact (add1_go hl (has_part ok h (getD_mem (by omega))) (hD _ _ (.blind t h ho) fun p hp => by
        simp only [List.mem_cons, List.not_mem_nil, or_false] at hp
        rcases hp with rfl | rfl
        · exact hd
        · exact hk0)).1
    · exact .refl _ _ _
  · exact .refl _ _ _
theorem vis_go (ok : Okay xs) (hD : Cl xs D) {u : Int} (hl : s.i.length = xs.length) (hs : Snd D s) (h : hasB xs u = true) (ho : (nodeF xs u).o ≠ 1) : Go1 xs D s (visF xs s u) := by
  unfold visF
  split
  · rename_i hb
    exact ap_go ok hD hl hs h (hs u (has0 h) hb)
  · split
    · rename_i ha
      exact (add1_go hl h (hD _ _ (.comp u h ho) fun p hp => hs p (has0 (has_part ok h hp)) (List.all_eq_true.1 ha p hp))).1
    · exact .refl _ _ _
theorem uses_ne (ok : Okay xs) {u x : Int} (h : u ∈ uses xs x) : hasB xs u = true ∧ (nodeF xs u).o ≠ 1 := by
  obtain ⟨h1, h2⟩ := uses_mem.1 h
  refine ⟨h1, fun ho => ?_⟩
  have hl := len_of ok h1 ho rfl
  unfold links at h2
  rw [List.eq_nil_of_length_eq_zero hl, if_neg (fun e => by rw [ho] at e; exact absurd e.1 (by decide)), if_neg (fun e => by rw [ho] at e; exact absurd e.1 (by decide))] at h2
  simp at h2
theorem vis_all (ok : Okay xs) (hD : Cl xs D) : ∀ {l : List Int} {s : SD}, s.i.length = xs.length → Snd D s → (∀ u ∈ l, hasB xs u = true ∧ (nodeF xs u).o ≠ 1) → Go1 xs D s (l.foldl (visF xs) s)
  | [], s, _, _, _ => .refl _ _ _
  | u :: l, s, hl, hs, h => by
    have a := vis_go ok hD hl hs (h u (by simp)).1 (h u (by simp)).2
    exact a.trans (vis_all ok hD (a.len.trans hl) (a.sound hs) fun v hv => h v (by simp [hv]))
end
/-- A step that takes apart: it is done when its term is gone through, or looked at again. -/
theorem rule_ap {xs : List ND} (ok : Okay xs) {P : List Int} {c : Int} (h : Rule xs P c) :
    (P = (nodeF xs c).l ∧ hasB xs c = true ∧ (nodeF xs c).o ≠ 1) ∨
    ∃ t, t ∈ P ∧ (∀ p ∈ P, p = t ∨ t ∈ uses xs p) ∧ ∀ s : SD, s.i.length = xs.length → (∀ p ∈ P, inB s.i p = true) → inB (apF xs s t).i c = true := by
  have hh := rule_has ok h
  have al : ∀ {l : List Int} {s : SD}, s.i.length = xs.length → (∀ t ∈ l, hasB xs t = true) → Go1 xs (fun _ => True) s (addL s l) ∧ ∀ t ∈ l, inB (addL s l).i t = true := fun hl h => addL_go hl fun t ht => ⟨h t ht, trivial⟩
  cases h with
  | comp _ h ho => exact .inl ⟨rfl, h, ho⟩
  | list t x h ho hx =>
    refine .inr ⟨t, by simp, fun p hp => .inl (by simpa using hp), fun s hl hs => ?_⟩
    unfold apF
    rw [if_pos ho]
    exact (al hl fun y hy => has_part ok h hy).2 c hx
  | opn t x h ho hk hx =>
    have hl4 := len_of ok h ho rfl
    refine .inr ⟨t, by simp, fun p hp => ?_, fun s hl hs => ?_⟩
    · simp only [List.mem_cons, List.not_mem_nil, or_false] at hp
      refine hp.imp id fun e => uses_mem.2 ⟨h, ?_⟩
      unfold links
      rw [if_pos ⟨ho, hk⟩, e]; simp
    · unfold apF
      rw [if_neg (by rw [ho]; decide), if_pos ho, if_pos ⟨hk, hs _ (by simp)⟩]
      exact (al hl fun y hy => has_part ok h (List.mem_of_mem_drop (List.mem_of_mem_take hy))).2 c hx
  | enc t x h ho hx =>
    have hl4 := len_of ok h ho rfl
    refine .inr ⟨t, by simp, fun p hp => ?_, fun s hl hs => ?_⟩
    · simp only [List.mem_cons, List.not_mem_nil, or_false] at hp
      refine hp.imp id fun e => uses_mem.2 ⟨h, ?_⟩
      unfold links
      rw [e]
      exact List.mem_append_left _ (getD_mem (by omega))
    · unfold apF
      rw [if_neg (by rw [ho]; decide), if_neg (by rw [ho]; decide), if_pos ho, if_pos (hs _ (by simp))]
      exact (al hl fun y hy => has_part ok h (List.mem_of_mem_drop hy)).2 c hx
  | sig t h ho =>
    have hl2 := len_of ok h ho rfl
    have h1 := has_part ok h (getD_mem (l := (nodeF xs t).l) (k := 1) (by omega))
    refine .inr ⟨t, by simp, fun p hp => .inl (by simpa using hp), fun s hl hs => ?_⟩
    obtain ⟨g1, g2⟩ := add1_go (s := s) (D := fun _ => True) hl h1 trivial
    unfold apF
    rw [if_neg (by rw [ho]; decide), if_neg (by rw [ho]; decide), if_neg (by rw [ho]; decide), if_pos ho]
    split
    · exact (al (g1.len.trans hl) fun u hu => (uses_mem.1 (List.mem_filter.1 hu).1).1).1.mono _ g2
    · exact g2
  | unbl t u h hu ho hb uo u0 u1 =>
    have hl2 := len_of ok h ho rfl
    have hlu := len_of ok hu uo rfl
    have h1 := has_part ok h (getD_mem (l := (nodeF xs t).l) (k := 1) (by omega))
    refine .inr ⟨t, by simp, fun p hp => ?_, fun s hl hs => ?_⟩
    · simp only [List.mem_cons, List.not_mem_nil, or_false] at hp
      refine hp.imp id fun e => uses_mem.2 ⟨h, ?_⟩
      unfold links
      rw [if_neg (fun e => by rw [ho] at e; exact absurd e.1 (by decide)), if_pos ⟨ho, hb⟩, e]; simp
    · obtain ⟨g1, g2⟩ := add1_go (s := s) (D := fun _ => True) hl h1 trivial
      unfold apF
      rw [if_neg (by rw [ho]; decide), if_neg (by rw [ho]; decide), if_neg (by rw [ho]; decide), if_pos ho, if_pos ⟨hb, g1.mono _ (hs _ (by simp))⟩]
      refine (al (g1.len.trans hl) fun v hv => (uses_mem.1 (List.mem_filter.1 hv).1).1).2 c (List.mem_filter.2 ⟨uses_mem.2 ⟨hu, ?_⟩, ?_⟩)
      · unfold links
        rw [← u1]
        exact List.mem_append_left _ (getD_mem (by omega))
      · rw [uo, u0, u1]; simp
  | blind t h ho =>
    have hl2 := len_of ok h ho rfl
    refine .inr ⟨t, by simp, fun p hp => ?_, fun s hl hs => ?_⟩
    · simp only [List.mem_cons, List.not_mem_nil, or_false] at hp
      refine hp.imp id fun e => uses_mem.2 ⟨h, ?_⟩
      unfold links
      rw [e]
      exact List.mem_append_left _ (getD_mem (by omega))
    · unfold apF
      rw [if_neg (by rw [ho]; decide), if_neg (by rw [ho]; decide), if_neg (by rw [ho]; decide), if_neg (by rw [ho]; decide), if_pos ho, if_pos (hs _ (by simp))]
      exact (add1_go (D := fun _ => True) hl (has_part ok h (getD_mem (by omega))) trivial).2
/-- What holds whenever the next term is taken. -/
structure Inv (xs : List ND) (known : List Int) (s : SD) : Prop where
  len : s.i.length = xs.length
  o : ∀ t ∈ s.o, hasB xs t = true ∧ inB s.i t = true
  snd : Snd (Der xs known) s
  kn : ∀ t ∈ known, inB s.i t = true
  clo : ∀ P c, Rule xs P c → (∀ p ∈ P, inB s.i p = true ∧ p ∉ s.o) → inB s.i c = true
theorem fold_hit {xs : List ND} (ok : Okay xs) {D : Int → Prop} (hD : Cl xs D) {u c : Int} : ∀ {l : List Int} {s : SD}, s.i.length = xs.length → Snd D s → (∀ u ∈ l, hasB xs u = true ∧ (nodeF xs u).o ≠ 1) → u ∈ l →
    (∀ s' : SD, s'.i.length = xs.length → (∀ t, inB s.i t = true → inB s'.i t = true) → inB (visF xs s' u).i c = true) → inB (l.foldl (visF xs) s).i c = true
  | [], s, _, _, _, h, _ => by simp at h
  | v :: l, s, hl, hs, ha, h, k => by
    have a := vis_go ok hD hl hs (ha v (by simp)).1 (ha v (by simp)).2
    have b := vis_all ok hD (l := l) (s := visF xs s v) (a.len.trans hl) (a.sound hs) fun w hw => ha w (by simp [hw])
    rcases List.mem_cons.1 h with rfl | h
    · exact b.mono _ (k s hl fun _ h => h)
    · exact fold_hit ok hD (l := l) (s := visF xs s v) (a.len.trans hl) (a.sound hs) (fun w hw => ha w (by simp [hw])) h fun s' h1 h2 => k s' h1 fun t ht => h2 t (a.mono t ht)
theorem Inv.pop {xs : List ND} (ok : Okay xs) {known : List Int} {I : List Bool} {O : List Int} {t : Int} (h : Inv xs known ⟨I, O ++ [t]⟩) : Inv xs known ((uses xs t).foldl (visF xs) (apF xs ⟨I, O⟩ t)) := by
  have hD := der_cl xs known
  obtain ⟨ht, hti⟩ := h.o t (by simp)
  have hs0 : Snd (Der xs known) ⟨I, O⟩ := h.snd
  have hl0 : (SD.mk I O).i.length = xs.length := h.len
  have a := ap_go ok hD hl0 hs0 ht (h.snd t (has0 ht) hti)
  have hu : ∀ u ∈ uses xs t, hasB xs u = true ∧ (nodeF xs u).o ≠ 1 := fun u hu => uses_ne ok hu
  have b := vis_all ok hD (l := uses xs t) (a.len.trans hl0) (a.sound hs0) hu
  have g := a.trans b
  generalize hs2 : (uses xs t).foldl (visF xs) (apF xs ⟨I, O⟩ t) = s2 at *
  refine ⟨g.len.trans hl0, fun x hx => ?_, g.sound hs0, fun x hx => g.mono x (h.kn x hx), fun P c hr hp => ?_⟩
  · rcases g.opn x hx with h1 | h1
    · exact ⟨(h.o x (by simp [h1])).1, g.mono x (h.o x (by simp [h1])).2⟩
    · exact h1
  · have hP := (rule_has ok hr).1
    have hin : ∀ p ∈ P, inB I p = true := fun p hp' => (g.new p (has0 (hP p hp')) (hp p hp').1).elim id fun h1 => absurd h1 (hp p hp').2
    by_cases htp : t ∈ P
    · rcases rule_ap ok hr with ⟨rfl, hc, ho⟩ | ⟨t', ht', hus, hap⟩
      · have hcu : c ∈ uses xs t := uses_mem.2 ⟨hc, by unfold links; exact List.mem_append_left _ htp⟩
        rw [← hs2]
        refine fold_hit ok hD (a.len.trans hl0) (a.sound hs0) hu hcu fun s' h1 h2 => ?_
        unfold visF
        split
        · rename_i hb
          have := ap_go (D := fun _ => True) ok (fun _ _ _ _ => trivial) h1 (fun _ _ _ => trivial) hc trivial
          exact this.mono _ hb
        · rw [if_pos (List.all_eq_true.2 fun p hp' => h2 p (a.mono p (hin p hp')))]
          exact (add1_go (D := fun _ => True) h1 hc trivial).2
      · rcases hus t htp with e | e
        · rw [← e] at hap
          exact b.mono _ (hap ⟨I, O⟩ hl0 hin)
        · rw [← hs2]
          refine fold_hit ok hD (a.len.trans hl0) (a.sound hs0) hu e fun s' h1 h2 => ?_
          unfold visF
          rw [if_pos (h2 t' (a.mono t' (hin t' ht')))]
          exact hap s' h1 fun p hp' => h2 p (a.mono p (hin p hp'))
    · exact g.mono c (h.clo P c hr fun p hp' => ⟨hin p hp', fun hm => by
        rcases List.mem_append.1 hm with hm | hm
        · exact (hp p hp').2 (g.sub p hm)
        · rw [List.mem_singleton] at hm; subst hm; exact htp hp'⟩)
theorem Inv.done {xs : List ND} (ok : Okay xs) {known : List Int} {I : List Bool} (h : Inv xs known ⟨I, []⟩) (hk : ∀ x ∈ known, hasB xs x = true) {t : Int} (ht : hasB xs t = true) : inB I t = true ↔ Der xs known t :=
  ⟨fun hi => h.snd t (has0 ht) hi, fun hd => (der_least (S := fun t => hasB xs t = true → inB I t = true) (fun P c hr hp _ => h.clo P c hr fun p hp' => ⟨hp p hp' ((rule_has ok hr).1 p hp'), by simp⟩) (fun x hx _ => h.kn x hx) hd) ht⟩
/-- The terms that stand alone and are no atoms. -/
def bases (xs : List ND) (k : Nat) : List Int := ((List.range k).filter fun (t : Nat) => (nodeF xs (t : Int)).o != 1 && (nodeF xs (t : Int)).l.isEmpty).map fun (t : Nat) => (t : Int)
def startS (xs : List ND) (known : List Int) : SD := addL (addL ⟨List.replicate xs.length false, []⟩ (bases xs xs.length)) known
theorem inB_rep (n : Nat) (t : Int) : inB (List.replicate n false) t = false := by
  unfold inB
  rw [List.getD, List.getElem?_replicate]
  split <;> rfl
theorem inv_start {xs : List ND} (ok : Okay xs) {known : List Int} (hk : ∀ x ∈ known, hasB xs x = true) : Inv xs known (startS xs known) := by
  have hD := der_cl xs known
  have hb : ∀ t ∈ bases xs xs.length, hasB xs t = true ∧ Der xs known t := by
    intro t ht
    unfold bases at ht
    simp only [List.mem_map, List.mem_filter, List.mem_range, Bool.and_eq_true, bne_iff_ne, List.isEmpty_iff] at ht
    obtain ⟨j, ⟨hj, ho, he⟩, rfl⟩ := ht
    have hh : hasB xs (j : Int) = true := has_iff.2 ⟨by omega, by omega⟩
    exact ⟨hh, hD _ _ (.comp _ hh ho) fun p hp => by rw [he] at hp; simp at hp⟩
  have hl0 : (SD.mk (List.replicate xs.length false) []).i.length = xs.length := by simp
  obtain ⟨a1, a2⟩ := addL_go (D := Der xs known) hl0 hb
  obtain ⟨b1, b2⟩ := addL_go (D := Der xs known) (l := known) (a1.len.trans hl0) fun t ht => ⟨hk t ht, der_known ht⟩
  have g := a1.trans b1
  change Go1 xs (Der xs known) _ (startS xs known) at g
  refine ⟨g.len.trans hl0, fun t ht => ?_, g.sound fun t _ ht => ?_, b2, fun P c hr hp => ?_⟩
  · rcases g.opn t ht with h | h
    · simp at h
    · exact h
  · change inB (List.replicate xs.length false) t = true at ht
    rw [inB_rep] at ht; cases ht
  · have hP := (rule_has ok hr).1
    have hnil : P = [] := by
      rcases P with _ | ⟨p, P⟩
      · rfl
      · have h1 := hp p (by simp)
        rcases g.new p (has0 (hP p (by simp))) h1.1 with h2 | h2
        · change inB (List.replicate xs.length false) p = true at h2
          rw [inB_rep] at h2; cases h2
        · exact absurd h2 h1.2
    subst hnil
    rcases rule_ap ok hr with ⟨h1, h2, h3⟩ | ⟨t, ht, _⟩
    · refine b1.mono c (a2 c ?_)
      unfold bases
      simp only [List.mem_map, List.mem_filter, List.mem_range, Bool.and_eq_true, bne_iff_ne, List.isEmpty_iff]
      have h0 := has_iff.1 h2
      refine ⟨c.toNat, ⟨by omega, ?_, ?_⟩, by omega⟩ <;> rw [show ((c.toNat : Nat) : Int) = c by omega]
      · exact h3
      · exact h1.symm
    · simp at ht
/-- How much is left to do. -/
def mu (s : SD) : Nat := 2 * s.i.count false + s.o.length
theorem mu_add1 {xs : List ND} {s : SD} {t : Int} (hl : s.i.length = xs.length) (h : hasB xs t = true) : mu (add1 s t) ≤ mu s := by
  unfold add1
  split
  · exact Nat.le_refl _
  · rename_i hb
    have h2 := has_iff.1 h
    have hlt : t.toNat < s.i.length := by omega
    have hf : s.i[t.toNat] = false := by
      unfold inB at hb
      rw [List.getD, List.getElem?_eq_getElem hlt] at hb
      simpa using hb
    have hc : (s.i.set t.toNat true).count false + 1 = s.i.count false := by
      rw [List.count_set (h := hlt), hf]
      have := List.count_pos_iff.2 (hf ▸ List.getElem_mem hlt)
      simp; omega
    unfold mu
    simp only [List.length_append, List.length_cons, List.length_nil]
    omega
theorem mu_addL {xs : List ND} : ∀ {l : List Int} {s : SD}, s.i.length = xs.length → (∀ t ∈ l, hasB xs t = true) → mu (addL s l) ≤ mu s
  | [], _, _, _ => Nat.le_refl _
  | t :: l, s, hl, h => Nat.le_trans (mu_addL (l := l) (s := add1 s t) ((add1_go (D := fun _ => True) hl (h t (by simp)) trivial).1.len.trans hl) fun u hu => h u (by simp [hu])) (mu_add1 hl (h t (by simp)))
theorem mu_ap {xs : List ND} (ok : Okay xs) {s : SD} {t : Int} (hl : s.i.length = xs.length) (h : hasB xs t = true) : mu (apF xs s t) ≤ mu s := by
  unfold apF
  split
  · exact mu_addL hl fun u hu => has_part ok h hu
  split
  · split
    · exact mu_addL hl fun u hu => has_part ok h (List.mem_of_mem_drop (List.mem_of_mem_take hu))
    · exact Nat.le_refl _
  split
  · split
    · exact mu_addL hl fun u hu => has_part ok h (List.mem_of_mem_drop hu)
    · exact Nat.le_refl _
  split
  · rename_i ho
    have hl2 := len_of ok h ho rfl
    have h1 := has_part ok h (getD_mem (l := (nodeF xs t).l) (k := 1) (by omega))
    have g := (add1_go (s := s) (D := fun _ => True) hl h1 trivial).1
    split
    · exact Nat.le_trans (mu_addL (g.len.trans hl) fun u hu => (uses_mem.1 (List.mem_filter.1 hu).1).1) (mu_add1 hl h1)
    · exact mu_add1 hl h1
  split
  · rename_i ho
    have hl2 := len_of ok h ho rfl
    split
    · exact mu_add1 hl (has_part ok h (getD_mem (by omega)))
    · exact Nat.le_refl _
  · exact Nat.le_refl _
theorem mu_vis {xs : List ND} (ok : Okay xs) {s : SD} {u : Int} (hl : s.i.length = xs.length) (h : hasB xs u = true) : mu (visF xs s u) ≤ mu s ∧ (visF xs s u).i.length = xs.length := by
  unfold visF
  split
  · exact ⟨mu_ap ok hl h, (ap_go (D := fun _ => True) ok (fun _ _ _ _ => trivial) hl (fun _ _ _ => trivial) h trivial).len.trans hl⟩
  · split
    · exact ⟨mu_add1 hl h, (add1_go (D := fun _ => True) hl h trivial).1.len.trans hl⟩
    · exact ⟨Nat.le_refl _, hl⟩
theorem mu_pop {I : List Bool} {O : List Int} {t : Int} : mu ⟨I, O⟩ < mu ⟨I, O ++ [t]⟩ := by
  unfold mu
  simp
end Go.KK

/- plain: what of what was told can be derived (Known), and that more tells no less (DeduceMore). -/
namespace Go.KK
open Go.RowKit Classical
set_option linter.unusedVariables false
set_option linter.unusedSimpArgs false

/-- Some of these is made of it. -/
def Met (xs : List ND) (l : List Int) (t : Int) : Prop := ∃ k ∈ l, Rch xs k t
noncomputable def derB (xs : List ND) (l : List Int) (t : Int) : Bool := decide (Der xs l t)
noncomputable def knF (xs : List ND) (l : List Int) : List Int := ((List.range xs.length).filter fun (t : Nat) => decide (Met xs l (t : Int)) && derB xs l (t : Int)).map fun (t : Nat) => (t : Int)
theorem derB_iff {xs : List ND} {l : List Int} {t : Int} : derB xs l t = true ↔ Der xs l t := by unfold derB; rw [decide_eq_true_eq]
theorem knF_mem {xs : List ND} {l : List Int} {t : Int} : t ∈ knF xs l ↔ hasB xs t = true ∧ Met xs l t ∧ Der xs l t := by
  unfold knF
  simp only [List.mem_map, List.mem_filter, List.mem_range, Bool.and_eq_true, decide_eq_true_eq, derB_iff]
  rw [has_iff]
  constructor
  · rintro ⟨j, ⟨hj, h1, h2⟩, rfl⟩
    exact ⟨⟨by omega, by omega⟩, h1, h2⟩
  · rintro ⟨h0, h1, h2⟩
    have e : ((t.toNat : Nat) : Int) = t := by omega
    exact ⟨t.toNat, ⟨by omega, by rw [e]; exact h1, by rw [e]; exact h2⟩, e⟩
theorem met_has {xs : List ND} (ok : Okay xs) {l : List Int} {t : Int} (h : Met xs l t) : hasB xs t = true := by
  obtain ⟨k, _, hr⟩ := h
  exact (hr.has ok).2.1
theorem met_self {xs : List ND} {l : List Int} {t : Int} (h : t ∈ l) (hh : hasB xs t = true) : Met xs l t := ⟨t, h, .self hh⟩
theorem met_part {xs : List ND} {l : List Int} {t x : Int} (h : Met xs l t) (hx : x ∈ (nodeF xs t).l) : Met xs l x := by
  obtain ⟨k, h1, h2⟩ := h
  exact ⟨k, h1, .step h2 hx⟩
theorem met_mono {xs : List ND} {l m : List Int} (h : ∀ x ∈ l, Met xs m x) {t : Int} (ht : Met xs l t) : Met xs m t := by
  obtain ⟨k, h1, h2⟩ := ht
  obtain ⟨k', h3, h4⟩ := h k h1
  exact ⟨k', h3, h4.trans h2⟩
theorem knF_congr {xs : List ND} {l m : List Int} (hd : ∀ t, Der xs m t ↔ Der xs l t) (hm : ∀ t, Met xs m t ↔ Met xs l t) : knF xs m = knF xs l := by
  unfold knF derB
  congr 1
  refine List.filter_congr fun t _ => ?_
  rw [decide_eq_decide.2 (hm t), decide_eq_decide.2 (hd t)]
section
variable {xs : List ND} (ok : Okay xs) {l m : List Int}
set_option linter.unusedSectionVars false
include ok
theorem kn_sub (hl : ∀ x ∈ l, hasB xs x = true) {t : Int} (h : t ∈ l) : t ∈ knF xs l := knF_mem.2 ⟨hl t h, met_self h (hl t h), der_known h⟩
theorem kn_more (hl : ∀ x ∈ l, hasB xs x = true) {t : Int} (h : t ∈ knF xs l) : t ∈ knF xs (l ++ m) := by
  obtain ⟨h1, h2, h3⟩ := knF_mem.1 h
  refine knF_mem.2 ⟨h1, met_mono (fun x hx => met_self (by simp [hx]) (hl x hx)) h2, der_mono (fun x hx => der_known (by simp [hx])) h3⟩
theorem der_kn (hl : ∀ x ∈ l, hasB xs x = true) (t : Int) : Der xs (knF xs l) t ↔ Der xs l t :=
  ⟨der_mono fun x hx => (knF_mem.1 hx).2.2, der_mono fun x hx => der_known (kn_sub ok hl hx)⟩
theorem derB_kn (hl : ∀ x ∈ l, hasB xs x = true) (t : Int) : derB xs (knF xs l) t = derB xs l t := by
  unfold derB
  rw [decide_eq_decide]
  exact der_kn ok hl t
theorem kn_app (hl : ∀ x ∈ l, hasB xs x = true) : knF xs (l ++ knF xs l) = knF xs l := by
  have hd : ∀ t, Der xs (l ++ knF xs l) t ↔ Der xs l t := fun t =>
    ⟨der_mono fun x hx => by
      rcases List.mem_append.1 hx with hx | hx
      · exact der_known hx
      · exact (knF_mem.1 hx).2.2,
     der_mono fun x hx => der_known (by simp [hx])⟩
  have hm : ∀ t, Met xs (l ++ knF xs l) t ↔ Met xs l t := fun t =>
    ⟨met_mono fun x hx => by
      rcases List.mem_append.1 hx with hx | hx
      · exact met_self hx (hl x hx)
      · exact (knF_mem.1 hx).2.1,
     met_mono fun x hx => met_self (by simp [hx]) (hl x hx)⟩
  exact knF_congr hd hm
omit ok
/-- What was met, once all terms from k on have been gone through. -/
structure Mt (xs : List ND) (l : List Int) (I : List Bool) (k : Nat) : Prop where
  len : I.length = xs.length
  snd : ∀ t, hasB xs t = true → inB I t = true → Met xs l t
  kn : ∀ t ∈ l, inB I t = true
  clo : ∀ j : Nat, k ≤ j → j < xs.length → inB I (j : Int) = true → ∀ x ∈ (nodeF xs (j : Int)).l, inB I x = true
def setsB (I : List Bool) (l : List Int) : List Bool := l.foldl (fun I x => I.set x.toNat true) I
theorem setsB_len : ∀ (l : List Int) (I : List Bool), (setsB I l).length = I.length
  | [], _ => rfl
  | x :: l, I => by
    show (setsB (I.set x.toNat true) l).length = I.length
    rw [setsB_len l, List.length_set]
theorem setsB_in : ∀ (l : List Int) (I : List Bool), (∀ x ∈ l, 0 ≤ x ∧ x.toNat < I.length) → ∀ u : Int, 0 ≤ u → (inB (setsB I l) u = true ↔ inB I u = true ∨ u ∈ l)
  | [], _, _, u, _ => by simp [setsB]
  | x :: l, I, h, u, hu => by
    show inB (setsB (I.set x.toNat true) l) u = true ↔ _
    rw [setsB_in l _ (fun y hy => ⟨(h y (by simp [hy])).1, by rw [List.length_set]; exact (h y (by simp [hy])).2⟩) u hu, inB_set (h x (by simp)).1 hu (h x (by simp)).2]
    simp only [Bool.or_eq_true, decide_eq_true_eq, List.mem_cons]
    constructor
    · rintro ((h | h) | h)
      · exact .inr (.inl h)
      · exact .inl h
      · exact .inr (.inr h)
    · rintro (h | h | h)
      · exact .inl (.inr h)
      · exact .inl (.inl h)
      · exact .inr h
theorem setsB_snoc (I : List Bool) (l : List Int) (x : Int) : setsB I (l ++ [x]) = (setsB I l).set x.toNat true := by unfold setsB; rw [List.foldl_append]; rfl
theorem mt_start (hl : ∀ x ∈ l, hasB xs x = true) : Mt xs l (setsB (List.replicate xs.length false) l) xs.length := by
  have hr : ∀ x ∈ l, 0 ≤ x ∧ x.toNat < (List.replicate xs.length false).length := fun x hx => by
    have := has_iff.1 (hl x hx)
    simp; omega
  refine ⟨by rw [setsB_len]; simp, fun t ht hi => ?_, fun t ht => ?_, fun j h1 h2 => by omega⟩
  · rw [setsB_in _ _ hr t (has0 ht), inB_rep] at hi
    rcases hi with hi | hi
    · cases hi
    · exact met_self hi ht
  · rw [setsB_in _ _ hr t (has0 (hl t ht))]
    exact .inr ht
theorem Mt.step (ok : Okay xs) {I : List Bool} {k : Nat} (h : Mt xs l I (k + 1)) (hk : k < xs.length) : Mt xs l (if inB I (k : Int) = true then setsB I (nodeF xs (k : Int)).l else I) k := by
  have hh : hasB xs (k : Int) = true := has_iff.2 ⟨by omega, by omega⟩
  split
  · rename_i hi
    have hr : ∀ x ∈ (nodeF xs (k : Int)).l, 0 ≤ x ∧ x.toNat < I.length := fun x hx => by
      have := has_iff.1 (has_part ok hh hx)
      rw [h.len]; omega
    refine ⟨by rw [setsB_len]; exact h.len, fun t ht hi' => ?_, fun t ht => ?_, fun j h1 h2 hj x hx => ?_⟩
    · rcases (setsB_in _ _ hr t (has0 ht)).1 hi' with h' | h'
      · exact h.snd t ht h'
      · exact met_part (h.snd _ hh hi) h'
    · by_cases h0 : 0 ≤ t
      · exact (setsB_in _ _ hr t h0).2 (.inl (h.kn t ht))
      · have e : inB (setsB I (nodeF xs (k : Int)).l) t = inB (setsB I (nodeF xs (k : Int)).l) 0 := by unfold inB; rw [show t.toNat = (0 : Int).toNat by omega]
        rw [e]
        have e2 : inB I t = inB I 0 := by unfold inB; rw [show t.toNat = (0 : Int).toNat by omega]
        exact (setsB_in _ _ hr 0 (by omega)).2 (.inl (e2 ▸ h.kn t ht))
    · have hjh : hasB xs (j : Int) = true := has_iff.2 ⟨by omega, by omega⟩
      have hx0 := has0 (has_part ok hjh hx)
      by_cases e : j = k
      · subst e
        exact (setsB_in _ _ hr x hx0).2 (.inr hx)
      · rcases (setsB_in _ _ hr (j : Int) (by omega)).1 hj with h' | h'
        · exact (setsB_in _ _ hr x hx0).2 (.inl (h.clo j (by omega) h2 h' x hx))
        · have := (part_lt ok hh h').2.1
          omega
  · rename_i hi
    refine ⟨h.len, h.snd, h.kn, fun j h1 h2 hj x hx => ?_⟩
    by_cases e : j = k
    · subst e; exact absurd hj hi
    · exact h.clo j (by omega) h2 hj x hx
theorem Mt.done (ok : Okay xs) (hl : ∀ x ∈ l, hasB xs x = true) {I : List Bool} (h : Mt xs l I 0) {t : Int} (ht : hasB xs t = true) : inB I t = true ↔ Met xs l t := by
  refine ⟨h.snd t ht, ?_⟩
  rintro ⟨k, hk, hr⟩
  clear ht
  induction hr with
  | self _ => exact h.kn _ hk
  | step hr hy ih =>
    have hx := (hr.has ok).2.1
    have h2 := has_iff.1 hx
    rename_i x y
    have e : ((x.toNat : Nat) : Int) = x := by omega
    exact h.clo x.toNat (by omega) (by omega) (by rw [e]; exact ih) y (by rw [e]; exact hy)
/-- The numbers below k that are in both. -/
def pickB (I J : List Bool) (k : Nat) : List Int := ((List.range k).filter fun (t : Nat) => inB I (t : Int) && inB J (t : Int)).map fun (t : Nat) => (t : Int)
theorem pickB_succ (I J : List Bool) (k : Nat) : pickB I J (k + 1) = if inB I (k : Int) && inB J (k : Int) then pickB I J k ++ [(k : Int)] else pickB I J k := by
  unfold pickB
  rw [List.range_succ, List.filter_append, List.map_append]
  by_cases h : (inB I (k : Int) && inB J (k : Int)) = true
  · rw [if_pos h]; simp [h]
  · rw [if_neg h]; simp [h]
theorem pickB_kn (ok : Okay xs) (hl : ∀ x ∈ l, hasB xs x = true) {I J : List Bool} (h : Mt xs l I 0) (k : ∀ t, hasB xs t = true → (inB J t = true ↔ Der xs l t)) : pickB I J xs.length = knF xs l := by
  unfold pickB knF
  congr 1
  refine List.filter_congr fun t ht => ?_
  have hh : hasB xs (t : Int) = true := has_iff.2 ⟨by omega, by have := List.mem_range.1 ht; omega⟩
  have e1 : inB I (t : Int) = decide (Met xs l (t : Int)) := by rw [Bool.eq_iff_iff, decide_eq_true_eq]; exact h.done ok hl hh
  have e2 : inB J (t : Int) = derB xs l (t : Int) := by rw [Bool.eq_iff_iff, derB_iff]; exact k _ hh
  rw [e1, e2]
end
end Go.KK

/- plain: a term's text, and what a writer writes of it that stops behind 4000 bytes. -/
namespace Go.KK
open Go.RowKit
set_option linter.unusedVariables false
set_option linter.unusedSimpArgs false

/-- The name of a kind. -/
def nameB (o : Int) : List UInt8 :=
  if o = 3 then [108, 105, 115, 116] else if o = 4 then [104, 97, 115, 104] else if o = 5 then [109, 105, 120] else if o = 6 then [107, 101, 121]
  else if o = 7 then [112, 117, 98] else if o = 8 then [115, 101, 97, 108] else if o = 9 then [101, 110, 99] else if o = 10 then [115, 105, 103] else if o = 11 then [109, 97, 99] else if o = 12 then [98, 108, 105, 110, 100] else []
/-- A text's bytes, with a stroke ahead of what would end it. -/
def escB (s : List UInt8) : List UInt8 := s.flatMap fun b => if b = 34 ∨ b = 92 then [92, b] else [b]
def joinC : List (List UInt8) → List UInt8
  | [] => []
  | [x] => x
  | x :: y :: l => x ++ 44 :: joinC (y :: l)
/-- One node's text, where the texts of all lesser terms are these. -/
def textOf (T : List (List UInt8)) (x : ND) : List UInt8 :=
  if x.o = 1 then 35 :: Lib.itoa x.n else if x.o = 2 then 34 :: (escB x.s.data.toList ++ [34])
  else nameB x.o ++ 40 :: (joinC (x.l.map fun t => T.getD t.toNat []) ++ [41])
def texts : List ND → List (List UInt8) := List.foldl (fun T x => T ++ [textOf T x]) []
def showL (xs : List ND) (t : Nat) : List UInt8 := (texts xs).getD t []
theorem texts_snoc (xs : List ND) (x : ND) : texts (xs ++ [x]) = texts xs ++ [textOf (texts xs) x] := by unfold texts; rw [List.foldl_append]; rfl
theorem snoc_ind {α : Type} {P : List α → Prop} (h0 : P []) (h1 : ∀ l x, P l → P (l ++ [x])) (l : List α) : P l := by
  have h : ∀ l : List α, P l.reverse := by
    intro l
    induction l with
    | nil => exact h0
    | cons x l ih => rw [List.reverse_cons]; exact h1 _ _ ih
  have := h l.reverse
  rwa [List.reverse_reverse] at this
theorem texts_len (xs : List ND) : (texts xs).length = xs.length := by
  refine snoc_ind (P := fun xs => (texts xs).length = xs.length) rfl (fun xs x ih => ?_) xs
  rw [texts_snoc, List.length_append, List.length_append, ih]; rfl
theorem texts_app (xs m : List ND) : ∃ T, texts (xs ++ m) = texts xs ++ T := by
  refine snoc_ind (P := fun m => ∃ T, texts (xs ++ m) = texts xs ++ T) ⟨[], by simp⟩ (fun m x ih => ?_) m
  obtain ⟨T, h⟩ := ih
  exact ⟨T ++ [textOf (texts (xs ++ m)) x], by rw [← List.append_assoc, texts_snoc, h, List.append_assoc]⟩
theorem show_app (xs m : List ND) {t : Nat} (h : t < xs.length) : showL (xs ++ m) t = showL xs t := by
  obtain ⟨T, e⟩ := texts_app xs m
  unfold showL
  rw [e, List.getD, List.getD, List.getElem?_append_left (by rw [texts_len]; exact h)]
theorem show_at {xs : List ND} {t : Nat} {x : ND} (hx : xs[t]? = some x) : showL xs t = textOf (texts (xs.take t)) x := by
  have ht := (List.getElem?_eq_some_iff.1 hx).1
  have e : xs = (xs.take t ++ [x]) ++ xs.drop (t + 1) := by rw [← take_one hx, List.take_append_drop]
  have hl : (xs.take t).length = t := by rw [List.length_take]; omega
  have h2 : showL xs t = showL (xs.take t ++ [x]) t := by
    conv => lhs; rw [e]
    exact show_app _ _ (by simp; omega)
  rw [h2]
  unfold showL
  rw [texts_snoc, List.getD, List.getElem?_append_right (by rw [texts_len, hl]; omega), texts_len, hl, Nat.sub_self]
  rfl
/-- A node that is made of parts: its text in words of theirs. -/
theorem show_parts {xs : List ND} (ok : Okay xs) {t : Nat} {x : ND} (hx : xs[t]? = some x) (h1 : x.o ≠ 1) (h2 : x.o ≠ 2) : showL xs t = nameB x.o ++ 40 :: (joinC (x.l.map fun y => showL xs y.toNat) ++ [41]) := by
  rw [show_at hx]
  unfold textOf
  rw [if_neg h1, if_neg h2]
  have : (x.l.map fun y => (texts (xs.take t)).getD y.toNat []) = x.l.map fun y => showL xs y.toNat := by
    apply List.map_congr_left
    intro y hy
    have hm := ok.may _ _ hx
    unfold mayB at hm
    simp only [Bool.and_eq_true, List.all_eq_true] at hm
    have h3 := has_iff.1 (hm.1.2 y hy)
    have e := show_app (xs.take t) (xs.drop t) (t := y.toNat) (by omega)
    rw [List.take_append_drop] at e
    rw [e]; rfl
  rw [this]
theorem joinC_snoc : ∀ (l : List (List UInt8)) (x : List UInt8), joinC (l ++ [x]) = if l = [] then x else joinC l ++ 44 :: x
  | [], x => rfl
  | [y], x => rfl
  | y :: z :: l, x => by
    have ih := joinC_snoc (z :: l) x
    rw [if_neg (by simp)] at ih ⊢
    show y ++ 44 :: joinC (z :: l ++ [x]) = (y ++ 44 :: joinC (z :: l)) ++ 44 :: x
    rw [ih]; simp
/-- Behind n bytes: all of it is written, if it ends by 4000; else so much that it is beyond. -/
def Cut (n : Nat) (tgt out : List UInt8) : Prop := (n + tgt.length ≤ 4000 → out = tgt) ∧ (4000 < n + tgt.length → 4000 < n + out.length)
theorem cut_all (n : Nat) (l : List UInt8) : Cut n l l := ⟨fun _ => rfl, id⟩
theorem cut_over {n : Nat} (h : 4000 < n) (l : List UInt8) : Cut n l [] := ⟨fun h' => by omega, fun _ => by simpa using h⟩
theorem Cut.app {n : Nat} {t1 o1 t2 o2 : List UInt8} (h : Cut n t1 o1) (k : Cut (n + o1.length) t2 o2) : Cut n (t1 ++ t2) (o1 ++ o2) := by
  refine ⟨fun h' => ?_, fun h' => ?_⟩
  · rw [List.length_append] at h'
    have e1 := h.1 (by omega)
    subst e1
    rw [k.1 (by omega)]
  · rw [List.length_append] at h' ⊢
    by_cases h1 : n + t1.length ≤ 4000
    · have e1 := h.1 h1
      subst e1
      have := k.2 (by omega)
      omega
    · have := h.2 (by omega)
      omega
theorem nameB_len (o : Int) : (nameB o).length ≤ 5 := by
  unfold nameB
  repeat' split
  all_goals decide
end Go.KK

/- plain: what terms look like (Pattern), once more the same, and under other names. -/
namespace Go.KK
open Go.RowKit
set_option linter.unusedVariables false
set_option linter.unusedSimpArgs false

/-- The name of a kind, in a pattern. -/
def nameP (o : Int) : List UInt8 := if o = 1 then [97, 116, 111, 109] else nameB o
/-- A term's number, and the numbers behind it. -/
def numN (a : List Int) (t : Int) : Nat := if t ∈ a then a.idxOf t else a.length
def numA (a : List Int) (t : Int) : List Int := if t ∈ a then a else a ++ [t]
/-- One part more. -/
def jn (g : List Int → Int → List UInt8 × List Int) (s : List UInt8 × List Int × Bool) (x : Int) : List UInt8 × List Int × Bool := (s.1 ++ (if s.2.2 then [44] else []) ++ (g s.2.1 x).1, (g s.2.1 x).2, true)
def parF (g : List Int → Int → List UInt8 × List Int) (a : List Int) (l : List Int) : List UInt8 × List Int := (40 :: ((l.foldl (jn g) ([], a, false)).1 ++ [41]), (l.foldl (jn g) ([], a, false)).2.1)
/-- Which parts are shown of a term that is numbered. -/
def subO (xs : List ND) (I : Int → Bool) (n : ND) : Option (List Int) :=
  if n.o = 10 then some [n.l.getD 1 0]
  else if n.o = 9 then (if I (n.l.getD 0 0) then some (n.l.drop 1) else none)
  else if n.o = 8 then (if (nodeF xs (n.l.getD 0 0)).o = 7 ∧ I ((nodeF xs (n.l.getD 0 0)).l.getD 0 0) = true then some ((n.l.drop 1).take 2) else none)
  else none
def patF (xs : List ND) (I : Int → Bool) : Nat → List Int → Int → List UInt8 × List Int
  | 0, a, _ => ([], a)
  | f + 1, a, t =>
    if (nodeF xs t).o = 2 then (34 :: ((nodeF xs t).s.data.toList ++ [34]), a)
    else if (nodeF xs t).o = 3 ∨ ((nodeF xs t).o ≠ 1 ∧ (nodeF xs t).l.all I = true) then
      (nameP (nodeF xs t).o ++ (parF (patF xs I f) a (nodeF xs t).l).1, (parF (patF xs I f) a (nodeF xs t).l).2)
    else match subO xs I (nodeF xs t) with
      | none => (nameP (nodeF xs t).o ++ 35 :: Lib.itoa (numN a t), numA a t)
      | some l => (nameP (nodeF xs t).o ++ 35 :: (Lib.itoa (numN a t) ++ (parF (patF xs I f) (numA a t) l).1), (parF (patF xs I f) (numA a t) l).2)
/-- A term's pattern. -/
def patT (xs : List ND) (I : Int → Bool) (a : List Int) (t : Int) : List UInt8 × List Int := patF xs I (t.toNat + 1) a t
def patsF (xs : List ND) (I : Int → Bool) : List Int → List Int → List (List UInt8) × List Int
  | a, [] => ([], a)
  | a, t :: l => ((patT xs I a t).1 :: (patsF xs I (patT xs I a t).2 l).1, (patsF xs I (patT xs I a t).2 l).2)
theorem sub_mem {xs : List ND} (ok : Okay xs) {I : Int → Bool} {t : Int} (h : hasB xs t = true) {l : List Int} (e : subO xs I (nodeF xs t) = some l) : ∀ x ∈ l, x ∈ (nodeF xs t).l := by
  unfold subO at e
  split at e
  · rename_i ho
    have hl := len_of ok h ho rfl
    injection e with e
    subst e
    intro x hx
    rw [List.mem_singleton] at hx
    subst hx
    exact getD_mem (by omega)
  · split at e
    · split at e
      · injection e with e
        subst e
        exact fun x hx => List.mem_of_mem_drop hx
      · cases e
    · split at e
      · split at e
        · injection e with e
          subst e
          exact fun x hx => List.mem_of_mem_drop (List.mem_of_mem_take hx)
        · cases e
      · cases e
theorem jn_congr {g g' : List Int → Int → List UInt8 × List Int} : ∀ {l : List Int} (s : List UInt8 × List Int × Bool), (∀ x ∈ l, ∀ a, g a x = g' a x) → l.foldl (jn g) s = l.foldl (jn g') s
  | [], s, _ => rfl
  | x :: l, s, h => by
    rw [List.foldl_cons, List.foldl_cons, show jn g s x = jn g' s x by unfold jn; rw [h x (by simp)]]
    exact jn_congr _ fun y hy => h y (by simp [hy])
theorem parF_congr {g g' : List Int → Int → List UInt8 × List Int} {l : List Int} (a : List Int) (h : ∀ x ∈ l, ∀ a, g a x = g' a x) : parF g a l = parF g' a l := by unfold parF; rw [jn_congr _ h]
/-- More fuel changes nothing. -/
theorem pat_fuel {xs : List ND} (ok : Okay xs) (I : Int → Bool) : ∀ (N : Nat) (t : Int), t.toNat < N → hasB xs t = true → ∀ f, t.toNat < f → ∀ a, patF xs I f a t = patT xs I a t := by
  intro N
  induction N with
  | zero => intro t h; omega
  | succ N ih =>
    intro t hN ht f hf a
    obtain ⟨f, rfl⟩ : ∃ k, f = k + 1 := ⟨f - 1, by omega⟩
    have sub : ∀ x ∈ (nodeF xs t).l, ∀ a, patF xs I f a x = patF xs I t.toNat a x := fun x hx a => by
      have hp := part_lt ok ht hx
      rw [ih x (by omega) hp.2.2 f (by omega), ih x (by omega) hp.2.2 t.toNat (by omega)]
    unfold patT
    rw [patF, patF]
    split
    · rfl
    · split
      · rw [parF_congr a sub]
      · rcases hs : subO xs I (nodeF xs t) with _ | l
        · rfl
        · simp only
          rw [parF_congr _ fun x hx => sub x (sub_mem ok ht hs x hx)]
/-- A pattern in words of its parts' patterns. -/
theorem pat_eq {xs : List ND} (ok : Okay xs) (I : Int → Bool) {t : Int} (ht : hasB xs t = true) (a : List Int) : patT xs I a t =
    if (nodeF xs t).o = 2 then (34 :: ((nodeF xs t).s.data.toList ++ [34]), a)
    else if (nodeF xs t).o = 3 ∨ ((nodeF xs t).o ≠ 1 ∧ (nodeF xs t).l.all I = true) then
      (nameP (nodeF xs t).o ++ (parF (patT xs I) a (nodeF xs t).l).1, (parF (patT xs I) a (nodeF xs t).l).2)
    else match subO xs I (nodeF xs t) with
      | none => (nameP (nodeF xs t).o ++ 35 :: Lib.itoa (numN a t), numA a t)
      | some l => (nameP (nodeF xs t).o ++ 35 :: (Lib.itoa (numN a t) ++ (parF (patT xs I) (numA a t) l).1), (parF (patT xs I) (numA a t) l).2) := by
  have sub : ∀ x ∈ (nodeF xs t).l, ∀ a, patF xs I t.toNat a x = patT xs I a x := fun x hx a => by
    have hp := part_lt ok ht hx
    exact pat_fuel ok I t.toNat x (by omega) hp.2.2 t.toNat (by omega) a
  unfold patT at sub ⊢
  rw [patF]
  split
  · rfl
  · split
    · rw [parF_congr a sub]
    · rcases hs : subO xs I (nodeF xs t) with _ | l
      · rfl
      · simp only
        rw [parF_congr _ fun x hx => sub x (sub_mem ok ht hs x hx)]
/-- The numbers only grow, and with them the same is told again. -/
def Again (g : List Int → Int → List UInt8 × List Int) (x : Int) : Prop := ∀ a, (∃ m, (g a x).2 = a ++ m) ∧ ∀ r, g ((g a x).2 ++ r) x = ((g a x).1, (g a x).2 ++ r)
theorem num_again (a r : List Int) (t : Int) : (∃ m, numA a t = a ++ m) ∧ numN (numA a t ++ r) t = numN a t ∧ numA (numA a t ++ r) t = numA a t ++ r := by
  unfold numA numN
  by_cases h : t ∈ a
  · rw [if_pos h, if_pos h, if_pos (by simp [h]), if_pos (by simp [h])]
    refine ⟨⟨[], by simp⟩, ?_, rfl⟩
    rw [List.idxOf_append, if_pos h]
  · rw [if_neg h, if_neg h, if_pos (by simp), if_pos (by simp)]
    refine ⟨⟨[t], rfl⟩, ?_, rfl⟩
    rw [List.idxOf_append, if_pos (by simp), List.idxOf_append, if_neg h]
    simp
theorem jn_again {g : List Int → Int → List UInt8 × List Int} : ∀ {l : List Int} (s : List UInt8 × List Int × Bool), (∀ x ∈ l, Again g x) →
    (∃ m, (l.foldl (jn g) s).2.1 = s.2.1 ++ m) ∧ ∀ r, l.foldl (jn g) (s.1, (l.foldl (jn g) s).2.1 ++ r, s.2.2) = ((l.foldl (jn g) s).1, (l.foldl (jn g) s).2.1 ++ r, (l.foldl (jn g) s).2.2)
  | [], s, _ => ⟨⟨[], by simp⟩, fun r => rfl⟩
  | x :: l, s, h => by
    have hx := h x (by simp) s.2.1
    obtain ⟨⟨m, hm⟩, ha⟩ := jn_again (l := l) (jn g s x) fun y hy => h y (by simp [hy])
    obtain ⟨⟨m1, hm1⟩, ha1⟩ := hx
    have e1 : (jn g s x).2.1 = (g s.2.1 x).2 := rfl
    refine ⟨⟨m1 ++ m, ?_⟩, fun r => ?_⟩
    · rw [List.foldl_cons, hm, e1, hm1, List.append_assoc]
    · rw [List.foldl_cons, List.foldl_cons]
      have e2 : jn g (s.1, (l.foldl (jn g) (jn g s x)).2.1 ++ r, s.2.2) x = ((jn g s x).1, (l.foldl (jn g) (jn g s x)).2.1 ++ r, (jn g s x).2.2) := by
        unfold jn
        simp only
        change (s.1 ++ (if s.2.2 = true then [44] else []) ++ (g ((l.foldl (jn g) (jn g s x)).2.1 ++ r) x).1, (g ((l.foldl (jn g) (jn g s x)).2.1 ++ r) x).2, true) = (s.1 ++ (if s.2.2 = true then [44] else []) ++ (g s.2.1 x).1, (l.foldl (jn g) (jn g s x)).2.1 ++ r, true)
        rw [hm, e1, List.append_assoc (g s.2.1 x).2 m r, ha1]
      rw [e2]
      exact ha r
theorem par_again {g : List Int → Int → List UInt8 × List Int} {l : List Int} (h : ∀ x ∈ l, Again g x) (a : List Int) : (∃ m, (parF g a l).2 = a ++ m) ∧ ∀ r, parF g ((parF g a l).2 ++ r) l = ((parF g a l).1, (parF g a l).2 ++ r) := by
  obtain ⟨h1, h2⟩ := jn_again (g := g) (l := l) ([], a, false) h
  refine ⟨h1, fun r => ?_⟩
  unfold parF
  simp only
  have := h2 r
  simp only at this
  rw [this]
theorem pat_again {xs : List ND} (ok : Okay xs) (I : Int → Bool) : ∀ (N : Nat) (t : Int), t.toNat < N → hasB xs t = true → Again (patT xs I) t := by
  intro N
  induction N with
  | zero => intro t h; omega
  | succ N ih =>
    intro t hN ht a
    have sub : ∀ x ∈ (nodeF xs t).l, Again (patT xs I) x := fun x hx => by
      have hp := part_lt ok ht hx
      exact ih x (by omega) hp.2.2
    have E := fun a => pat_eq ok I ht a
    by_cases h2 : (nodeF xs t).o = 2
    · have E' : ∀ a, patT xs I a t = (34 :: ((nodeF xs t).s.data.toList ++ [34]), a) := fun a => by rw [E, if_pos h2]
      rw [E']
      exact ⟨⟨[], by simp⟩, fun r => E' _⟩
    by_cases h3 : (nodeF xs t).o = 3 ∨ ((nodeF xs t).o ≠ 1 ∧ (nodeF xs t).l.all I = true)
    · have E' : ∀ a, patT xs I a t = (nameP (nodeF xs t).o ++ (parF (patT xs I) a (nodeF xs t).l).1, (parF (patT xs I) a (nodeF xs t).l).2) := fun a => by rw [E, if_neg h2, if_pos h3]
      obtain ⟨p1, p2⟩ := par_again sub a
      rw [E']
      refine ⟨p1, fun r => ?_⟩
      rw [E', p2]
    rcases hs : subO xs I (nodeF xs t) with _ | l
    · have E' : ∀ a, patT xs I a t = (nameP (nodeF xs t).o ++ 35 :: Lib.itoa (numN a t), numA a t) := fun a => by rw [E, if_neg h2, if_neg h3, hs]
      rw [E']
      refine ⟨(num_again a [] t).1, fun r => ?_⟩
      rw [E', (num_again a r t).2.1, (num_again a r t).2.2]
    · have E' : ∀ a, patT xs I a t = (nameP (nodeF xs t).o ++ 35 :: (Lib.itoa (numN a t) ++ (parF (patT xs I) (numA a t) l).1), (parF (patT xs I) (numA a t) l).2) := fun a => by rw [E, if_neg h2, if_neg h3, hs]
      obtain ⟨⟨m, hm⟩, p2⟩ := par_again (g := patT xs I) (l := l) (fun x hx => sub x (sub_mem ok ht hs x hx)) (numA a t)
      obtain ⟨m1, hm1⟩ := (num_again a [] t).1
      rw [E']
      refine ⟨⟨m1 ++ m, by simp only; rw [hm, hm1, List.append_assoc]⟩, fun r => ?_⟩
      rw [E']
      simp only
      have e1 : (parF (patT xs I) (numA a t) l).2 ++ r = numA a t ++ (m ++ r) := by rw [hm, List.append_assoc]
      rw [e1, (num_again a _ t).2.1, (num_again a _ t).2.2, ← e1, p2]
theorem pats_app (xs : List ND) (I : Int → Bool) : ∀ (l m a : List Int), patsF xs I a (l ++ m) = ((patsF xs I a l).1 ++ (patsF xs I (patsF xs I a l).2 m).1, (patsF xs I (patsF xs I a l).2 m).2)
  | [], m, a => rfl
  | t :: l, m, a => by
    show ((patT xs I a t).1 :: (patsF xs I (patT xs I a t).2 (l ++ m)).1, (patsF xs I (patT xs I a t).2 (l ++ m)).2) = _
    rw [pats_app xs I l m]
    rfl
theorem pats_len (xs : List ND) (I : Int → Bool) : ∀ (l a : List Int), (patsF xs I a l).1.length = l.length
  | [], _ => rfl
  | t :: l, a => by show (patsF xs I _ l).1.length + 1 = l.length + 1; rw [pats_len xs I l]
theorem pats_again {xs : List ND} (ok : Okay xs) (I : Int → Bool) : ∀ (l a : List Int), (∀ x ∈ l, hasB xs x = true) → (∃ m, (patsF xs I a l).2 = a ++ m) ∧ ∀ r, patsF xs I ((patsF xs I a l).2 ++ r) l = ((patsF xs I a l).1, (patsF xs I a l).2 ++ r)
  | [], a, _ => ⟨⟨[], by simp [patsF]⟩, fun r => rfl⟩
  | t :: l, a, h => by
    obtain ⟨⟨m1, h1⟩, h2⟩ := pat_again ok I (t.toNat + 1) t (by omega) (h t (by simp)) a
    obtain ⟨⟨m3, h3⟩, h4⟩ := pats_again ok I l (patT xs I a t).2 fun x hx => h x (by simp [hx])
    show (∃ m, (patsF xs I (patT xs I a t).2 l).2 = a ++ m) ∧ ∀ r, patsF xs I ((patsF xs I (patT xs I a t).2 l).2 ++ r) (t :: l) = ((patT xs I a t).1 :: (patsF xs I (patT xs I a t).2 l).1, (patsF xs I (patT xs I a t).2 l).2 ++ r)
    refine ⟨⟨m1 ++ m3, by rw [h3, h1, List.append_assoc]⟩, fun r => ?_⟩
    have e : (patsF xs I (patT xs I a t).2 l).2 ++ r = (patT xs I a t).2 ++ (m3 ++ r) := by rw [h3, List.append_assoc]
    show ((patT xs I ((patsF xs I (patT xs I a t).2 l).2 ++ r) t).1 :: (patsF xs I (patT xs I ((patsF xs I (patT xs I a t).2 l).2 ++ r) t).2 l).1, (patsF xs I (patT xs I ((patsF xs I (patT xs I a t).2 l).2 ++ r) t).2 l).2) = _
    rw [e, h2, ← e, h4]
/-- A list twice looks like itself twice. -/
theorem pats_twice {xs : List ND} (ok : Okay xs) (I : Int → Bool) {l : List Int} (h : ∀ x ∈ l, hasB xs x = true) : (patsF xs I [] (l ++ l)).1 = (patsF xs I [] l).1 ++ (patsF xs I [] l).1 := by
  rw [pats_app]
  have := (pats_again ok I l [] h).2 []
  simp only [List.append_nil] at this
  rw [this]
/-! the same under other names -/
/-- The same nodes, but for the atoms' names. -/
def Ren (xs ys : List ND) : Prop := xs.length = ys.length ∧ ∀ t, (nodeF xs t).o = (nodeF ys t).o ∧ (nodeF xs t).s = (nodeF ys t).s ∧ (nodeF xs t).l = (nodeF ys t).l
theorem ren_has {xs ys : List ND} (h : Ren xs ys) (t : Int) : hasB xs t = hasB ys t := by unfold hasB; rw [h.1]
theorem ren_rule {xs ys : List ND} (h : Ren xs ys) {P : List Int} {c : Int} (hr : Rule xs P c) : Rule ys P c := by
  have e1 := fun t => (h.2 t).1
  have e3 := fun t => (h.2 t).2.2
  cases hr with
  | comp t hh ho => rw [e3]; exact .comp _ (ren_has h _ ▸ hh) (e1 _ ▸ ho)
  | list t x hh ho hx => exact .list _ _ (ren_has h _ ▸ hh) (e1 _ ▸ ho) (e3 _ ▸ hx)
  | opn t x hh ho hk hx => rw [e3, e3]; exact .opn _ _ (ren_has h _ ▸ hh) (e1 _ ▸ ho) (by rw [← e3, ← e1]; exact hk) (e3 _ ▸ hx)
  | enc t x hh ho hx => rw [e3]; exact .enc _ _ (ren_has h _ ▸ hh) (e1 _ ▸ ho) (e3 _ ▸ hx)
  | sig t hh ho => rw [e3]; exact .sig _ (ren_has h _ ▸ hh) (e1 _ ▸ ho)
  | unbl t u hh hu ho hb uo u0 u1 =>
    rw [e3, e3]
    exact .unbl _ _ (ren_has h _ ▸ hh) (ren_has h _ ▸ hu) (e1 _ ▸ ho) (by rw [← e3, ← e1]; exact hb) (e1 _ ▸ uo) (by rw [← e3, ← e3]; exact u0) (by rw [← e3, ← e3, ← e3]; exact u1)
  | blind t hh ho => rw [e3]; exact .blind _ (ren_has h _ ▸ hh) (e1 _ ▸ ho)
theorem Ren.symm {xs ys : List ND} (h : Ren xs ys) : Ren ys xs := ⟨h.1.symm, fun t => ⟨(h.2 t).1.symm, (h.2 t).2.1.symm, (h.2 t).2.2.symm⟩⟩
theorem ren_der {xs ys : List ND} (h : Ren xs ys) (l : List Int) (t : Int) : Der xs l t ↔ Der ys l t :=
  ⟨fun hd S hS hl => hd S (fun P c hr hp => hS P c (ren_rule h hr) hp) hl, fun hd S hS hl => hd S (fun P c hr hp => hS P c (ren_rule h.symm hr) hp) hl⟩
theorem ren_derB {xs ys : List ND} (h : Ren xs ys) (l : List Int) : derB xs l = derB ys l := by
  funext t
  unfold derB
  rw [Bool.eq_iff_iff]
  simp only [decide_eq_true_eq]
  exact ren_der h l t
theorem ren_sub {xs ys : List ND} (h : Ren xs ys) (I : Int → Bool) (t : Int) : subO xs I (nodeF xs t) = subO ys I (nodeF ys t) := by
  unfold subO
  rw [(h.2 t).1, (h.2 t).2.2, (h.2 _).1, (h.2 ((nodeF ys t).l.getD 0 0)).2.2]
theorem ren_patF {xs ys : List ND} (h : Ren xs ys) (I : Int → Bool) : ∀ f, patF xs I f = patF ys I f
  | 0 => rfl
  | f + 1 => by
    funext a t
    rw [patF, patF, ren_patF h I f, ren_sub h I t, (h.2 t).1, (h.2 t).2.1, (h.2 t).2.2]
theorem ren_patT {xs ys : List ND} (h : Ren xs ys) (I : Int → Bool) : patT xs I = patT ys I := by
  funext a t
  unfold patT
  rw [ren_patF h]
theorem ren_pats {xs ys : List ND} (h : Ren xs ys) (I : Int → Bool) : ∀ l a, patsF xs I a l = patsF ys I a l
  | [], _ => rfl
  | t :: l, a => by
    show ((patT xs I a t).1 :: (patsF xs I (patT xs I a t).2 l).1, (patsF xs I (patT xs I a t).2 l).2) = ((patT ys I a t).1 :: (patsF ys I (patT ys I a t).2 l).1, (patsF ys I (patT ys I a t).2 l).2)
    rw [ren_patT h, ren_pats h I l]
/-! how heavy -/
/-- So heavy is a term. -/
def wtF (xs : List ND) : Nat → Int → Nat
  | 0, _ => 1
  | f + 1, t => 1 + ((nodeF xs t).l.map (wtF xs f)).sum
end Go.KK

/- plain: how long a pattern is. -/
namespace Go.KK
open Go.RowKit
set_option linter.unusedVariables false
set_option linter.unusedSimpArgs false

def wtT (xs : List ND) (t : Int) : Nat := wtF xs (t.toNat + 1) t
theorem sum_congr {f g : Int → Nat} : ∀ {l : List Int}, (∀ x ∈ l, f x = g x) → (l.map f).sum = (l.map g).sum
  | [], _ => rfl
  | x :: l, h => by rw [List.map_cons, List.map_cons, List.sum_cons, List.sum_cons, h x (by simp), sum_congr fun y hy => h y (by simp [hy])]
theorem sum_le {f g : Int → Nat} : ∀ {l : List Int}, (∀ x ∈ l, f x ≤ g x) → (l.map f).sum ≤ (l.map g).sum
  | [], _ => Nat.le_refl _
  | x :: l, h => by
    have h1 := h x (by simp)
    have h2 := sum_le (l := l) (f := f) (g := g) fun y hy => h y (by simp [hy])
    simp only [List.map_cons, List.sum_cons]
    omega
theorem sum_mul {f : Int → Nat} (k : Nat) : ∀ (l : List Int), (l.map fun x => k * f x).sum = k * (l.map f).sum
  | [] => by simp
  | x :: l => by simp only [List.map_cons, List.sum_cons, sum_mul k l]; rw [Nat.mul_add]
theorem wt_fuel {xs : List ND} (ok : Okay xs) : ∀ (N : Nat) (t : Int), t.toNat < N → hasB xs t = true → ∀ f, t.toNat < f → wtF xs f t = wtT xs t := by
  intro N
  induction N with
  | zero => intro t h; omega
  | succ N ih =>
    intro t hN ht f hf
    obtain ⟨f, rfl⟩ : ∃ k, f = k + 1 := ⟨f - 1, by omega⟩
    unfold wtT
    rw [wtF, wtF]
    congr 1
    refine sum_congr fun x hx => ?_
    have hp := part_lt ok ht hx
    rw [ih x (by omega) hp.2.2 f (by omega), ih x (by omega) hp.2.2 t.toNat (by omega)]
theorem wt_eq {xs : List ND} (ok : Okay xs) {t : Int} (ht : hasB xs t = true) : wtT xs t = 1 + ((nodeF xs t).l.map (wtT xs)).sum := by
  show wtF xs (t.toNat + 1) t = _
  rw [wtF]
  congr 1
  refine sum_congr fun x hx => ?_
  have hp := part_lt ok ht hx
  exact wt_fuel ok (t.toNat + 1) x (by omega) hp.2.2 t.toNat (by omega)
/-- The numbers given are those of terms, each once. -/
def NumQ (xs : List ND) (a : List Int) : Prop := a.Nodup ∧ ∀ x ∈ a, hasB xs x = true
theorem numQ_nil (xs : List ND) : NumQ xs [] := ⟨.nil, fun x h => by simp at h⟩
theorem NumQ.len {xs : List ND} {a : List Int} (h : NumQ xs a) : a.length ≤ xs.length := nodup_le _ _ h.1 fun x hx => by
  have := has_iff.1 (h.2 x hx)
  omega
theorem NumQ.num {xs : List ND} {a : List Int} (h : NumQ xs a) {t : Int} (ht : hasB xs t = true) : NumQ xs (numA a t) := by
  unfold numA
  by_cases hm : t ∈ a
  · rw [if_pos hm]; exact h
  · rw [if_neg hm]
    refine ⟨?_, fun x hx => ?_⟩
    · rw [List.nodup_append]
      refine ⟨h.1, by simp, fun x hx y hy e => ?_⟩
      rw [List.mem_singleton] at hy
      exact hm (by rw [← hy, ← e]; exact hx)
    · rcases List.mem_append.1 hx with hx | hx
      · exact h.2 x hx
      · rw [List.mem_singleton] at hx; rw [hx]; exact ht
theorem numN_le (a : List Int) (t : Int) : numN a t ≤ a.length := by
  unfold numN
  split
  · rename_i h
    exact Nat.le_of_lt (List.idxOf_lt_length_iff.2 h)
  · exact Nat.le_refl _
theorem jn_len {g : List Int → Int → List UInt8 × List Int} (Q : List Int → Prop) (w : Int → Nat) : ∀ {l : List Int} (s : List UInt8 × List Int × Bool), (∀ x ∈ l, ∀ a, Q a → (g a x).1.length ≤ w x ∧ Q (g a x).2) → Q s.2.1 →
    (l.foldl (jn g) s).1.length ≤ s.1.length + l.length + (l.map w).sum ∧ Q (l.foldl (jn g) s).2.1
  | [], s, _, hs => ⟨by simp, hs⟩
  | x :: l, s, h, hs => by
    obtain ⟨h1, h2⟩ := h x (by simp) s.2.1 hs
    obtain ⟨k1, k2⟩ := jn_len Q w (l := l) (jn g s x) (fun y hy => h y (by simp [hy])) h2
    refine ⟨?_, k2⟩
    rw [List.foldl_cons]
    refine Nat.le_trans k1 ?_
    have : (jn g s x).1.length ≤ s.1.length + 1 + w x := by
      unfold jn
      simp only [List.length_append]
      split <;> simp <;> omega
    simp only [List.map_cons, List.sum_cons, List.length_cons]
    omega
theorem par_len {g : List Int → Int → List UInt8 × List Int} (Q : List Int → Prop) (w : Int → Nat) {l a : List Int} (h : ∀ x ∈ l, ∀ a, Q a → (g a x).1.length ≤ w x ∧ Q (g a x).2) (ha : Q a) :
    (parF g a l).1.length ≤ 2 + l.length + (l.map w).sum ∧ Q (parF g a l).2 := by
  obtain ⟨h1, h2⟩ := jn_len Q w ([], a, false) h ha
  unfold parF
  refine ⟨?_, h2⟩
  simp only [List.length_cons, List.length_append, List.length_nil] at h1 ⊢
  omega
theorem nameP_le (o : Int) : (nameP o).length ≤ 5 := by
  unfold nameP nameB
  repeat' split
  all_goals decide
theorem sub_sum {xs : List ND} (ok : Okay xs) {I : Int → Bool} {t : Int} (h : hasB xs t = true) {l : List Int} (e : subO xs I (nodeF xs t) = some l) (w : Int → Nat) : l.length ≤ (nodeF xs t).l.length ∧ (l.map w).sum ≤ ((nodeF xs t).l.map w).sum := by
  have dr : ∀ (k : Nat) (m : List Int), ((m.drop k).map w).sum ≤ (m.map w).sum := fun k m => by
    have := congrArg (fun z => (z.map w).sum) (List.take_append_drop k m)
    simp only [List.map_append, List.sum_append] at this
    omega
  have tk : ∀ (k : Nat) (m : List Int), ((m.take k).map w).sum ≤ (m.map w).sum := fun k m => by
    have := congrArg (fun z => (z.map w).sum) (List.take_append_drop k m)
    simp only [List.map_append, List.sum_append] at this
    omega
  unfold subO at e
  split at e
  · rename_i ho
    have hl := len_of ok h ho rfl
    injection e with e
    subst e
    refine ⟨by simp; omega, ?_⟩
    generalize (nodeF xs t).l = m at *
    match m, hl with
    | [a, b], _ => simp
  · split at e
    · split at e
      · injection e with e
        subst e
        exact ⟨by simp, dr _ _⟩
      · cases e
    · split at e
      · split at e
        · injection e with e
          subst e
          exact ⟨by simp; omega, Nat.le_trans (tk _ _) (dr _ _)⟩
        · cases e
      · cases e
theorem nd_le {xs : List ND} (ok : Okay xs) {t : Int} (h : hasB xs t = true) : (nodeF xs t).l.length ≤ 64 := by
  have := ok.may _ _ (nodeF_get h)
  unfold mayB shB at this
  simp only [Bool.and_eq_true, decide_eq_true_eq] at this
  exact this.1.1.1.1.1.1.2
theorem pat_len {xs : List ND} (ok : Okay xs) (hs : ∀ x ∈ xs, x.s.data.toList.length ≤ 60) (I : Int → Bool) : ∀ (N : Nat) (t : Int), t.toNat < N → hasB xs t = true → ∀ a, NumQ xs a → (patT xs I a t).1.length ≤ 100 * wtT xs t ∧ NumQ xs (patT xs I a t).2 := by
  intro N
  induction N with
  | zero => intro t h; omega
  | succ N ih =>
    intro t hN ht a ha
    have hit : ∀ b, NumQ xs b → (Lib.itoa ((numN b t : Nat) : Int)).length ≤ 21 := fun b hb => by
      have h1 := hb.len
      have h2 := numN_le b t
      have h3 := ok.len
      exact Lib.itoa_length_le _ (by omega) (by omega)
    have sub : ∀ x ∈ (nodeF xs t).l, ∀ a, NumQ xs a → (patT xs I a x).1.length ≤ 100 * wtT xs x ∧ NumQ xs (patT xs I a x).2 := fun x hx a ha => by
      have hp := part_lt ok ht hx
      exact ih x (by omega) hp.2.2 a ha
    have hn := nameP_le (nodeF xs t).o
    have hl := nd_le ok ht
    rw [pat_eq ok I ht a, wt_eq ok ht, Nat.mul_add, ← sum_mul]
    split
    · refine ⟨?_, ha⟩
      have := hs _ (List.mem_of_getElem? (nodeF_get ht))
      simp only [List.length_cons, List.length_append, List.length_nil]
      omega
    · split
      · obtain ⟨p1, p2⟩ := par_len (NumQ xs) (fun x => 100 * wtT xs x) sub ha
        refine ⟨?_, p2⟩
        simp only [List.length_append]
        omega
      · have hq := ha.num ht
        rcases hsb : subO xs I (nodeF xs t) with _ | l
        · refine ⟨?_, hq⟩
          have := hit a ha
          simp only [List.length_append, List.length_cons]
          omega
        · obtain ⟨p1, p2⟩ := par_len (NumQ xs) (fun x => 100 * wtT xs x) (l := l) (fun x hx => sub x (sub_mem ok ht hsb x hx)) hq
          obtain ⟨q1, q2⟩ := sub_sum ok ht hsb (fun x => 100 * wtT xs x)
          refine ⟨?_, p2⟩
          have := hit a ha
          simp only [List.length_append, List.length_cons]
          omega
theorem pats_len2 {xs : List ND} (ok : Okay xs) (hs : ∀ x ∈ xs, x.s.data.toList.length ≤ 60) (I : Int → Bool) : ∀ (l a : List Int), (∀ x ∈ l, hasB xs x = true) → NumQ xs a → (∀ p ∈ (patsF xs I a l).1, p.length ≤ 100 * (l.map (wtT xs)).sum) ∧ NumQ xs (patsF xs I a l).2
  | [], a, _, ha => ⟨fun p h => by simp [patsF] at h, ha⟩
  | t :: l, a, h, ha => by
    obtain ⟨h1, h2⟩ := pat_len ok hs I (t.toNat + 1) t (by omega) (h t (by simp)) a ha
    obtain ⟨k1, k2⟩ := pats_len2 ok hs I l (patT xs I a t).2 (fun x hx => h x (by simp [hx])) h2
    refine ⟨fun p hp => ?_, k2⟩
    simp only [List.map_cons, List.sum_cons, Nat.mul_add]
    rcases List.mem_cons.1 (show p ∈ (patT xs I a t).1 :: (patsF xs I (patT xs I a t).2 l).1 from hp) with e | e
    · rw [e]; omega
    · have := k1 p e; omega
/-! what the law reckons -/
def capW (n : Nat) : Nat := min n 100000
def lightN (xs : List ND) (l : List Int) : Nat := ((l.filter (hasB xs)).map fun t => capW (wtT xs t)).sum
def lightB (xs : List ND) (l : List Int) : Bool := decide (lightN xs l < 3000)
theorem light_wt {xs : List ND} : ∀ {l : List Int}, (∀ x ∈ l, hasB xs x = true) → lightN xs l < 3000 → (l.map (wtT xs)).sum < 3000
  | [], _, _ => by simp
  | t :: l, h, hl => by
    have e : lightN xs (t :: l) = capW (wtT xs t) + lightN xs l := by
      unfold lightN
      rw [List.filter_cons, if_pos (h t (by simp)), List.map_cons, List.sum_cons]
    rw [e] at hl
    have e2 : capW (wtT xs t) = wtT xs t := by unfold capW at hl ⊢; omega
    have := light_wt (l := l) (fun x hx => h x (by simp [hx]))
    -- the sum
    rw [List.map_cons, List.sum_cons]
    have h3 := light_le (xs := xs) (l := l) (fun x hx => h x (by simp [hx])) (by omega)
    omega
where
  light_le {xs : List ND} : ∀ {l : List Int}, (∀ x ∈ l, hasB xs x = true) → lightN xs l < 3000 → (l.map (wtT xs)).sum ≤ lightN xs l
  | [], _, _ => by simp
  | t :: l, h, hl => by
    have e : lightN xs (t :: l) = capW (wtT xs t) + lightN xs l := by
      unfold lightN
      rw [List.filter_cons, if_pos (h t (by simp)), List.map_cons, List.sum_cons]
    rw [e] at hl ⊢
    have e2 : capW (wtT xs t) = wtT xs t := by unfold capW at hl ⊢; omega
    have h3 := light_le (xs := xs) (l := l) (fun x hx => h x (by simp [hx])) (by omega)
    rw [List.map_cons, List.sum_cons]
    omega
end Go.KK

/- plain: what can be derived, computed; patterns of another test that answers alike. -/
namespace Go.KK
open Go.RowKit
set_option linter.unusedVariables false
set_option linter.unusedSimpArgs false

/-- A text in memory. -/
def strV (p : List UInt8) : Value := .string ⟨p.toArray⟩
/-- The worklist, as long as the fuel lasts. -/
def closeS (xs : List ND) : Nat → SD → SD
  | 0, s => s
  | f + 1, s => if h : s.o = [] then s else closeS xs f ((uses xs (s.o.getLast h)).foldl (visF xs) (apF xs ⟨s.i, s.o.dropLast⟩ (s.o.getLast h)))
theorem close_inv {xs : List ND} (ok : Okay xs) {known : List Int} : ∀ (f : Nat) (s : SD), Inv xs known s → Inv xs known (closeS xs f s)
  | 0, s, h => h
  | f + 1, s, h => by
    rw [closeS]
    split
    · exact h
    · rename_i hn
      refine close_inv ok f _ (Inv.pop ok ?_)
      rw [List.dropLast_concat_getLast hn]
      exact h
def derC (xs : List ND) (known : List Int) (f : Nat) : SD := closeS xs f (startS xs known)
theorem derC_der {xs : List ND} (ok : Okay xs) {known : List Int} (hk : ∀ x ∈ known, hasB xs x = true) {f : Nat} (ho : (derC xs known f).o = []) {t : Int} (ht : hasB xs t = true) : derB xs known t = inB (derC xs known f).i t := by
  have h := close_inv ok f _ (inv_start ok hk)
  change Inv xs known (derC xs known f) at h
  generalize derC xs known f = s at *
  obtain ⟨i, o⟩ := s
  simp only at ho
  subst ho
  rw [Bool.eq_iff_iff, derB_iff]
  exact (h.done ok hk ht).symm
/-- A pattern asks for terms alone. -/
theorem sub_congr {xs : List ND} (ok : Okay xs) {I J : Int → Bool} (h : ∀ t, hasB xs t = true → I t = J t) {t : Int} (ht : hasB xs t = true) : subO xs I (nodeF xs t) = subO xs J (nodeF xs t) := by
  unfold subO
  split
  · rfl
  · split
    · rename_i h9
      have hl := nd_len ok ht
      have : 0 < (nodeF xs t).l.length := by
        have := len_of ok ht h9 rfl
        omega
      rw [h _ (has_part ok ht (getD_mem this))]
    · split
      · rename_i h8
        have hl := len_of ok ht h8 rfl
        have h0 := has_part ok ht (getD_mem (l := (nodeF xs t).l) (k := 0) (by omega))
        by_cases h7 : (nodeF xs ((nodeF xs t).l.getD 0 0)).o = 7
        · have hl2 := len_of ok h0 h7 rfl
          rw [h _ (has_part ok h0 (getD_mem (by omega)))]
        · rw [if_neg fun e => h7 e.1, if_neg fun e => h7 e.1]
      · rfl
theorem all_congr {l : List Int} {I J : Int → Bool} (h : ∀ x ∈ l, I x = J x) : l.all I = l.all J := by
  rw [Bool.eq_iff_iff, List.all_eq_true, List.all_eq_true]
  exact ⟨fun k x hx => by rw [← h x hx]; exact k x hx, fun k x hx => by rw [h x hx]; exact k x hx⟩
theorem pat_congr {xs : List ND} (ok : Okay xs) {I J : Int → Bool} (h : ∀ t, hasB xs t = true → I t = J t) : ∀ (N : Nat) (t : Int), t.toNat < N → hasB xs t = true → ∀ a, patT xs I a t = patT xs J a t := by
  intro N
  induction N with
  | zero => intro t h; omega
  | succ N ih =>
    intro t hN ht a
    have sub : ∀ x ∈ (nodeF xs t).l, ∀ a, patT xs I a x = patT xs J a x := fun x hx a => by
      have hp := part_lt ok ht hx
      exact ih x (by omega) hp.2.2 a
    rw [pat_eq ok I ht a, pat_eq ok J ht a, sub_congr ok h ht, all_congr fun x hx => h x (has_part ok ht hx)]
    split
    · rfl
    · split
      · rw [parF_congr a sub]
      · rcases hs : subO xs J (nodeF xs t) with _ | l
        · rfl
        · simp only
          rw [parF_congr _ fun x hx => sub x (sub_mem ok ht hs x hx)]
theorem pats_congr {xs : List ND} (ok : Okay xs) {I J : Int → Bool} (h : ∀ t, hasB xs t = true → I t = J t) : ∀ (l a : List Int), (∀ x ∈ l, hasB xs x = true) → patsF xs I a l = patsF xs J a l
  | [], a, _ => rfl
  | t :: l, a, hl => by
    show ((patT xs I a t).1 :: (patsF xs I (patT xs I a t).2 l).1, (patsF xs I (patT xs I a t).2 l).2) = ((patT xs J a t).1 :: (patsF xs J (patT xs J a t).2 l).1, (patsF xs J (patT xs J a t).2 l).2)
    rw [pat_congr ok h (t.toNat + 1) t (by omega) (hl t (by simp)), pats_congr ok h l _ fun x hx => hl x (by simp [hx])]
end Go.KK

/- plain: uses are not many. -/
namespace Go.KK
set_option linter.unusedVariables false
set_option linter.unusedSimpArgs false
theorem links_len {xs : List ND} (ok : Okay xs) {t : Nat} (ht : t < xs.length) : (links xs (nodeF xs (t : Int))).length ≤ 65 := by
  have hth : hasB xs (t : Int) = true := has_iff.2 ⟨by omega, by omega⟩
  have hx := nodeF_get hth
  have := ok.may _ _ hx
  unfold mayB shB at this
  simp only [Bool.and_eq_true, decide_eq_true_eq] at this
  have h64 := this.1.1.1.1.1.1.2
  unfold links
  rw [List.length_append]
  split
  · simp; omega
  · split
    · simp; omega
    · simp; omega
theorem pairs_len {xs : List ND} (ok : Okay xs) : ∀ k, k ≤ xs.length → (pairs xs k).length ≤ 65 * k
  | 0, _ => by simp [pairs]
  | k + 1, h => by
    have h1 := pairs_len ok k (by omega)
    have h2 := links_len ok (t := k) (by omega)
    rw [pairs_succ, List.length_append]
    unfold pairsT
    rw [List.length_map]
    omega
theorem uses_small {xs : List ND} (ok : Okay xs) (m : Int) : (uses xs m).length ≤ 100000000 := by
  have h1 := pairs_len ok xs.length (Nat.le_refl _)
  have h2 := ok.len
  unfold uses useOf
  rw [List.length_map]
  exact Nat.le_trans (List.length_filter_le _ _) (by omega)
end Go.KK

/- plain: the document's rounds (what one step derives; where nothing more comes, all is there). -/
namespace Go.KK
open Go.RowKit
set_option linter.unusedVariables false
set_option linter.unusedSimpArgs false

/-- o is a Sig that is in, of n's key, over n's message blinded with what is in. -/
def unO (xs : List ND) (f : Int → Bool) (n : ND) (s : Int) : Bool :=
  (nodeF xs s).o == 10 && (f s && ((nodeF xs s).l.getD 0 0 == n.l.getD 0 0 && ((nodeF xs ((nodeF xs s).l.getD 1 0)).o == 12 && ((nodeF xs ((nodeF xs s).l.getD 1 0)).l.getD 0 0 == n.l.getD 1 0 && f ((nodeF xs ((nodeF xs s).l.getD 1 0)).l.getD 1 0)))))
def unB (xs : List ND) (f : Int → Bool) (n : ND) : Bool := (List.range xs.length).any fun s => unO xs f n (s : Int)
/-- What one step derives with a term. -/
def nextF (xs : List ND) (f : Int → Bool) (t : Int) : List Int :=
  if (nodeF xs t).o ≠ 1 ∧ (nodeF xs t).l.all f = true then [t]
  else if f t = false then (if (nodeF xs t).o = 10 ∧ unB xs f (nodeF xs t) = true then [t] else [])
  else if (nodeF xs t).o = 3 then (nodeF xs t).l
  else if (nodeF xs t).o = 8 then (if (nodeF xs ((nodeF xs t).l.getD 0 0)).o = 7 ∧ f ((nodeF xs ((nodeF xs t).l.getD 0 0)).l.getD 0 0) = true then ((nodeF xs t).l.drop 1).take 2 else [])
  else if (nodeF xs t).o = 9 then (if f ((nodeF xs t).l.getD 0 0) = true then (nodeF xs t).l.drop 1 else [])
  else if (nodeF xs t).o = 10 then (nodeF xs t).l.drop 1
  else if (nodeF xs t).o = 12 then (if f ((nodeF xs t).l.getD 1 0) = true then (nodeF xs t).l.take 1 else [])
  else []
theorem unO_iff {xs : List ND} {f : Int → Bool} {n : ND} {s : Int} : unO xs f n s = true ↔ (nodeF xs s).o = 10 ∧ f s = true ∧ (nodeF xs s).l.getD 0 0 = n.l.getD 0 0 ∧ (nodeF xs ((nodeF xs s).l.getD 1 0)).o = 12 ∧ (nodeF xs ((nodeF xs s).l.getD 1 0)).l.getD 0 0 = n.l.getD 1 0 ∧ f ((nodeF xs ((nodeF xs s).l.getD 1 0)).l.getD 1 0) = true := by
  unfold unO
  simp only [Bool.and_eq_true, beq_iff_eq]
theorem unB_iff {xs : List ND} {f : Int → Bool} {n : ND} : unB xs f n = true ↔ ∃ s, hasB xs s = true ∧ unO xs f n s = true := by
  unfold unB
  simp only [List.any_eq_true, List.mem_range]
  constructor
  · rintro ⟨s, hs, h⟩
    exact ⟨(s : Int), has_iff.2 ⟨by omega, by omega⟩, h⟩
  · rintro ⟨s, hs, h⟩
    have := has_iff.1 hs
    refine ⟨s.toNat, by omega, ?_⟩
    rwa [show ((s.toNat : Nat) : Int) = s by omega]
theorem next_has {xs : List ND} (ok : Okay xs) {f : Int → Bool} {t : Int} (ht : hasB xs t = true) : ∀ x ∈ nextF xs f t, hasB xs x = true := by
  have pt : ∀ x ∈ (nodeF xs t).l, hasB xs x = true := fun x hx => has_part ok ht hx
  intro x hx
  unfold nextF at hx
  repeat' split at hx
  all_goals first
    | (rw [List.mem_singleton] at hx; subst hx; exact ht)
    | exact pt x hx
    | exact pt x (List.mem_of_mem_drop hx)
    | exact pt x (List.mem_of_mem_take hx)
    | exact pt x (List.mem_of_mem_drop (List.mem_of_mem_take hx))
    | simp at hx
/-- What one step derives can be derived. -/
theorem next_snd {xs : List ND} (ok : Okay xs) {D : Int → Prop} (hD : Cl xs D) {f : Int → Bool} (hs : ∀ t, hasB xs t = true → f t = true → D t) {t : Int} (ht : hasB xs t = true) : ∀ x ∈ nextF xs f t, D x := by
  have pt : ∀ x ∈ (nodeF xs t).l, hasB xs x = true := fun x hx => has_part ok ht hx
  intro x hx
  unfold nextF at hx
  split at hx
  · rename_i h1
    rw [List.mem_singleton] at hx
    subst hx
    exact hD _ _ (.comp _ ht h1.1) fun p hp => hs p (pt p hp) (List.all_eq_true.1 h1.2 p hp)
  split at hx
  · split at hx
    · rename_i h2
      rw [List.mem_singleton] at hx
      subst hx
      obtain ⟨s, hsh, h3⟩ := unB_iff.1 h2.2
      obtain ⟨a1, a2, a3, a4, a5, a6⟩ := unO_iff.1 h3
      have hl := len_of ok hsh a1 rfl
      have h5 := has_part ok hsh (getD_mem (l := (nodeF xs s).l) (k := 1) (by omega))
      have hl5 := len_of ok h5 a4 rfl
      refine hD _ _ (.unbl s x hsh ht a1 a4 h2.1 a3.symm a5.symm) fun p hp => ?_
      simp only [List.mem_cons, List.not_mem_nil, or_false] at hp
      rcases hp with rfl | rfl
      · exact hs _ hsh a2
      · exact hs _ (has_part ok h5 (getD_mem (by omega))) a6
    · simp at hx
  rename_i hft
  have hft' : f t = true := by rcases h : f t with _ | _ <;> simp_all
  have hDt := hs t ht hft'
  split at hx
  · rename_i h3
    exact hD _ _ (.list t x ht h3 hx) fun p hp => by rw [List.mem_singleton] at hp; subst hp; exact hDt
  split at hx
  · rename_i h8
    split at hx
    · rename_i h7
      have hl := len_of ok ht h8 rfl
      have h0 := pt _ (getD_mem (k := 0) (by omega))
      have hl0 := len_of ok h0 h7.1 rfl
      refine hD _ _ (.opn t x ht h8 h7.1 hx) fun p hp => ?_
      simp only [List.mem_cons, List.not_mem_nil, or_false] at hp
      rcases hp with rfl | rfl
      · exact hDt
      · exact hs _ (has_part ok h0 (getD_mem (by omega))) h7.2
    · simp at hx
  split at hx
  · rename_i h9
    split at hx
    · rename_i h0
      have hl := len_of ok ht h9 rfl
      refine hD _ _ (.enc t x ht h9 hx) fun p hp => ?_
      simp only [List.mem_cons, List.not_mem_nil, or_false] at hp
      rcases hp with rfl | rfl
      · exact hDt
      · exact hs _ (pt _ (getD_mem (by omega))) h0
    · simp at hx
  split at hx
  · rename_i h10
    have hl := len_of ok ht h10 rfl
    have e : x = (nodeF xs t).l.getD 1 0 := by
      generalize (nodeF xs t).l = m at *
      match m, hl with
      | [a, b], _ => simpa using hx
    rw [e]
    exact hD _ _ (.sig t ht h10) fun p hp => by rw [List.mem_singleton] at hp; subst hp; exact hDt
  split at hx
  · rename_i h12
    split at hx
    · rename_i h0
      have hl := len_of ok ht h12 rfl
      have h1 := pt _ (getD_mem (k := 1) (by omega))
      have e : x = (nodeF xs t).l.getD 0 0 := by
        generalize (nodeF xs t).l = m at *
        match m, hl with
        | [a, b], _ => simpa using hx
      rw [e]
      refine hD _ _ (.blind t ht h12) fun p hp => ?_
      simp only [List.mem_cons, List.not_mem_nil, or_false] at hp
      rcases hp with rfl | rfl
      · exact hDt
      · exact hs _ h1 h0
    · simp at hx
  · simp at hx
/-- Where no step derives more, nothing more can be derived. -/
theorem next_cl {xs : List ND} (ok : Okay xs) {f : Int → Bool} (h : ∀ t, hasB xs t = true → ∀ x ∈ nextF xs f t, f x = true) : Cl xs fun t => f t = true := by
  have self : ∀ t, hasB xs t = true → (nodeF xs t).o ≠ 1 → (nodeF xs t).l.all f = true → f t = true := fun t ht ho ha => by
    refine h t ht t ?_
    unfold nextF
    rw [if_pos ⟨ho, ha⟩]
    simp
  intro P c hr hp
  cases hr with
  | comp _ ht ho => exact self _ ht ho (List.all_eq_true.2 hp)
  | list t x ht ho hx =>
    have hft := hp t (by simp)
    by_cases ha : (nodeF xs t).l.all f = true
    · exact List.all_eq_true.1 ha _ hx
    · refine h t ht _ ?_
      unfold nextF
      rw [if_neg fun e => ha e.2, if_neg (by rw [hft]; decide), if_pos ho]
      exact hx
  | opn t x ht ho hk hx =>
    have hft := hp t (by simp)
    have hfk := hp ((nodeF xs ((nodeF xs t).l.getD 0 0)).l.getD 0 0) (by simp)
    by_cases ha : (nodeF xs t).l.all f = true
    · exact List.all_eq_true.1 ha _ (List.mem_of_mem_drop (List.mem_of_mem_take hx))
    · refine h t ht _ ?_
      unfold nextF
      rw [if_neg fun e => ha e.2, if_neg (by rw [hft]; decide), if_neg (by rw [ho]; decide), if_pos ho, if_pos ⟨hk, hfk⟩]
      exact hx
  | enc t x ht ho hx =>
    have hft := hp t (by simp)
    have hfk := hp ((nodeF xs t).l.getD 0 0) (by simp)
    by_cases ha : (nodeF xs t).l.all f = true
    · exact List.all_eq_true.1 ha _ (List.mem_of_mem_drop hx)
    · refine h t ht _ ?_
      unfold nextF
      rw [if_neg fun e => ha e.2, if_neg (by rw [hft]; decide), if_neg (by rw [ho]; decide), if_neg (by rw [ho]; decide), if_pos ho, if_pos hfk]
      exact hx
  | sig t ht ho =>
    have hft := hp t (by simp)
    have hl := len_of ok ht ho rfl
    by_cases ha : (nodeF xs t).l.all f = true
    · exact List.all_eq_true.1 ha _ (getD_mem (by omega))
    · refine h t ht _ ?_
      unfold nextF
      rw [if_neg fun e => ha e.2, if_neg (by rw [hft]; decide), if_neg (by rw [ho]; decide), if_neg (by rw [ho]; decide), if_neg (by rw [ho]; decide), if_pos ho]
      generalize (nodeF xs t).l = m at *
      match m, hl with
      | [a, b], _ => simp
  | unbl t _ ht hu ho hb uo u0 u1 =>
    have hft := hp t (by simp)
    have hfs := hp ((nodeF xs ((nodeF xs t).l.getD 1 0)).l.getD 1 0) (by simp)
    rcases hfu : f c with _ | _
    · rw [← hfu]
      refine h c hu c ?_
      unfold nextF
      by_cases ha : (nodeF xs c).l.all f = true
      · rw [if_pos ⟨by rw [uo]; decide, ha⟩]; simp
      · rw [if_neg fun e => ha e.2, if_pos hfu, if_pos ⟨uo, unB_iff.2 ⟨t, ht, unO_iff.2 ⟨ho, hft, u0.symm, hb, u1.symm, hfs⟩⟩⟩]; simp
    · rfl
  | blind t ht ho =>
    have hft := hp t (by simp)
    have hfs := hp ((nodeF xs t).l.getD 1 0) (by simp)
    have hl := len_of ok ht ho rfl
    by_cases ha : (nodeF xs t).l.all f = true
    · exact List.all_eq_true.1 ha _ (getD_mem (by omega))
    · refine h t ht _ ?_
      unfold nextF
      rw [if_neg fun e => ha e.2, if_neg (by rw [hft]; decide), if_neg (by rw [ho]; decide), if_neg (by rw [ho]; decide), if_neg (by rw [ho]; decide), if_neg (by rw [ho]; decide), if_pos ho, if_pos hfs]
      generalize (nodeF xs t).l = m at *
      match m, hl with
      | [a, b], _ => simp
end Go.KK

