import Derived.WalkKit
import Derived.WalkSpells
import Derived.WalkLawsBesides
import Derived.Maps.AppendAt
import Derived.Deep.AppendLies
import Derived.Deep.Draws
import Derived.Laws.BytesArg
import Derived.RegionTactic
import Derived.OwnWalk
import Derived.Lib.ItoaNum
import Derived.Maps.Views
import Derived.Maps.OwnSet
import Derived.Test.YtfmkniakfgpgjaaDoorRows
import Derived.Test.YtfmkniakfgpgjaaDoorShelf
import Derived.Deep.QuietTactic
import Derived.BigQuiet
import Derived.Deep.RegionWith
import Derived.Deep.RegionLaw
import Derived.Deep.Cut
/- Words for memory, of no program: a slice that reads as a list of cells (nil let in), its cuts, and an append of such a slice onto a row of the call's own. -/
namespace Go.KK
open Go.RowKit
set_option linter.unusedVariables false
set_option linter.unusedSimpArgs false

theorem hid {p : Prop} (h : p) : Hid p := h
theorem add_lit (b off k : Nat) : (⟨b, off, none⟩ : Addr).add k = ⟨b, off + k, none⟩ := by unfold Addr.add; split <;> simp_all

/-- The slice value '.slice A n c' holds the cells xs (size cells an element). -/
structure SlA (w : World) (size : Nat) (A : Option Addr) (n c : Nat) (xs : List Value) : Prop where
  nc : n ≤ c
  cm : c ≤ maxLen
  len : xs.length = n * size
  cells : ∀ j u, xs[j]? = some u → ∃ b off, A = some ⟨b, off, none⟩ ∧ w.cell? ⟨b, off + j, none⟩ = some u

section
variable {w w' : World} {size : Nat} {A : Option Addr} {n c : Nat} {xs : List Value}
theorem SlA.keep (h : SlA w size A n c xs) (hk : ∀ b o u, w.cell? ⟨b, o, none⟩ = some u → w'.cell? ⟨b, o, none⟩ = some u) : SlA w' size A n c xs :=
  ⟨h.nc, h.cm, h.len, fun j u hj => by
    obtain ⟨b, off, e, hc⟩ := h.cells j u hj
    exact ⟨b, off, e, hk _ _ _ hc⟩⟩
theorem SlA.ext (h : SlA w size A n c xs) (hb : Below w.heap.size w w') : SlA w' size A n c xs :=
  h.keep fun b o u hc => (hb.cell (p := ⟨b, o, none⟩) (block_lt_of_cell hc)).trans hc
theorem SlA.alloc (h : SlA w size A n c xs) (o : Obj) : SlA (w.alloc o) size A n c xs := h.ext ((Below.refl _ _).alloc (Nat.le_refl _) o)
theorem SlA.drew (h : SlA w size A n c xs) : SlA w.drew size A n c xs := h.keep fun _ _ _ hc => hc
theorem SlA.drewN (h : SlA w size A n c xs) (k : Nat) : SlA (w.drewN k) size A n c xs := h.keep fun _ _ _ hc => hc
theorem SlA.nil (w : World) (size : Nat) : SlA w size none 0 0 [] := ⟨Nat.le_refl _, Nat.zero_le _, by simp, fun j u h => by simp at h⟩
theorem SlA.zero (w : World) (size : Nat) (A : Option Addr) (c : Nat) (hc : c ≤ maxLen) : SlA w size A 0 c [] := ⟨Nat.zero_le _, hc, by simp, fun j u h => by simp at h⟩
theorem SlA.elem (h : SlA w 1 A n c xs) {k : Nat} (hk : k < n) : ∃ b off u, A = some ⟨b, off, none⟩ ∧ xs[k]? = some u ∧ w.cell? ⟨b, off + k, none⟩ = some u := by
  have hl : k < xs.length := by have := h.len; omega
  obtain ⟨b, off, e, hc⟩ := h.cells k xs[k] (List.getElem?_eq_getElem hl)
  exact ⟨b, off, _, e, List.getElem?_eq_getElem hl, hc⟩
theorem SlA.elemI {kd : IntKind} {l : List Int} (h : SlA w 1 A n c (l.map (.int kd))) {k : Nat} (hk : k < n) : ∃ b off x, A = some ⟨b, off, none⟩ ∧ l[k]? = some x ∧ w.cell? ⟨b, off + k, none⟩ = some (.int kd x) := by
  obtain ⟨b, off, u, e, hu, hc⟩ := h.elem hk
  rw [List.getElem?_map] at hu
  rcases hx : l[k]? with _ | x
  · rw [hx] at hu; cases hu
  · rw [hx] at hu
    injection hu with hu
    exact ⟨b, off, x, e, rfl, by rw [hc, ← hu]⟩
theorem SlA.lenI {kd : IntKind} {l : List Int} (h : SlA w 1 A n c (l.map (.int kd))) : l.length = n := by have := h.len; simpa using this
theorem SlA.of_own {base : Nat} {e : TypeId} {m : Nat} (h : w.ownsRow base e size (.slice A m c) n xs) : m = n ∧ SlA w size A m c xs := by
  rcases h.2 with ⟨e1, rfl⟩ | ⟨g, cap, cur, e1, hbg, hg, hnc, hcm, hcs, htake⟩
  · injection e1 with e1 e2 e3
    subst e1; subst e2; subst e3
    have hx : xs = [] := List.eq_nil_of_length_eq_zero (by simpa using h.1)
    subst hx
    exact ⟨rfl, SlA.nil _ _⟩
  · injection e1 with e1 e2 e3
    subst e1; subst e2; subst e3
    refine ⟨rfl, ⟨hnc, hcm, h.1, fun j u hj => ⟨g, 0, rfl, ?_⟩⟩⟩
    have := h.cells (g := g) rfl j u hj
    rwa [add_lit] at this
theorem own_shape {base : Nat} {e : TypeId} {v : Value} (h : w.ownsRow base e size v n xs) : ∃ A c, v = .slice A n c := by
  rcases h.2 with ⟨rfl, rfl⟩ | ⟨g, cap, cur, rfl, _⟩
  · exact ⟨_, _, rfl⟩
  · exact ⟨_, _, rfl⟩
/-- An owned row as a readable one, in one step. -/
theorem SlA.owned {base : Nat} {e : TypeId} {v : Value} (h : w.ownsRow base e size v n xs) : ∃ A c, v = .slice A n c ∧ SlA w size A n c xs := by
  obtain ⟨A, c, rfl⟩ := own_shape h
  exact ⟨A, c, rfl, (SlA.of_own h).2⟩
theorem SlA.cut_from (h : SlA w 1 A n c xs) {k : Nat} (hk : k ≤ n) : ∃ A', sliced A k n c 1 = .slice A' (n - k) (c - k) ∧ SlA w 1 A' (n - k) (c - k) (xs.drop k) := by
  have h1 := h.nc; have h2 := h.cm; have h3 := h.len
  refine ⟨_, rfl, ⟨by omega, by omega, by rw [List.length_drop, h.len]; omega, fun j u hj => ?_⟩⟩
  rw [List.getElem?_drop] at hj
  obtain ⟨b, off, rfl, hc⟩ := h.cells _ _ hj
  have hlt : k + j < xs.length := by
    rcases Nat.lt_or_ge (k + j) xs.length with hh | hh
    · exact hh
    · rw [List.getElem?_eq_none hh] at hj; cases hj
  have hne : c ≠ k := by omega
  refine ⟨b, off + k, ?_, by rw [Nat.add_assoc]; exact hc⟩
  simp [hne, add_lit]
end

section
variable {P : Program} (w : World)
/-- append(v, s...), v a row of the call's own, s whatever slice that reads: nil, empty or not. -/
theorem run_append_sl (base : Nat) (t ty e : TypeId) (i : TypeInfo) (z : Value) (size bytes : Nat) (ht : P.underlying t = some (.slice e)) (hi : P.info? e = some i) (hz : i.zero = some z)
    (hsize : i.size = size) (hby : i.bytes = bytes) (hzs : z.cells.size = size) (hsz : 0 < size)
    (v : Value) (n : Nat) (xs : List Value) (hown : w.ownsRow base e size v n xs)
    (A : Option Addr) (m c : Nat) (news : List Value) (hr : SlA w size A m c news) (h1 : ∀ u ∈ news, u.oneCell' = true)
    (h63 : n + m ≤ maxLen) (hbytes : (n + m) * bytes ≤ 140737488355328) (hbase : base ≤ w.heap.size) :
    ∃ v' w', (Builtin.append_ #[t, t] ty #[v, .slice A m c]).run P w = .ok v' w' ∧ w'.ownsRow base e size v' (n + m) (xs ++ news) ∧ w.grownBy w' v.ownBlock ∧
      (v'.ownBlock = v.ownBlock ∨ v'.ownBlock = some w.heap.size) := by
  rcases A with _ | ad
  · have hn : news = [] := by
      rcases news with _ | ⟨x, l⟩
      · rfl
      · obtain ⟨b, off, e, _⟩ := hr.cells 0 x rfl
        cases e
    subst hn
    have hm : m = 0 := by
      rcases Nat.eq_zero_or_pos m with h0 | h0
      · exact h0
      · have h2 := hr.len
        have h3 := Nat.mul_pos h0 hsz
        simp only [List.length_nil] at h2
        omega
    subst hm
    refine ⟨v, w, ?_, by simpa using hown, World.grownBy.refl w _, .inl rfl⟩
    rcases hown.2 with ⟨rfl, rfl⟩ | ⟨g, cap, cur, rfl, _, _, hnc, _⟩
    · simp [Builtin.append_, run_underlying ht, sizeOf, typeInfo, hi, Builtin.lenOf, Builtin.firstCells]
    · simp [Builtin.append_, run_underlying ht, sizeOf, typeInfo, hi, Builtin.lenOf, Builtin.firstCells, hnc, storeCells]
  · have hcells : ∀ j u, news[j]? = some u → w.cell? (ad.add j) = some u := by
      intro j u hu
      obtain ⟨b, off, e, hc⟩ := hr.cells j u hu
      injection e with e
      subst e
      rw [add_lit]
      exact hc
    obtain ⟨v', w', hrun, h2, h3, _, h5⟩ := run_append_own_at (P := P) w base t ty e i z size bytes ht hi hz hsize hby hzs hsz v n xs hown ad m c news hr.len hcells h1 h63 hbytes hbase
    exact ⟨v', w', hrun, h2, h3, h5⟩

theorem wpList_append_sl {ops : Array Oper} {rest : List Oper} {o : Oper} {a : Act} {Q : Exit → Act → World → Prop} (hgd : o.guard = none) (s x : Operand) (t : TypeId)
    (ho : o.op = .call { callee := .builtin .append, args := #[s, x], argTypes := #[t, t] })
    (base : Nat) (e : TypeId) (i : TypeInfo) (z : Value) (size bytes : Nat) (ht : P.underlying t = some (.slice e)) (hi : P.info? e = some i) (hz : i.zero = some z)
    (hsize : i.size = size) (hby : i.bytes = bytes) (hzs : z.cells.size = size) (hsz : 0 < size)
    (v : Value) (n : Nat) (xs : List Value) (hs : a.eval s = v) (hown : w.ownsRow base e size v n xs)
    (A : Option Addr) (m c : Nat) (news : List Value) (hx : a.eval x = .slice A m c) (hr : SlA w size A m c news) (h1 : ∀ u ∈ news, u.oneCell' = true)
    (h63 : n + m ≤ maxLen) (hbytes : (n + m) * bytes ≤ 140737488355328) (hbase : base ≤ w.heap.size)
    (h : ∀ v' w', w'.ownsRow base e size v' (n + m) (xs ++ news) → w.grownBy w' v.ownBlock → (v'.ownBlock = v.ownBlock ∨ v'.ownBlock = some w.heap.size) → wpList P ops Q rest (a.put o.dst v') w') :
    wpList P ops Q (o :: rest) a w := by
  refine wpList_plain hgd fun K hK => ?_
  obtain ⟨v', w', hr, h2, h3, h5⟩ := run_append_sl (P := P) w base t o.type e i z size bytes ht hi hz hsize hby hzs hsz v n xs hown A m c news hr h1 h63 hbytes hbase
  unfold Oper.wp execOp
  simp only [ho, resolve, invoke, builtin, Sem.run_bind, Sem.run_pure, Result.andThen_ok, List.map_toArray, List.map_cons, List.map_nil, hs, hx, hr]
  exact hK _ _ (h v' w' h2 h3 h5)

/-- append(nil, s...): a row of its own; nothing that was there has turned. -/
theorem wpList_append_new {ops : Array Oper} {rest : List Oper} {o : Oper} {a : Act} {Q : Exit → Act → World → Prop} (hgd : o.guard = none) (s x : Operand) (t : TypeId)
    (ho : o.op = .call { callee := .builtin .append, args := #[s, x], argTypes := #[t, t] })
    (e : TypeId) (i : TypeInfo) (z : Value) (size bytes : Nat) (ht : P.underlying t = some (.slice e)) (hi : P.info? e = some i) (hz : i.zero = some z)
    (hsize : i.size = size) (hby : i.bytes = bytes) (hzs : z.cells.size = size) (hsz : 0 < size)
    (hs : a.eval s = .slice none 0 0)
    (A : Option Addr) (m c : Nat) (news : List Value) (hx : a.eval x = .slice A m c) (hr : SlA w size A m c news) (h1 : ∀ u ∈ news, u.oneCell' = true)
    (h63 : m ≤ maxLen) (hbytes : m * bytes ≤ 140737488355328)
    (h : ∀ v' w', w'.ownsRow w.heap.size e size v' m news → RowKit.Below w.heap.size w w' → wpList P ops Q rest (a.put o.dst v') w') :
    wpList P ops Q (o :: rest) a w := by
  refine wpList_append_sl w hgd s x t ho w.heap.size e i z size bytes ht hi hz hsize hby hzs hsz _ 0 [] hs (World.ownsRow_nil _ _ _ _) A m c news hx hr h1 (by simpa using h63) (by simpa using hbytes) (Nat.le_refl _) ?_
  intro v' w' hown hg _
  refine h v' w' (by simpa using hown) ?_
  exact (RowKit.Below.refl _ _).grown hg (Nat.le_refl _) (by simp [Value.ownBlock])

/-- string(s) of bytes that read. -/
theorem run_str_sl (src dst e : TypeId) (hs : P.underlying src = some (.slice e)) (he : P.underlying e = some (.int .u8)) (hd : P.underlying dst = some .string)
    (A : Option Addr) (n c : Nat) (l : List Int) (h : SlA w 1 A n c (l.map (Value.int .u8))) :
    (convert src dst (.slice A n c)).run P w = .ok (.string (strOfNums l)) w := by
  have hln : l.length = n := by have := h.len; simpa using this
  rcases l with _ | ⟨x, l⟩
  · have hn : n = 0 := by simpa using hln.symm
    subst hn
    rw [run_convert_bytes_string w src dst e _ 0 c hs he hd]
    rcases A with _ | ad
    · simp [Conv.bytesToString]; rfl
    · rw [run_bytesToString w ad 0 c [] (by simp [loadCells, loadCellsFrom])]; rfl
  · obtain ⟨b, off, rfl, _⟩ := h.cells 0 (Value.int .u8 x) rfl
    refine run_convert_bytes_arg (P := P) w src e hs he b off n c (x :: l) hln (fun i hi => ?_) dst hd
    have hl : i < (x :: l).length := by omega
    obtain ⟨b', off', e', hc⟩ := h.cells i (Value.int .u8 (x :: l)[i]) (by rw [List.getElem?_map, List.getElem?_eq_getElem hl]; rfl)
    injection e' with e'
    injection e' with e1 e2
    subst e1; subst e2
    rw [hc, List.getD, List.getElem?_eq_getElem hl]
    rfl
end

theorem ints_one (k : IntKind) (l : List Int) : ∀ u ∈ l.map (Value.int k), u.oneCell' = true := by
  intro u hu
  obtain ⟨x, _, rfl⟩ := List.mem_map.1 hu
  rfl

theorem own_mono {w : World} {base base' : Nat} {e : TypeId} {size : Nat} {v : Value} {n : Nat} {xs : List Value} (h : w.ownsRow base e size v n xs) (hb : base' ≤ base) : w.ownsRow base' e size v n xs := by
  refine ⟨h.1, ?_⟩
  rcases h.2 with h2 | ⟨g, cap, cur, e1, hbg, r⟩
  · exact .inl h2
  · exact .inr ⟨g, cap, cur, e1, Nat.le_trans hb hbg, r⟩
theorem one_int (k : IntKind) (x : Int) : ∀ u ∈ [Value.int k x], u.oneCell' = true := ints_one k [x]

/-- 'Below' behind an append by the law above, the row the call's own. -/
theorem below_append {B : Nat} {a w w' : World} {v : Value} {base e size n : Nat} {xs : List Value} (h : Below B a w) (hg : w.grownBy w' v.ownBlock) (hown : w.ownsRow base e size v n xs) (hbase : B ≤ base) (hB : B ≤ w.heap.size) : Below B a w' :=
  h.grown hg hB (fun k hk => Nat.le_trans hbase (hown.lt k hk).1)

theorem grown_of_below {w w' : World} (h : Below w.heap.size w w') (row : Option Nat) : w.grownBy w' row := ⟨h.os, h.tape, h.output, h.size, fun i hi _ => h.block i hi⟩
/-- A row of the call's own stays, where nothing that was there has turned. -/
theorem own_ext {w w' : World} {base : Nat} {e : TypeId} {size : Nat} {v : Value} {n : Nat} {xs : List Value} (h : w.ownsRow base e size v n xs) (hb : Below w.heap.size w w') : w'.ownsRow base e size v n xs := by
  refine h.kept (grown_of_below hb none) ?_
  cases v.ownBlock <;> simp

theorem below_drew {B : Nat} {a w : World} (h : Below B a w) : Below B a w.drew := ⟨h.os, h.tape, h.output, h.size, h.block⟩
theorem below_drewN {B : Nat} {a w : World} (h : Below B a w) (n : Nat) : Below B a (w.drewN n) := ⟨h.os, h.tape, h.output, h.size, h.block⟩
/-- A literal row of one cell. -/
theorem SlA.lit1 {w : World} {T : TypeId} (u : Value) : SlA (w.alloc (.cells #[u] T)) 1 (some ⟨w.heap.size, 0, none⟩) 1 1 [u] :=
  (SlA.of_own (World.ownsRow_lit (e := T) (base := 0) (size := 1) w #[u] 1 (Nat.zero_le _) (by unfold maxLen; omega) rfl)).2

end Go.KK

/- plain: terms' nodes, their texts among others (no two alike), and what an arena makes of a node. -/
namespace Go.KK
open Go.RowKit
set_option linter.unusedVariables false
set_option linter.unusedSimpArgs false

/-- A term's node. -/
structure ND where
  o : Int
  n : Int
  s : ByteArray
  l : List Int
deriving DecidableEq

/-! numbers' texts -/
def numB (b : UInt8) : Bool := (48 ≤ b && b ≤ 57) || b == 45
theorem dig_num : ∀ d : Nat, d < 10 → numB (UInt8.ofNat (48 + d)) = true := by decide +kernel
theorem decDigits_num (u : Nat) : ∀ b ∈ Lib.decDigits u, numB b = true := by
  induction u using Nat.strongRecOn with
  | ind u ih =>
    intro b hb
    rw [Lib.decDigits] at hb
    split at hb
    · rename_i h
      rw [List.mem_singleton] at hb
      subst hb
      exact dig_num u h
    · rename_i h
      rcases List.mem_append.1 hb with hb | hb
      · exact ih (u / 10) (by omega) b hb
      · rw [List.mem_singleton] at hb
        subst hb
        exact dig_num _ (Nat.mod_lt _ (by decide))
theorem itoa_num (i : Int) : ∀ b ∈ Lib.itoa i, numB b = true := by
  intro b hb
  unfold Lib.itoa at hb
  split at hb
  · rcases List.mem_cons.1 hb with rfl | hb
    · decide
    · exact decDigits_num _ _ hb
  · exact decDigits_num _ _ hb
def decV (l : List UInt8) : Nat := l.foldl (fun a b => 10 * a + (b.toNat - 48)) 0
theorem dig_val : ∀ d : Nat, d < 10 → (UInt8.ofNat (48 + d)).toNat - 48 = d := by decide +kernel
theorem decV_digits (u : Nat) : decV (Lib.decDigits u) = u := by
  induction u using Nat.strongRecOn with
  | ind u ih =>
    rw [Lib.decDigits]
    split
    · rename_i h
      show 10 * 0 + ((UInt8.ofNat (48 + u)).toNat - 48) = u
      rw [dig_val u h]; omega
    · rename_i h
      unfold decV at ih ⊢
      rw [List.foldl_append, ih (u / 10) (by omega)]
      show 10 * (u / 10) + ((UInt8.ofNat (48 + u % 10)).toNat - 48) = u
      rw [dig_val _ (Nat.mod_lt _ (by decide))]
      omega
theorem decDigits_inj {u v : Nat} (h : Lib.decDigits u = Lib.decDigits v) : u = v := by rw [← decV_digits u, ← decV_digits v, h]
theorem decDigits_ne (u : Nat) : Lib.decDigits u ≠ [] ∧ ∀ r, Lib.decDigits u ≠ 45 :: r := by
  induction u using Nat.strongRecOn with
  | ind u ih =>
    rw [Lib.decDigits]
    split
    · rename_i h
      refine ⟨by simp, fun r e => ?_⟩
      injection e with e _
      have : ∀ d : Nat, d < 10 → UInt8.ofNat (48 + d) ≠ 45 := by decide +kernel
      exact this u h e
    · rename_i h
      obtain ⟨i1, i2⟩ := ih (u / 10) (by omega)
      refine ⟨by simp, fun r e => ?_⟩
      rcases hd : Lib.decDigits (u / 10) with _ | ⟨b, t⟩
      · exact i1 hd
      · rw [hd] at e
        injection e with e _
        exact i2 t (by rw [hd, e])
theorem itoa_inj {i j : Int} (h : Lib.itoa i = Lib.itoa j) : i = j := by
  unfold Lib.itoa at h
  split at h
  · split at h
    · injection h with _ h
      have := decDigits_inj h
      omega
    · exact absurd h.symm ((decDigits_ne _).2 _)
  · split at h
    · exact absurd h ((decDigits_ne _).2 _)
    · have := decDigits_inj h
      omega
/-- Nothing, or a byte that stands in no number ahead. -/
def stopB : List UInt8 → Bool
  | [] => true
  | b :: _ => !numB b
theorem first_stop : ∀ {a a' r r' : List UInt8}, a ++ r = a' ++ r' → (∀ b ∈ a, numB b = true) → (∀ b ∈ a', numB b = true) → stopB r = true → stopB r' = true → a = a' ∧ r = r'
  | [], [], r, r', h, _, _, _, _ => ⟨rfl, h⟩
  | [], b :: a', r, r', h, _, h2, h3, _ => by
    rw [List.nil_append] at h
    rw [h] at h3
    have := h2 b (by simp)
    simp [stopB, this] at h3
  | b :: a, [], r, r', h, h1, _, _, h4 => by
    rw [List.nil_append] at h
    rw [← h] at h4
    have := h1 b (by simp)
    simp [stopB, this] at h4
  | b :: a, b' :: a', r, r', h, h1, h2, h3, h4 => by
    rw [List.cons_append, List.cons_append] at h
    injection h with e h
    obtain ⟨i1, i2⟩ := first_stop h (fun x hx => h1 x (by simp [hx])) (fun x hx => h2 x (by simp [hx])) h3 h4
    exact ⟨by rw [e, i1], i2⟩
/-- Numbers' texts, each behind a space. -/
def joinB (l : List Int) : List UInt8 := l.flatMap fun x => 32 :: Lib.itoa x
theorem joinB_cons (x : Int) (l : List Int) : joinB (x :: l) = 32 :: (Lib.itoa x ++ joinB l) := by unfold joinB; rw [List.flatMap_cons]; rfl
theorem joinB_snoc (l : List Int) (x : Int) : joinB (l ++ [x]) = joinB l ++ (32 :: Lib.itoa x) := by unfold joinB; rw [List.flatMap_append]; simp
theorem stop_join {l : List Int} {r : List UInt8} (h : stopB r = true) : stopB (joinB l ++ r) = true := by
  rcases l with _ | ⟨x, l⟩
  · exact h
  · rw [joinB_cons]; rfl
theorem joinB_inj : ∀ {l l' : List Int} {r r' : List UInt8}, joinB l ++ r = joinB l' ++ r' → stopB r = true → stopB r' = true → (∀ t, r ≠ 32 :: t) → (∀ t, r' ≠ 32 :: t) → l = l' ∧ r = r'
  | [], [], r, r', h, _, _, _, _ => ⟨rfl, h⟩
  | [], x :: l', r, r', h, _, _, h3, _ => by rw [joinB_cons] at h; exact absurd h (h3 _)
  | x :: l, [], r, r', h, _, _, _, h4 => by rw [joinB_cons] at h; exact absurd h.symm (h4 _)
  | x :: l, x' :: l', r, r', h, h1, h2, h3, h4 => by
    rw [joinB_cons, joinB_cons, List.cons_append, List.cons_append] at h
    injection h with _ h
    rw [List.append_assoc, List.append_assoc] at h
    obtain ⟨e1, e2⟩ := first_stop h (itoa_num x) (itoa_num x') (stop_join h1) (stop_join h2)
    obtain ⟨e3, e4⟩ := joinB_inj e2 h1 h2 h3 h4
    exact ⟨by rw [itoa_inj e1, e3], e4⟩
/-- The program's text of a node among others. -/
def keyP (x : ND) : List UInt8 := Lib.itoa x.o ++ joinB (x.n :: x.l) ++ 124 :: x.s.data.toList
theorem str_ext {s t : ByteArray} (h : s.data.toList = t.data.toList) : s = t := by
  obtain ⟨s⟩ := s; obtain ⟨t⟩ := t
  simp only at h
  rw [Array.toList_inj.1 h]
theorem keyP_inj {x y : ND} (h : keyP x = keyP y) : x = y := by
  unfold keyP at h
  rw [List.append_assoc, List.append_assoc] at h
  obtain ⟨e1, e2⟩ := first_stop h (itoa_num _) (itoa_num _) (stop_join rfl) (stop_join rfl)
  obtain ⟨e3, e4⟩ := joinB_inj e2 rfl rfl (fun t e => by injection e with e _; exact absurd e (by decide)) (fun t e => by injection e with e _; exact absurd e (by decide))
  injection e3 with e3 e5
  injection e4 with _ e4
  obtain ⟨_, _, _, _⟩ := x; obtain ⟨_, _, _, _⟩ := y
  simp only at e1 e3 e4 e5
  rw [itoa_inj e1, e3, str_ext e4, e5]
/-- The document's. -/
def keyR (x : ND) : List UInt8 := Lib.itoa x.o ++ 32 :: (Lib.itoa x.n ++ 32 :: (Lib.itoa x.s.size ++ 32 :: (x.s.data.toList ++ joinB x.l)))
theorem keyR_inj {x y : ND} (h : keyR x = keyR y) : x = y := by
  unfold keyR at h
  obtain ⟨e1, h⟩ := first_stop h (itoa_num _) (itoa_num _) rfl rfl
  injection h with _ h
  obtain ⟨e2, h⟩ := first_stop h (itoa_num _) (itoa_num _) rfl rfl
  injection h with _ h
  obtain ⟨e3, h⟩ := first_stop h (itoa_num _) (itoa_num _) rfl rfl
  injection h with _ h
  have e3 := itoa_inj e3
  have hl : x.s.data.toList.length = y.s.data.toList.length := by
    have h1 : x.s.size = x.s.data.toList.length := rfl
    have h2 : y.s.size = y.s.data.toList.length := rfl
    omega
  obtain ⟨e4, e5⟩ := List.append_inj h hl
  have e6 := (joinB_inj (l := x.l) (l' := y.l) (r := []) (r' := []) (by simpa using e5) rfl rfl (fun t e => by cases e) (fun t e => by cases e)).1
  obtain ⟨_, _, _, _⟩ := x; obtain ⟨_, _, _, _⟩ := y
  simp only at e1 e2 e4 e6
  rw [itoa_inj e1, itoa_inj e2, str_ext e4, e6]

/-! what may be -/
/-- How many parts a node of a kind has (none: any). -/
def arN : Int → Option Nat
  | 1 => some 0 | 2 => some 0 | 4 => some 1 | 5 => some 2 | 6 => some 3 | 7 => some 1 | 8 => some 4 | 9 => some 4 | 10 => some 2 | 11 => some 2 | 12 => some 2
  | _ => none
/-- As many parts as such a node has. -/
def lenB (o : Int) (n : Nat) : Bool := match arN o with | some k => n == k | none => o == 3
def shB (x : ND) : Bool := lenB x.o x.l.length && decide (x.l.length ≤ 64) && decide (0 ≤ x.n) && decide (x.s.size ≤ 200) && (x.o == 1 || x.n == 0) && (x.o == 2 || x.s.size == 0)
def opAt (xs : List ND) (t : Int) : Int := match xs[t.toNat]? with | some x => x.o | none => 0
def hasB (xs : List ND) (t : Int) : Bool := decide (0 ≤ t) && decide (t < xs.length)
def mayB (xs : List ND) (x : ND) : Bool := shB x && x.l.all (hasB xs) && (x.o != 6 || opAt xs (x.l.getD 1 0) == 2)
/-- The arena behind it, the number, the error. -/
def makT (xs : List ND) (x : ND) : List ND := if mayB xs x then (if x ∈ xs then xs else if 100000 ≤ xs.length then xs else xs ++ [x]) else xs
def makI (xs : List ND) (x : ND) : Int := if mayB xs x then (if x ∈ xs then (xs.idxOf x : Nat) else if 100000 ≤ xs.length then 0 else (xs.length : Nat)) else 0
def makE (xs : List ND) (x : ND) : Int := if mayB xs x then (if x ∈ xs then 0 else if 100000 ≤ xs.length then 2 else 0) else 1
theorem idxOf_get {xs : List ND} {x : ND} (h : x ∈ xs) : xs[xs.idxOf x]? = some x := by
  have hl := List.idxOf_lt_length_of_mem h
  rw [List.getElem?_eq_getElem hl, List.getElem_idxOf hl]

/-! a map of texts to numbers -/
abbrev MD := DataW Unit
structure MapOk (kf : ND → List UInt8) (xs : List ND) (D : MD) : Prop where
  is : Maps.IsMap D
  has : ∀ s, Maps.has D (.string s) = true ↔ ∃ x ∈ xs, kf x = s
  at' : ∀ (j : Nat) x, xs[j]? = some x → ∀ z, D.atKey (.string (kf x)) z = .lit (.int .i64 j)
theorem mapOk_nil (kf : ND → List UInt8) : MapOk kf [] (.map []) :=
  ⟨Maps.isMap_empty, fun s => by rw [Maps.has_eq]; simp, fun j x h => by simp at h⟩
theorem MapOk.not {kf : ND → List UInt8} {xs : List ND} {D : MD} (h : MapOk kf xs D) (hi : ∀ {x y}, kf x = kf y → x = y) {x : ND} (hx : x ∉ xs) : Maps.has D (.string (kf x)) = false := by
  rw [Bool.eq_false_iff]
  intro hh
  obtain ⟨y, hy, e⟩ := (h.has _).1 hh
  exact hx (hi e ▸ hy)
theorem MapOk.yes {kf : ND → List UInt8} {xs : List ND} {D : MD} (h : MapOk kf xs D) {x : ND} (hx : x ∈ xs) : Maps.has D (.string (kf x)) = true := (h.has _).2 ⟨x, hx, rfl⟩
theorem mapOk_put {kf : ND → List UInt8} {xs : List ND} {D : MD} (h : MapOk kf xs D) (hi : ∀ {x y}, kf x = kf y → x = y) {x : ND} (hx : x ∉ xs) : MapOk kf (xs ++ [x]) (D.put (.string (kf x)) (.lit (.int .i64 (xs.length : Nat)))) := by
  refine ⟨h.is.put _ _, fun s => ?_, fun j y hy z => ?_⟩
  · by_cases hs : kf x = s
    · subst hs
      rw [Maps.has_put_same h.is (by trivial)]
      exact ⟨fun _ => ⟨x, by simp, rfl⟩, fun _ => rfl⟩
    · rw [Maps.has_put_other (fun e => hs (by injection e with e; exact e.symm)), h.has]
      constructor
      · rintro ⟨y, hy, e⟩; exact ⟨y, by simp [hy], e⟩
      · rintro ⟨y, hy, e⟩
        rcases List.mem_append.1 hy with hy | hy
        · exact ⟨y, hy, e⟩
        · rw [List.mem_singleton] at hy; subst hy; exact absurd e hs
  · rcases Nat.lt_or_ge j xs.length with hj | hj
    · rw [List.getElem?_append_left hj] at hy
      have hne : kf y ≠ kf x := fun e => hx (hi e ▸ List.mem_of_getElem? hy)
      rw [Maps.atKey_put_other (fun e => hne (by injection e))]
      exact h.at' j y hy z
    · rw [List.getElem?_append_right hj] at hy
      have : j - xs.length = 0 := by
        rcases hk : j - xs.length with _ | k
        · rfl
        · rw [hk] at hy; simp at hy
      rw [this] at hy
      injection hy with hy
      subst hy
      rw [Maps.atKey_put_same h.is (by trivial), show j = xs.length by omega]
end Go.KK

/- Memory: an arena (a struct of a row of nodes and a map of their texts), and what is left alone. -/
namespace Go.KK
open Go.RowKit
set_option linter.unusedVariables false
set_option linter.unusedSimpArgs false

/-- Of what was there nothing has turned, but in F. -/
structure Turn (F : Nat → Prop) (w w' : World) : Prop where
  os : w'.os = w.os
  tape : w'.tape = w.tape
  output : w'.output = w.output
  size : w.heap.size ≤ w'.heap.size
  block : ∀ k, k < w.heap.size → ¬ F k → w'.heap[k]? = w.heap[k]?
theorem Turn.of_below {F : Nat → Prop} {w w' : World} (h : Below w.heap.size w w') : Turn F w w' := ⟨h.os, h.tape, h.output, h.size, fun k hk _ => h.block k hk⟩
theorem Turn.refl (F : Nat → Prop) (w : World) : Turn F w w := ⟨rfl, rfl, rfl, Nat.le_refl _, fun _ _ _ => rfl⟩
theorem Turn.trans {F F' : Nat → Prop} {a b c : World} (h : Turn F a b) (k : Turn F' b c) (hf : ∀ k, F' k → F k ∨ a.heap.size ≤ k) : Turn F a c :=
  ⟨k.os.trans h.os, k.tape.trans h.tape, k.output.trans h.output, Nat.le_trans h.size k.size, fun i hi hn => (k.block i (Nat.lt_of_lt_of_le hi h.size) fun hh => (hf i hh).elim hn (fun h => by omega)).trans (h.block i hi hn)⟩
theorem Turn.below {F : Nat → Prop} {w w' : World} {B : Nat} (h : Turn F w w') (hf : ∀ b, F b → B ≤ b) (hB : B ≤ w.heap.size) : Below B w w' :=
  ⟨h.os, h.tape, h.output, h.size, fun k hk => h.block k (Nat.lt_of_lt_of_le hk hB) fun hh => by have := hf k hh; omega⟩
theorem Turn.grown {F : Nat → Prop} {w w' : World} {r : Option Nat} (h : w.grownBy w' r) (hr : ∀ b, r = some b → F b ∨ w.heap.size ≤ b) : Turn F w w' :=
  ⟨h.os, h.tape, h.output, h.size, fun k hk hn => h.block k hk fun e => (hr k e.symm).elim hn (fun h => by omega)⟩
theorem Turn.setCell {F : Nat → Prop} {w : World} {a : Addr} (v : Value) (ha : F a.block ∨ w.heap.size ≤ a.block) : Turn F w (w.setCell a v) :=
  have h := (Below.refl (Nat.min a.block a.block) w).setCell (p := a) (Nat.min_le_left _ _) v
  ⟨h.os, h.tape, h.output, h.size, fun k hk hn => Below.heap_setCell w a v k fun e => ha.elim (fun h => hn (e ▸ h)) (fun h => by omega)⟩
theorem Turn.mono {F F' : Nat → Prop} {w w' : World} (h : Turn F w w') (hf : ∀ k, F k → F' k) : Turn F' w w' := ⟨h.os, h.tape, h.output, h.size, fun k hk hn => h.block k hk fun e => hn (hf k e)⟩

def ND.cells (x : ND) (q : Value) : List Value := [.int .i64 x.o, .int .i64 x.n, .string x.s, q]
/-- The cells of a row of nodes, whose lists' heads are these. -/
def nds (xs : List ND) (qs : List Value) : List Value := (List.zipWith ND.cells xs qs).flatten
/-- The value q is a list of numbers that reads. -/
def In1 (w : World) (q : Value) (l : List Int) : Prop := ∃ A c, q = .slice A l.length c ∧ SlA w 1 A l.length c (l.map (.int .i64))
/-- The slice reads as a row of nodes. -/
def NdA (w : World) (A : Option Addr) (n c : Nat) (xs : List ND) : Prop :=
  ∃ qs : List Value, qs.length = xs.length ∧ SlA w 4 A n c (nds xs qs) ∧ ∀ (j : Nat) x q, xs[j]? = some x → qs[j]? = some q → In1 w q x.l

theorem flat_len {α : Type} (m : Nat) : ∀ (ls : List (List α)), (∀ l ∈ ls, l.length = m) → ls.flatten.length = ls.length * m
  | [], _ => by simp
  | l :: ls, h => by
    rw [List.flatten_cons, List.length_append, h l (by simp), flat_len m ls (fun x hx => h x (by simp [hx])), List.length_cons, Nat.succ_mul]
    omega
theorem flat_get {α : Type} (m : Nat) : ∀ (ls : List (List α)) (j k : Nat) (l : List α), (∀ l ∈ ls, l.length = m) → ls[j]? = some l → k < m → ls.flatten[j * m + k]? = l[k]?
  | [], _, _, _, _, h, _ => by cases h
  | x :: ls, 0, k, l, h7, h, hk => by
    simp at h; subst h
    rw [List.flatten_cons, Nat.zero_mul, Nat.zero_add, List.getElem?_append_left (by rw [h7 x (by simp)]; exact hk)]
  | x :: ls, j + 1, k, l, h7, h, hk => by
    have hx := h7 x (by simp)
    rw [List.flatten_cons, List.getElem?_append_right (by rw [hx, Nat.succ_mul]; omega), hx, show (j + 1) * m + k - m = j * m + k by rw [Nat.succ_mul]; omega]
    exact flat_get m ls j k l (fun y hy => h7 y (by simp [hy])) (by simpa using h) hk
theorem nds_mem (xs : List ND) (qs : List Value) : ∀ l ∈ List.zipWith ND.cells xs qs, l.length = 4 := by
  intro l hl
  obtain ⟨j, hj, rfl⟩ := List.mem_iff_getElem.1 hl
  rw [List.getElem_zipWith]
  rfl
theorem nds_len {xs : List ND} {qs : List Value} (h : qs.length = xs.length) : (nds xs qs).length = xs.length * 4 := by
  unfold nds
  rw [flat_len 4 _ (nds_mem xs qs), List.length_zipWith, h, Nat.min_self]
theorem nds_get {xs : List ND} {qs : List Value} {j k : Nat} {x : ND} {q : Value} (hx : xs[j]? = some x) (hq : qs[j]? = some q) (hk : k < 4) : (nds xs qs)[j * 4 + k]? = (x.cells q)[k]? :=
  flat_get 4 _ j k _ (nds_mem xs qs) (by rw [List.getElem?_zipWith, hx, hq]) hk
theorem nds_snoc {xs : List ND} {qs : List Value} (h : qs.length = xs.length) (x : ND) (q : Value) : nds (xs ++ [x]) (qs ++ [q]) = nds xs qs ++ x.cells q := by
  unfold nds
  rw [List.zipWith_append h.symm, List.flatten_append]
  simp

section
variable {w w' : World} {A : Option Addr} {n c : Nat} {xs : List ND}
theorem In1.keep {q : Value} {l : List Int} (h : In1 w q l) (hk : ∀ b o u, w.cell? ⟨b, o, none⟩ = some u → w'.cell? ⟨b, o, none⟩ = some u) : In1 w' q l := by
  obtain ⟨A, c, e, hs⟩ := h
  exact ⟨A, c, e, hs.keep hk⟩
theorem In1.ext {q : Value} {l : List Int} (h : In1 w q l) (hb : Below w.heap.size w w') : In1 w' q l := by
  obtain ⟨A, c, e, hs⟩ := h
  exact ⟨A, c, e, hs.ext hb⟩
/-- A list reads on, where its own block is as it was. -/
theorem In1.kept {q : Value} {l : List Int} (h : In1 w q l) (hk : ∀ b, l ≠ [] → q.ownBlock = some b → w'.heap[b]? = w.heap[b]?) : In1 w' q l := by
  obtain ⟨A, c, rfl, hs⟩ := h
  refine ⟨A, c, rfl, hs.nc, hs.cm, hs.len, fun j u hj => ?_⟩
  obtain ⟨b, off, rfl, hc⟩ := hs.cells j u hj
  refine ⟨b, off, rfl, ?_⟩
  rw [World.cell?_of_block (a := ⟨b, off + j, none⟩) (hk b (fun e => by rw [e] at hj; simp at hj) rfl)]
  exact hc
theorem NdA.keep (h : NdA w A n c xs) (hk : ∀ b o u, w.cell? ⟨b, o, none⟩ = some u → w'.cell? ⟨b, o, none⟩ = some u) : NdA w' A n c xs := by
  obtain ⟨qs, h1, h2, h3⟩ := h
  exact ⟨qs, h1, h2.keep hk, fun j x q hx hq => (h3 j x q hx hq).keep hk⟩
theorem NdA.ext (h : NdA w A n c xs) (hb : Below w.heap.size w w') : NdA w' A n c xs :=
  h.keep fun b o u hc => (hb.cell (p := ⟨b, o, none⟩) (block_lt_of_cell hc)).trans hc
theorem NdA.drewN (h : NdA w A n c xs) (k : Nat) : NdA (w.drewN k) A n c xs := h.keep fun _ _ _ hc => hc
theorem NdA.len (h : NdA w A n c xs) : xs.length = n := by
  obtain ⟨qs, h1, h2, h3⟩ := h
  have := h2.len
  rw [nds_len h1] at this
  omega
theorem NdA.nc (h : NdA w A n c xs) : n ≤ c ∧ c ≤ maxLen := by
  obtain ⟨qs, h1, h2, h3⟩ := h
  exact ⟨h2.nc, h2.cm⟩
theorem NdA.nil (w : World) : NdA w none 0 0 [] := ⟨[], rfl, SlA.nil _ _, fun j x q h => by simp at h⟩
/-- What one node's cells are. -/
theorem NdA.at (h : NdA w A n c xs) {j : Nat} (hj : j < n) : ∃ b off x A' c', A = some ⟨b, off, none⟩ ∧ xs[j]? = some x ∧ w.cell? ⟨b, off + j * 4, none⟩ = some (.int .i64 x.o) ∧ w.cell? ⟨b, off + j * 4 + 1, none⟩ = some (.int .i64 x.n) ∧ w.cell? ⟨b, off + j * 4 + 2, none⟩ = some (.string x.s) ∧
    w.cell? ⟨b, off + j * 4 + 3, none⟩ = some (.slice A' x.l.length c') ∧ SlA w 1 A' x.l.length c' (x.l.map (.int .i64)) := by
  have hn := h.len
  obtain ⟨qs, h1, h2, h3⟩ := h
  have hx : xs[j]? = some (xs[j]'(by omega)) := List.getElem?_eq_getElem (by omega)
  have hq : qs[j]? = some (qs[j]'(by omega)) := List.getElem?_eq_getElem (by omega)
  generalize xs[j]'(by omega) = x at *
  generalize qs[j]'(by omega) = q at *
  obtain ⟨A', c', rfl, hs⟩ := h3 j x q hx hq
  obtain ⟨b, off, rfl, h0⟩ := h2.cells (j * 4 + 0) _ (nds_get hx hq (by decide))
  obtain ⟨b1, off1, e1, h1'⟩ := h2.cells (j * 4 + 1) _ (nds_get hx hq (by decide))
  obtain ⟨b2, off2, e2, h2'⟩ := h2.cells (j * 4 + 2) _ (nds_get hx hq (by decide))
  obtain ⟨b3, off3, e3, h3'⟩ := h2.cells (j * 4 + 3) _ (nds_get hx hq (by decide))
  injection e1 with e1; injection e1 with e1 f1
  injection e2 with e2; injection e2 with e2 f2
  injection e3 with e3; injection e3 with e3 f3
  subst e1; subst f1; subst e2; subst f2; subst e3; subst f3
  exact ⟨b, off, x, A', c', rfl, hx, h0, h1', h2', h3', hs⟩
end

/-- Nodes that an arena has made, one behind the other. -/
structure Okay (xs : List ND) : Prop where
  len : xs.length ≤ 100000
  nd : xs.Nodup
  may : ∀ (j : Nat) x, xs[j]? = some x → mayB (xs.take j) x = true
  w64 : ∀ (j : Nat) x, xs[j]? = some x → x.n < 9223372036854775808
theorem okay_nil : Okay [] := ⟨by decide, List.nodup_nil, fun j x h => by simp at h, fun j x h => by simp at h⟩
theorem okay_mak {xs : List ND} {x : ND} (h : Okay xs) (hn : x.n < 9223372036854775808) : Okay (makT xs x) := by
  unfold makT
  split
  · rename_i hm
    split
    · exact h
    · rename_i hx
      split
      · exact h
      · rename_i hl
        refine ⟨by simp; omega, ?_, fun j y hy => ?_, fun j y hy => ?_⟩
        · rw [List.nodup_append]
          exact ⟨h.nd, by simp, fun a ha b hb e => by rw [List.mem_singleton] at hb; subst hb; subst e; exact hx ha⟩
        · rcases Nat.lt_or_ge j xs.length with hj | hj
          · rw [List.getElem?_append_left hj] at hy
            rw [List.take_append_of_le_length (by omega)]
            exact h.may j y hy
          · rw [List.getElem?_append_right hj] at hy
            rcases hk : j - xs.length with _ | k
            · rw [hk] at hy
              injection hy with hy
              subst hy
              rw [show j = xs.length by omega, List.take_append_of_le_length (Nat.le_refl _), List.take_length]
              exact hm
            · rw [hk] at hy; simp at hy
        · rcases Nat.lt_or_ge j xs.length with hj | hj
          · rw [List.getElem?_append_left hj] at hy
            exact h.w64 j y hy
          · rw [List.getElem?_append_right hj] at hy
            rcases hk : j - xs.length with _ | k
            · rw [hk] at hy
              injection hy with hy
              subst hy
              exact hn
            · rw [hk] at hy; simp at hy
  · exact h

/-- The block st is an arena of these nodes; all its blocks lie in Z. -/
structure Ar (P : Program) (NT K E T : TypeId) (kf : ND → List UInt8) (w : World) (Z : Nat → Prop) (st mp : Nat) (v : Value) (xs : List ND) (qs : List Value) : Prop where
  box : w.heap[st]? = some (.cells #[v, .map (some mp)] T (0, 0))
  row : w.ownsRow 0 NT 4 v xs.length (nds xs qs)
  ql : qs.length = xs.length
  rd : ∀ (j : Nat) x q, xs[j]? = some x → qs[j]? = some q → In1 w q x.l
  own : ∀ (j : Nat) x q b, xs[j]? = some x → qs[j]? = some q → x.l ≠ [] → q.ownBlock = some b → Z b ∧ b ≠ st ∧ b ≠ mp ∧ v.ownBlock ≠ some b
  map : ∃ D, w.ownsMap P K (plainElem P E) mp xs.length D ∧ MapOk kf xs D
  zst : Z st
  zmp : Z mp ∧ mp ≠ st
  zv : ∀ b, v.ownBlock = some b → Z b ∧ b ≠ st ∧ b ≠ mp
  zlt : ∀ b, Z b → b < w.heap.size
  ok : Okay xs

section
variable {P : Program} {NT K E T : TypeId} {kf : ND → List UInt8} {w w' : World} {Z : Nat → Prop} {st mp : Nat} {v : Value} {xs : List ND} {qs : List Value}
theorem own_block {base : Nat} {e : TypeId} {size n : Nat} {cs : List Value} (h : w.ownsRow base e size v n cs) (hb : ∀ b, v.ownBlock = some b → w'.heap[b]? = w.heap[b]?) : w'.ownsRow base e size v n cs := by
  refine ⟨h.1, ?_⟩
  rcases h.2 with h2 | ⟨g, cap, cur, rfl, hg, hh, r⟩
  · exact .inl h2
  · exact .inr ⟨g, cap, cur, rfl, hg, (hb g rfl).trans hh, r⟩
theorem map_block {R : Value → Option (MD × List MemPlace)} {b n : Nat} {D : MD} (h : w.ownsMap P K R b n D) (hb : w'.heap[b]? = w.heap[b]?) : w'.ownsMap P K R b n D := by
  obtain ⟨es, clock, h1, h2⟩ := h
  exact ⟨es, clock, hb.trans h1, h2⟩
/-- An arena stays, where nothing of its own has turned. -/
theorem Ar.kept (h : Ar P NT K E T kf w Z st mp v xs qs) (hb : ∀ b, Z b → w'.heap[b]? = w.heap[b]?) (hs : w.heap.size ≤ w'.heap.size) : Ar P NT K E T kf w' Z st mp v xs qs := by
  obtain ⟨D, hD, hm⟩ := h.map
  exact ⟨(hb _ h.zst).trans h.box, own_block h.row fun b e => hb b (h.zv b e).1, h.ql, fun j x q hx hq => (h.rd j x q hx hq).kept fun b hl e => hb b (h.own j x q b hx hq hl e).1, h.own, ⟨D, map_block hD (hb _ h.zmp.1), hm⟩, h.zst, h.zmp, h.zv, fun b hz => Nat.lt_of_lt_of_le (h.zlt b hz) hs, h.ok⟩
theorem Ar.ext (h : Ar P NT K E T kf w Z st mp v xs qs) (hb : Below w.heap.size w w') : Ar P NT K E T kf w' Z st mp v xs qs :=
  h.kept (fun b hz => hb.block b (h.zlt b hz)) hb.size
theorem Ar.turn {F : Nat → Prop} (h : Ar P NT K E T kf w Z st mp v xs qs) (ht : Turn F w w') (hd : ∀ b, Z b → ¬ F b) : Ar P NT K E T kf w' Z st mp v xs qs :=
  h.kept (fun b hz => ht.block b (h.zlt b hz) (hd b hz)) ht.size
theorem Ar.drewN (h : Ar P NT K E T kf w Z st mp v xs qs) (n : Nat) : Ar P NT K E T kf (w.drewN n) Z st mp v xs qs := h.kept (fun _ _ => rfl) (Nat.le_refl _)
/-- The row reads. -/
theorem Ar.rows (h : Ar P NT K E T kf w Z st mp v xs qs) : ∃ A c, v = .slice A xs.length c ∧ NdA w A xs.length c xs := by
  obtain ⟨A, c, rfl, hs⟩ := SlA.owned h.row
  exact ⟨A, c, rfl, qs, h.ql, hs, h.rd⟩
/-- One node more. -/
theorem Ar.push (h : Ar P NT K E T kf w Z st mp v xs qs) {v' q : Value} {x : ND} {D : MD} (hok : Okay (xs ++ [x]))
    (box : w'.heap[st]? = some (.cells #[v', .map (some mp)] T (0, 0))) (row : w'.ownsRow 0 NT 4 v' (xs.length + 1) (nds xs qs ++ x.cells q)) (hv : v'.ownBlock = v.ownBlock ∨ ∀ b, v'.ownBlock = some b → w.heap.size ≤ b ∧ b < w'.heap.size)
    (hq : In1 w' q x.l) (hqn : x.l ≠ [] → ∀ b, q.ownBlock = some b → w.heap.size ≤ b ∧ b < w'.heap.size ∧ v'.ownBlock ≠ some b) (map : w'.ownsMap P K (plainElem P E) mp (xs.length + 1) D) (hm : MapOk kf (xs ++ [x]) D)
    (hl : ∀ b, Z b → b ≠ st → b ≠ mp → v.ownBlock ≠ some b → w'.heap[b]? = w.heap[b]?) (hs : w.heap.size ≤ w'.heap.size) :
    Ar P NT K E T kf w' (fun b => Z b ∨ (w.heap.size ≤ b ∧ b < w'.heap.size)) st mp v' (xs ++ [x]) (qs ++ [q]) := by
  have hlt := h.zlt
  have h1 := hlt _ h.zst; have h2 := hlt _ h.zmp.1
  refine ⟨box, by rw [nds_snoc h.ql, List.length_append]; exact row, by simp [h.ql], fun j y p hy hp => ?_, fun j y p b hy hp hne hb => ?_, ⟨D, by rw [List.length_append]; exact map, hm⟩, .inl h.zst, ⟨.inl h.zmp.1, h.zmp.2⟩, fun b hb => ?_, fun b hb => ?_, hok⟩
  · rcases Nat.lt_or_ge j xs.length with hj | hj
    · rw [List.getElem?_append_left hj] at hy
      rw [List.getElem?_append_left (by rw [h.ql]; exact hj)] at hp
      refine (h.rd j y p hy hp).kept fun b hne e => ?_
      obtain ⟨z, z1, z2, z3⟩ := h.own j y p b hy hp hne e
      exact hl b z z1 z2 z3
    · rw [List.getElem?_append_right hj] at hy
      rw [List.getElem?_append_right (by rw [h.ql]; exact hj), h.ql] at hp
      rcases hk : j - xs.length with _ | k
      · rw [hk] at hy hp
        injection hy with hy; injection hp with hp
        subst hy; subst hp
        exact hq
      · rw [hk] at hy; simp at hy
  · rcases Nat.lt_or_ge j xs.length with hj | hj
    · rw [List.getElem?_append_left hj] at hy
      rw [List.getElem?_append_left (by rw [h.ql]; exact hj)] at hp
      obtain ⟨z, z1, z2, z3⟩ := h.own j y p b hy hp hne hb
      refine ⟨.inl z, z1, z2, fun e => ?_⟩
      rcases hv with hv | hv
      · exact z3 (hv ▸ e)
      · have := (hv b e).1; have := hlt b z; omega
    · rw [List.getElem?_append_right hj] at hy
      rw [List.getElem?_append_right (by rw [h.ql]; exact hj), h.ql] at hp
      rcases hk : j - xs.length with _ | k
      · rw [hk] at hy hp
        injection hy with hy; injection hp with hp
        subst hy; subst hp
        obtain ⟨a1, a2, a3⟩ := hqn hne b hb
        exact ⟨.inr ⟨a1, a2⟩, by omega, by omega, a3⟩
      · rw [hk] at hy; simp at hy
  · rcases hv with hv | hv
    · obtain ⟨z, z1, z2⟩ := h.zv b (hv ▸ hb)
      exact ⟨.inl z, z1, z2⟩
    · obtain ⟨a1, a2⟩ := hv b hb
      exact ⟨.inr ⟨a1, a2⟩, by omega, by omega⟩
  · rcases hb with hb | hb
    · exact Nat.lt_of_lt_of_le (hlt b hb) hs
    · exact hb.2
end
end Go.KK

/- term: whether a node may be. -/
namespace Go.Proofs.YtfmkniakfgpgjaaDoor
open Go.RowKit Go.KK Go.Shelf
set_option linter.unusedVariables false
set_option linter.unusedSimpArgs false

/-- The program's arena, at block st. -/
abbrev ArP (w : World) (Z : Nat → Prop) (st mp : Nat) (v : Value) (xs : List ND) (qs : List Value) : Prop := Ar Tryd.prog 60 9 3 85 keyP w Z st mp v xs qs
/-- What is read of an arena. -/
structure ArV (w : World) (T : TypeId) (st : Nat) (xs : List ND) : Prop where
  go : ∃ A c m, w.heap[st]? = some (.cells #[.slice A xs.length c, m] T (0, 0)) ∧ NdA w A xs.length c xs
  ok : Okay xs
theorem Ar.v {NT K E T : TypeId} {kf : ND → List UInt8} {w : World} {Z : Nat → Prop} {st mp : Nat} {v : Value} {xs : List ND} {qs : List Value} (h : Ar Tryd.prog NT K E T kf w Z st mp v xs qs) : ArV w T st xs := by
  obtain ⟨A, c, rfl, hn⟩ := h.rows
  exact ⟨⟨A, c, _, h.box, hn⟩, h.ok⟩
theorem ArV.lt {w : World} {T : TypeId} {st : Nat} {xs : List ND} (h : ArV w T st xs) : st < w.heap.size := by
  obtain ⟨A, c, m, hb, _⟩ := h.go
  exact (Array.getElem?_eq_some_iff.1 hb).1
theorem ArV.ext {w w' : World} {T : TypeId} {st : Nat} {xs : List ND} (h : ArV w T st xs) (hb : Below w.heap.size w w') : ArV w' T st xs := by
  have hlt := h.lt
  obtain ⟨⟨A, c, m, h1, h2⟩, h3⟩ := h
  exact ⟨⟨A, c, m, (hb.block st hlt).trans h1, h2.ext hb⟩, h3⟩
theorem ArV.parts {w : World} {T : TypeId} {st : Nat} {xs : List ND} (h : ArV w T st xs) : ∃ A c m, w.cell? ⟨st, 0, none⟩ = some (.slice A xs.length c) ∧ w.cell? ⟨st, 1, none⟩ = some m ∧ NdA w A xs.length c xs := by
  obtain ⟨A, c, m, h1, h2⟩ := h.go
  exact ⟨A, c, m, cell_of_row w st 0 _ T (0, 0) h1, cell_of_row w st 1 _ T (0, 0) h1, h2⟩
theorem has_any (st : Nat) (xs : List ND) (t : Int) (w : World) (h : ArV w 85 st xs) :
    Calls Tryd.prog 54 #[.pointer (some ⟨st, 0, none⟩), .int .i64 t] w fun e w' => e = .returned (.bool (hasB xs t)) ∧ w' = w := by
  obtain ⟨A, c, m, h0, h1, hn⟩ := h.parts
  have HN := hid hn
  unfold hasB
  clear hn h
  by_cases ht : 0 ≤ t
  · go_enter Tryd.func54, Tryd.ntmps54
    go_wp2
    go_ret
    exact ⟨by simp [ht], rfl⟩
  · go_enter Tryd.func54, Tryd.ntmps54
    go_wp2
    go_ret
    exact ⟨by rw [decide_eq_false (by omega : ¬ 0 ≤ t)]; rfl, rfl⟩
/-- How many parts, as the program says it. -/
def arP (o : Int) : Int := match arN o with | some k => (k : Nat) | none => if o == 3 then -1 else -2
theorem arP_out {o : Int} (h : o < 1 ∨ 13 ≤ o) : arP o = -2 := by
  have : arN o = none := by
    unfold arN
    split <;> first | omega | rfl
  unfold arP
  rw [this, show (o == 3) = false from beq_eq_false_iff_ne.2 (by omega)]; rfl
set_option maxHeartbeats 4000000 in
theorem arity_any (o : Int) (w : World) :
    Calls Tryd.prog 68 #[.int .i64 o] w fun e w' => e = .returned (.int .i64 (arP o)) ∧ Below w.heap.size w w' := by
  by_cases h1 : o < 1
  · have HE := hid (arP_out (.inl h1))
    go_enter Tryd.func68, Tryd.ntmps68
    go_wp2
    go_ret
    exact ⟨by rw [HE.out]; rfl, (Below.refl _ _).alloc (Nat.le_refl _) _⟩
  by_cases h2 : 13 ≤ o
  · have HE := hid (arP_out (.inr h2))
    go_enter Tryd.func68, Tryd.ntmps68
    go_wp2
    go_ret
    exact ⟨by rw [HE.out]; rfl, (Below.refl _ _).alloc (Nat.le_refl _) _⟩
  have h3 : o = 1 ∨ o = 2 ∨ o = 3 ∨ o = 4 ∨ o = 5 ∨ o = 6 ∨ o = 7 ∨ o = 8 ∨ o = 9 ∨ o = 10 ∨ o = 11 ∨ o = 12 := by omega
  clear h1 h2
  rcases h3 with rfl | rfl | rfl | rfl | rfl | rfl | rfl | rfl | rfl | rfl | rfl | rfl
  all_goals
    go_enter Tryd.func68, Tryd.ntmps68
    go_wp2
    go_ret
    exact ⟨rfl, (Below.refl _ _).alloc (Nat.le_refl _) _⟩
theorem may1_any (st b : Nat) (xs : List ND) (t : Int) (w : World) (h : ArV w 85 st xs) (hb : w.cell? ⟨b, 0, none⟩ = some (.pointer (some ⟨st, 0, none⟩))) :
    Calls Tryd.prog 69 #[.int .i64 t, .pointer (some ⟨b, 0, none⟩)] w fun e w' => e = .returned (.bool (!hasB xs t)) ∧ w' = w := by
  have H := hid h
  clear h
  go_enter Tryd.func69, Tryd.ntmps69
  go_wp2_with fail
  refine (has_any st xs t _ H.out).mono ?_
  rintro e w' ⟨rfl, hw⟩
  subst hw
  go_wp2_with fail
  go_ret
  exact ⟨rfl, rfl⟩
end Go.Proofs.YtfmkniakfgpgjaaDoor

/- term: whether a node may be, walked. -/
namespace Go.Proofs.YtfmkniakfgpgjaaDoor
open Go.RowKit Go.KK Go.Shelf
set_option linter.unusedVariables false
set_option linter.unusedSimpArgs false

theorem drop_get {α : Type} {l : List α} {j : Nat} {x : α} (h : l[j]? = some x) : l.drop j = x :: l.drop (j + 1) := by
  obtain ⟨hj, rfl⟩ := List.getElem?_eq_some_iff.1 h
  exact List.drop_eq_getElem_cons hj
set_option maxHeartbeats 1000000 in
theorem ixf_may (st b : Nat) (xs : List ND) (A : Option Addr) (n c : Nat) (l : List Int) (w : World) (h : ArV w 85 st xs) (hb : w.cell? ⟨b, 0, none⟩ = some (.pointer (some ⟨st, 0, none⟩))) (hl : SlA w 1 A n c (l.map (.int .i64))) (hn : n ≤ 2147483648) :
    Calls Tryd.prog 73 #[.slice A n c, .func (.func 69) #[] #[.pointer (some ⟨b, 0, none⟩)]] w fun e w' => (∃ k : Int, e = .returned (.int .i64 k) ∧ decide (0 ≤ k) = !l.all (hasB xs)) ∧ w' = w := by
  have H := hid h; have HB := hid hb; have HS := hid hl; have HL := hid hl.lenI
  clear h hb hl
  go_enter Tryd.func73, Tryd.ntmps73
  go_wp2
  go_loopw [8] (fun i wr => ∃ j : Nat, i = .int .i64 j ∧ j ≤ n ∧ Hid (l.all (hasB xs) = (l.drop j).all (hasB xs)) ∧ wr = w) (fun i _ => n - (intOf i).toNat)
  case atStart => exact ⟨0, rfl, by omega, hid rfl, rfl⟩
  case round =>
    obtain ⟨j, hi, hj, HJ, hw⟩ := hrel
    subst hi; subst hw
    by_cases hlt : j < n
    · obtain ⟨b1, o, z, rfl, hz, hc⟩ := HS.out.elemI hlt
      have HD := hid (drop_get hz); clear hz
      rcases hh : hasB xs z with _ | _
      · have HF := hid (show l.all (hasB xs) = false by rw [HJ.out, HD.out, List.all_cons, hh]; rfl)
        go_wp2_with (go_at_call 69; refine (may1_any st b xs z _ H.out HB.out).mono ?_; rintro e w' ⟨rfl, hw'⟩; subst hw'; rw [hh])
        go_ret
        exact ⟨⟨j, rfl, by rw [HF.out, decide_eq_true (by omega)]; rfl⟩, rfl⟩
      · have HF := hid (show l.all (hasB xs) = (l.drop (j + 1)).all (hasB xs) by rw [HJ.out, HD.out, List.all_cons, hh]; rfl)
        go_wp2_with (go_at_call 69; refine (may1_any st b xs z _ H.out HB.out).mono ?_; rintro e w' ⟨rfl, hw'⟩; subst hw'; rw [hh])
        go_roundw
        case rel => exact ⟨j + 1, by go_num, by omega, HF, by first | rfl | trivial⟩
        case measure => simp [intOf]; omega
    · have HF := hid (show l.all (hasB xs) = true by rw [HJ.out, List.drop_of_length_le (by have := HL.out; omega)]; rfl)
      go_wp2
      go_ret
      exact ⟨⟨-1, rfl, by rw [HF.out]; rfl⟩, rfl⟩
theorem ctf_may (st b : Nat) (xs : List ND) (A : Option Addr) (n c : Nat) (l : List Int) (w : World) (h : ArV w 85 st xs) (hb : w.cell? ⟨b, 0, none⟩ = some (.pointer (some ⟨st, 0, none⟩))) (hl : SlA w 1 A n c (l.map (.int .i64))) (hn : n ≤ 2147483648) :
    Calls Tryd.prog 51 #[.slice A n c, .func (.func 69) #[] #[.pointer (some ⟨b, 0, none⟩)]] w fun e w' => e = .returned (.bool (!l.all (hasB xs))) ∧ w' = w := by
  have HX := hid (ixf_may st b xs A n c l w h hb hl hn)
  clear h hb hl
  go_enter Tryd.func51, Tryd.ntmps51
  go_wp2_with fail
  refine HX.out.mono ?_
  rintro e w' ⟨⟨k, rfl, hk⟩, hw⟩
  subst hw
  have HK := hid hk
  clear hk
  go_wp2
  go_ret
  exact ⟨by rw [← HK.out]; rfl, rfl⟩

theorem len_eq (o : Int) (n : Nat) : lenB o n = !((arP o == -2) || (decide (0 ≤ arP o) && ((n : Int) != arP o))) := by
  unfold arP lenB
  rcases arN o with _ | k
  · by_cases h : o = 3
    · rw [h]; rfl
    · simp [h]
  · by_cases hk : n = k
    · subst hk
      simp
    · have h2 : ((n : Int) != (k : Int)) = true := bne_iff_ne.2 (by omega)
      have h3 : (n == k) = false := beq_eq_false_iff_ne.2 hk
      simp [h2, h3]
theorem str_none {s : ByteArray} (h : s.size = 0) : s = ⟨#[]⟩ := by
  obtain ⟨s⟩ := s
  have : s = #[] := Array.eq_empty_of_size_eq_zero h
  rw [this]
theorem none_yes {s : ByteArray} (h : s.size = 0) : s.toList.isEmpty = true := by rw [str_none h]; simp
theorem none_no {s : ByteArray} (h : ¬ s.size = 0) : s.toList.isEmpty = false := by
  have h1 : (s.toList == (⟨#[]⟩ : ByteArray).toList) = false := by
    rw [← beq_toListBytes, Bool.eq_false_iff]
    intro e
    rw [Go.MapKept.bytes_beq] at e
    rw [e] at h
    exact h rfl
  rcases hl : s.toList with _ | ⟨b, l⟩
  · rw [hl] at h1; simp at h1
  · rfl
set_option maxHeartbeats 8000000 in
set_option maxRecDepth 20000 in
theorem may_any (st : Nat) (xs : List ND) (x : ND) (A : Option Addr) (c : Nat) (w : World) (h : ArV w 85 st xs) (hl : SlA w 1 A x.l.length c (x.l.map (.int .i64))) :
    Calls Tryd.prog 48 #[.pointer (some ⟨st, 0, none⟩), .agg #[.int .i64 x.o, .int .i64 x.n, .string x.s, .slice A x.l.length c]] w fun e w' => e = .returned (.bool (mayB xs x)) ∧ Below w.heap.size w w' := by
  have H := hid h; have HS := hid hl
  have HM := hid (len_eq x.o x.l.length)
  have B0 := hid (show Below w.heap.size w ((w.alloc (.cells #[.pointer (some ⟨st, 0, none⟩)] 24)).alloc (.cells #[.int .i64 x.o, .int .i64 x.n, .string x.s, .slice A x.l.length c] 60)) from ((Below.refl _ _).alloc (Nat.le_refl _) _).alloc (by simp) _)
  have hu : mayB xs x = (lenB x.o x.l.length && decide (x.l.length ≤ 64) && decide (0 ≤ x.n) && decide (x.s.size ≤ 200) && (x.o == 1 || x.n == 0) && (x.o == 2 || x.s.size == 0) && x.l.all (hasB xs) && (x.o != 6 || opAt xs (x.l.getD 1 0) == 2)) := rfl
  have HU := hid hu
  have C0 := hid (show let W := (w.alloc (.cells #[.pointer (some ⟨st, 0, none⟩)] 24)).alloc (.cells #[.int .i64 x.o, .int .i64 x.n, .string x.s, .slice A x.l.length c] 60)
    W.cell? ⟨w.heap.size, 0, none⟩ = some (.pointer (some ⟨st, 0, none⟩)) ∧ W.cell? ⟨w.heap.size + 1, 0, none⟩ = some (.int .i64 x.o) ∧ W.cell? ⟨w.heap.size + 1, 1, none⟩ = some (.int .i64 x.n) ∧ W.cell? ⟨w.heap.size + 1, 2, none⟩ = some (.string x.s) ∧ W.cell? ⟨w.heap.size + 1, 3, none⟩ = some (.slice A x.l.length c) ∧ w.heap.size + 1 < W.heap.size by
      refine ⟨?_, ?_, ?_, ?_, ?_, by simp⟩
      · rw [World.cell?_alloc_old _ _ _ (by simp), World.cell?_alloc_at _ _ _ _ rfl]; rfl
      all_goals (rw [World.cell?_alloc_at _ _ _ _ (by simp)]; rfl))
  clear h hl hu
  go_enter Tryd.func48, Tryd.ntmps48
  go_wp2_with fail
  refine (arity_any x.o _).mono ?_
  rintro e1 w1 ⟨rfl, b1⟩
  have B1 := hid (B0.out.trans (b1.mono B0.out.size))
  obtain ⟨c0, c1, c2, c3, c4, hlt⟩ := C0.out
  have kp := (b1.cell (p := ⟨w.heap.size, 0, none⟩) (by simp only at hlt ⊢; omega)).trans c0
  have k0 := (b1.cell (p := ⟨w.heap.size + 1, 0, none⟩) hlt).trans c1
  have k1 := (b1.cell (p := ⟨w.heap.size + 1, 1, none⟩) hlt).trans c2
  have k2 := (b1.cell (p := ⟨w.heap.size + 1, 2, none⟩) hlt).trans c3
  have k3 := (b1.cell (p := ⟨w.heap.size + 1, 3, none⟩) hlt).trans c4
  have H1 := hid (H.out.ext B1.out)
  have HS1 := hid (HS.out.ext B1.out)
  clear b1 c0 c1 c2 c3 c4 hlt C0 B0 H HS
  generalize hK : arP x.o = K at *
  clear hK
  by_cases a1 : K = -2
  · have HF := hid (show mayB xs x = false by rw [HU.out, HM.out, a1]; rfl)
    subst a1
    go_wp2_with fail
    go_ret
    exact ⟨by rw [HF.out]; rfl, B1.out⟩
  have a1' : (K == -2) = false := beq_eq_false_iff_ne.2 a1
  by_cases a2 : 0 ≤ K ∧ (x.l.length : Int) ≠ K
  · have a2' : ((x.l.length : Int) != K) = true := bne_iff_ne.2 a2.2
    have HF := hid (show mayB xs x = false by rw [HU.out, HM.out, a1', decide_eq_true a2.1, a2']; rfl)
    have a3 := a2.1
    clear a2
    go_wp2_with fail
    go_ret
    exact ⟨by rw [HF.out]; rfl, B1.out⟩
  have HL := hid (show lenB x.o x.l.length = true by
    rw [HM.out, a1']
    by_cases h0 : 0 ≤ K
    · rw [show ((x.l.length : Int) != K) = false from by rw [bne_eq_false_iff_eq]; omega]; simp
    · rw [decide_eq_false h0]; rfl)
  have a2' : (0 ≤ K ∧ ((x.l.length : Int) != K) = false) ∨ K < 0 := by
    by_cases h0 : 0 ≤ K
    · exact .inl ⟨h0, by rw [bne_eq_false_iff_eq]; omega⟩
    · exact .inr (by omega)
  clear a1 a2
  by_cases a4 : 64 < x.l.length
  · have HF := hid (show mayB xs x = false by rw [HU.out, decide_eq_false (show ¬ x.l.length ≤ 64 by omega)]; simp)
    have a4' : (64 : Int) < (x.l.length : Int) := by omega
    rcases a2' with ⟨q1, q2⟩ | q1
    all_goals
      go_wp2_with fail
      go_ret
      exact ⟨by rw [HF.out]; rfl, B1.out⟩
  have a4' : ¬ (64 : Int) < (x.l.length : Int) := by omega
  by_cases a5 : x.n < 0
  · have HF := hid (show mayB xs x = false by rw [HU.out, decide_eq_false (show ¬ 0 ≤ x.n by omega)]; simp)
    rcases a2' with ⟨q1, q2⟩ | q1
    all_goals
      go_wp2_with fail
      go_ret
      exact ⟨by rw [HF.out]; rfl, B1.out⟩
  by_cases a6 : 200 < x.s.size
  · have HF := hid (show mayB xs x = false by rw [HU.out, decide_eq_false (show ¬ x.s.size ≤ 200 by omega)]; simp)
    have a6' : (200 : Int) < (x.s.size : Int) := by omega
    rcases a2' with ⟨q1, q2⟩ | q1
    all_goals
      go_wp2_with fail
      go_ret
      exact ⟨by rw [HF.out]; rfl, B1.out⟩
  have a6' : ¬ (200 : Int) < (x.s.size : Int) := by omega
  by_cases b1 : x.o ≠ 1 ∧ x.n ≠ 0
  · have b1a : (x.o != 1) = true := bne_iff_ne.2 b1.1
    have b1b : (x.n != 0) = true := bne_iff_ne.2 b1.2
    have HF := hid (show mayB xs x = false by rw [HU.out, beq_eq_false_iff_ne.2 b1.1, beq_eq_false_iff_ne.2 b1.2]; simp)
    clear b1
    rcases a2' with ⟨q1, q2⟩ | q1
    all_goals
      go_wp2_with fail
      go_ret
      exact ⟨by rw [HF.out]; rfl, B1.out⟩
  have b1' : (x.o != 1) = false ∨ ((x.o != 1) = true ∧ (x.n != 0) = false) := by
    by_cases h : x.o = 1
    · exact .inl (by rw [bne_eq_false_iff_eq]; exact h)
    · exact .inr ⟨bne_iff_ne.2 h, by rw [bne_eq_false_iff_eq]; omega⟩
  by_cases b2 : x.o ≠ 2 ∧ ¬ x.s.size = 0
  · have b2a : (x.o != 2) = true := bne_iff_ne.2 b2.1
    have b2b := none_no b2.2
    have HF := hid (show mayB xs x = false by rw [HU.out, beq_eq_false_iff_ne.2 b2.1, beq_eq_false_iff_ne.2 b2.2]; simp)
    clear b2
    rcases a2' with ⟨q1, q2⟩ | q1 <;> rcases b1' with b1' | ⟨b1', b1''⟩
    all_goals
      go_wp2_with fail
      go_ret
      exact ⟨by rw [HF.out]; rfl, B1.out⟩
  have b2' : (x.o != 2) = false ∨ ((x.o != 2) = true ∧ x.s.toList.isEmpty = true) := by
    by_cases h : x.o = 2
    · exact .inl (by rw [bne_eq_false_iff_eq]; exact h)
    · exact .inr ⟨bne_iff_ne.2 h, none_yes (by omega)⟩
  have HR := hid (show mayB xs x = (x.l.all (hasB xs) && (x.o != 6 || opAt xs (x.l.getD 1 0) == 2)) by
    have h1 : (x.o == 1 || x.n == 0) = true := by
      rcases Decidable.em (x.o = 1) with h | h
      · rw [h]; rfl
      · rw [show x.n = 0 by omega]; simp
    have h2 : (x.o == 2 || x.s.size == 0) = true := by
      rcases Decidable.em (x.o = 2) with h | h
      · rw [h]; rfl
      · rw [show x.s.size = 0 by omega]; simp
    rw [HU.out, HL.out, h1, h2, decide_eq_true (show x.l.length ≤ 64 by omega), decide_eq_true (show 0 ≤ x.n by omega), decide_eq_true (show x.s.size ≤ 200 by omega)]
    rfl)
  clear b1 b2
  have hlen : x.l.length ≤ 2147483648 := by omega
  rcases a2' with ⟨q1, q2⟩ | q1 <;> rcases b1' with b1' | ⟨b1', b1''⟩ <;> rcases b2' with b2' | ⟨b2', b2''⟩
  all_goals
    go_wp2_with fail
    refine (ctf_may st w.heap.size xs A _ c x.l _ H1.out kp HS1.out hlen).mono ?_
    rintro e2 w2 ⟨rfl, hw2⟩
    subst w2
    rcases hall : x.l.all (hasB xs) with _ | _
    · have HF := hid (show mayB xs x = false by rw [HR.out, hall]; rfl)
      clear hall
      go_wp2_with fail
      go_ret
      exact ⟨by rw [HF.out]; rfl, B1.out⟩
    · by_cases h6 : x.o = 6
      · have h6' : (x.o != 6) = false := by rw [bne_eq_false_iff_eq]; exact h6
        have hl3 : x.l.length = 3 := by
          have := HL.out
          rw [h6] at this
          simpa [lenB, arN] using this
        obtain ⟨bx, ox, z, hA, hz, hcz⟩ := HS1.out.elemI (k := 1) (by omega)
        have hhz : hasB xs z = true := List.all_eq_true.1 hall z (List.mem_of_getElem? hz)
        unfold hasB at hhz
        simp only [Bool.and_eq_true, decide_eq_true_eq] at hhz
        obtain ⟨hz0, hz1⟩ := hhz
        obtain ⟨j, rfl⟩ := Int.eq_ofNat_of_zero_le hz0
        obtain ⟨A', c', m', q0, qm, hnd⟩ := H1.out.parts
        obtain ⟨bn, on, y, Ay, cy, rfl, hy, y0, y1, y2, y3, -⟩ := hnd.at (j := j) (by omega)
        have HF := hid (show mayB xs x = (y.o == 2) by
          rw [HR.out, hall, h6, List.getD, hz]
          show (_ && opAt xs (j : Int) == 2) = _
          unfold opAt
          rw [Int.toNat_natCast, hy]
          rfl)
        subst hA
        clear hall hz hy hnd h6
        go_wp2_with fail
        go_quiet (fail)
        go_wp2
        go_ret
        exact ⟨by rw [HF.out]; rfl, below_drewN B1.out _⟩
      · have h6' : (x.o != 6) = true := bne_iff_ne.2 h6
        have HF := hid (show mayB xs x = true by rw [HR.out, hall, h6']; rfl)
        clear hall h6
        go_wp2_with fail
        go_quiet (fail)
        go_wp2
        go_ret
        exact ⟨by rw [HF.out]; rfl, below_drewN B1.out _⟩
end Go.Proofs.YtfmkniakfgpgjaaDoor

