/- Words for memory, of no program: a slice that reads as a list of cells (nil let in), its cuts, and an append of such a slice onto a row of the call's own. -/
import Derived.WalkKit
import Derived.WalkSpells
import Derived.WalkLawsBesides
import Derived.Maps.AppendAt
import Derived.Deep.AppendLies
import Derived.Deep.Draws
import Derived.Laws.BytesArg
import Derived.RegionTactic
import Derived.OwnWalk
namespace Go.KK
open Go.RowKit
set_option linter.unusedVariables false
set_option linter.unusedSimpArgs false

theorem hid {p : Prop} (h : p) : Hid p := h
theorem add_lit (b off k : Nat) : (⟨b, off, none⟩ : Addr).add k = ⟨b, off + k, none⟩ := by unfold Addr.add; split <;> simp_all

/-- The slice value '.slice A n c' holds the cells xs (size cells an element). -/
structure SlA (w : World) (size : Nat) (A : Option Addr) (n c : Nat) (xs : List Value) : Prop where
  nc : n ≤ c
  cm : c ≤ maxLen
  len : xs.length = n * size
  cells : ∀ j u, xs[j]? = some u → ∃ b off, A = some ⟨b, off, none⟩ ∧ w.cell? ⟨b, off + j, none⟩ = some u

section
variable {w w' : World} {size : Nat} {A : Option Addr} {n c : Nat} {xs : List Value}
theorem SlA.keep (h : SlA w size A n c xs) (hk : ∀ b o u, w.cell? ⟨b, o, none⟩ = some u → w'.cell? ⟨b, o, none⟩ = some u) : SlA w' size A n c xs :=
  ⟨h.nc, h.cm, h.len, fun j u hj => by
    obtain ⟨b, off, e, hc⟩ := h.cells j u hj
    exact ⟨b, off, e, hk _ _ _ hc⟩⟩
theorem SlA.ext (h : SlA w size A n c xs) (hb : Below w.heap.size w w') : SlA w' size A n c xs :=
  h.keep fun b o u hc => (hb.cell (p := ⟨b, o, none⟩) (block_lt_of_cell hc)).trans hc
theorem SlA.alloc (h : SlA w size A n c xs) (o : Obj) : SlA (w.alloc o) size A n c xs := h.ext ((Below.refl _ _).alloc (Nat.le_refl _) o)
theorem SlA.drew (h : SlA w size A n c xs) : SlA w.drew size A n c xs := h.keep fun _ _ _ hc => hc
theorem SlA.drewN (h : SlA w size A n c xs) (k : Nat) : SlA (w.drewN k) size A n c xs := h.keep fun _ _ _ hc => hc
theorem SlA.nil (w : World) (size : Nat) : SlA w size none 0 0 [] := ⟨Nat.le_refl _, Nat.zero_le _, by simp, fun j u h => by simp at h⟩
theorem SlA.zero (w : World) (size : Nat) (A : Option Addr) (c : Nat) (hc : c ≤ maxLen) : SlA w size A 0 c [] := ⟨Nat.zero_le _, hc, by simp, fun j u h => by simp at h⟩
theorem SlA.elem (h : SlA w 1 A n c xs) {k : Nat} (hk : k < n) : ∃ b off u, A = some ⟨b, off, none⟩ ∧ xs[k]? = some u ∧ w.cell? ⟨b, off + k, none⟩ = some u := by
  have hl : k < xs.length := by have := h.len; omega
  obtain ⟨b, off, e, hc⟩ := h.cells k xs[k] (List.getElem?_eq_getElem hl)
  exact ⟨b, off, _, e, List.getElem?_eq_getElem hl, hc⟩
theorem SlA.elemI {kd : IntKind} {l : List Int} (h : SlA w 1 A n c (l.map (.int kd))) {k : Nat} (hk : k < n) : ∃ b off x, A = some ⟨b, off, none⟩ ∧ l[k]? = some x ∧ w.cell? ⟨b, off + k, none⟩ = some (.int kd x) := by
  obtain ⟨b, off, u, e, hu, hc⟩ := h.elem hk
  rw [List.getElem?_map] at hu
  rcases hx : l[k]? with _ | x
  · rw [hx] at hu; cases hu
  · rw [hx] at hu
    injection hu with hu
    exact ⟨b, off, x, e, rfl, by rw [hc, ← hu]⟩
theorem SlA.lenI {kd : IntKind} {l : List Int} (h : SlA w 1 A n c (l.map (.int kd))) : l.length = n := by have := h.len; simpa using this
theorem SlA.of_own {base : Nat} {e : TypeId} {m : Nat} (h : w.ownsRow base e size (.slice A m c) n xs) : m = n ∧ SlA w size A m c xs := by
  rcases h.2 with ⟨e1, rfl⟩ | ⟨g, cap, cur, e1, hbg, hg, hnc, hcm, hcs, htake⟩
  · injection e1 with e1 e2 e3
    subst e1; subst e2; subst e3
    have hx : xs = [] := List.eq_nil_of_length_eq_zero (by simpa using h.1)
    subst hx
    exact ⟨rfl, SlA.nil _ _⟩
  · injection e1 with e1 e2 e3
    subst e1; subst e2; subst e3
    refine ⟨rfl, ⟨hnc, hcm, h.1, fun j u hj => ⟨g, 0, rfl, ?_⟩⟩⟩
    have := h.cells (g := g) rfl j u hj
    rwa [add_lit] at this
theorem own_shape {base : Nat} {e : TypeId} {v : Value} (h : w.ownsRow base e size v n xs) : ∃ A c, v = .slice A n c := by
  rcases h.2 with ⟨rfl, rfl⟩ | ⟨g, cap, cur, rfl, _⟩
  · exact ⟨_, _, rfl⟩
  · exact ⟨_, _, rfl⟩
/-- An owned row as a readable one, in one step. -/
theorem SlA.owned {base : Nat} {e : TypeId} {v : Value} (h : w.ownsRow base e size v n xs) : ∃ A c, v = .slice A n c ∧ SlA w size A n c xs := by
  obtain ⟨A, c, rfl⟩ := own_shape h
  exact ⟨A, c, rfl, (SlA.of_own h).2⟩
theorem SlA.cut_from (h : SlA w 1 A n c xs) {k : Nat} (hk : k ≤ n) : ∃ A', sliced A k n c 1 = .slice A' (n - k) (c - k) ∧ SlA w 1 A' (n - k) (c - k) (xs.drop k) := by
  have h1 := h.nc; have h2 := h.cm; have h3 := h.len
  refine ⟨_, rfl, ⟨by omega, by omega, by rw [List.length_drop, h.len]; omega, fun j u hj => ?_⟩⟩
  rw [List.getElem?_drop] at hj
  obtain ⟨b, off, rfl, hc⟩ := h.cells _ _ hj
  have hlt : k + j < xs.length := by
    rcases Nat.lt_or_ge (k + j) xs.length with hh | hh
    · exact hh
    · rw [List.getElem?_eq_none hh] at hj; cases hj
  have hne : c ≠ k := by omega
  refine ⟨b, off + k, ?_, by rw [Nat.add_assoc]; exact hc⟩
  simp [hne, add_lit]
end

section
variable {P : Program} (w : World)
/-- append(v, s...), v a row of the call's own, s whatever slice that reads: nil, empty or not. -/
theorem run_append_sl (base : Nat) (t ty e : TypeId) (i : TypeInfo) (z : Value) (size bytes : Nat) (ht : P.underlying t = some (.slice e)) (hi : P.info? e = some i) (hz : i.zero = some z)
    (hsize : i.size = size) (hby : i.bytes = bytes) (hzs : z.cells.size = size) (hsz : 0 < size)
    (v : Value) (n : Nat) (xs : List Value) (hown : w.ownsRow base e size v n xs)
    (A : Option Addr) (m c : Nat) (news : List Value) (hr : SlA w size A m c news) (h1 : ∀ u ∈ news, u.oneCell' = true)
    (h63 : n + m ≤ maxLen) (hbytes : (n + m) * bytes ≤ 140737488355328) (hbase : base ≤ w.heap.size) :
    ∃ v' w', (Builtin.append_ #[t, t] ty #[v, .slice A m c]).run P w = .ok v' w' ∧ w'.ownsRow base e size v' (n + m) (xs ++ news) ∧ w.grownBy w' v.ownBlock ∧
      (v'.ownBlock = v.ownBlock ∨ v'.ownBlock = some w.heap.size) := by
  rcases A with _ | ad
  · have hn : news = [] := by
      rcases news with _ | ⟨x, l⟩
      · rfl
      · obtain ⟨b, off, e, _⟩ := hr.cells 0 x rfl
        cases e
    subst hn
    have hm : m = 0 := by
      rcases Nat.eq_zero_or_pos m with h0 | h0
      · exact h0
      · have h2 := hr.len
        have h3 := Nat.mul_pos h0 hsz
        simp only [List.length_nil] at h2
        omega
    subst hm
    refine ⟨v, w, ?_, by simpa using hown, World.grownBy.refl w _, .inl rfl⟩
    rcases hown.2 with ⟨rfl, rfl⟩ | ⟨g, cap, cur, rfl, _, _, hnc, _⟩
    · simp [Builtin.append_, run_underlying ht, sizeOf, typeInfo, hi, Builtin.lenOf, Builtin.firstCells]
    · simp [Builtin.append_, run_underlying ht, sizeOf, typeInfo, hi, Builtin.lenOf, Builtin.firstCells, hnc, storeCells]
  · have hcells : ∀ j u, news[j]? = some u → w.cell? (ad.add j) = some u := by
      intro j u hu
      obtain ⟨b, off, e, hc⟩ := hr.cells j u hu
      injection e with e
      subst e
      rw [add_lit]
      exact hc
    obtain ⟨v', w', hrun, h2, h3, _, h5⟩ := run_append_own_at (P := P) w base t ty e i z size bytes ht hi hz hsize hby hzs hsz v n xs hown ad m c news hr.len hcells h1 h63 hbytes hbase
    exact ⟨v', w', hrun, h2, h3, h5⟩

theorem wpList_append_sl {ops : Array Oper} {rest : List Oper} {o : Oper} {a : Act} {Q : Exit → Act → World → Prop} (hgd : o.guard = none) (s x : Operand) (t : TypeId)
    (ho : o.op = .call { callee := .builtin .append, args := #[s, x], argTypes := #[t, t] })
    (base : Nat) (e : TypeId) (i : TypeInfo) (z : Value) (size bytes : Nat) (ht : P.underlying t = some (.slice e)) (hi : P.info? e = some i) (hz : i.zero = some z)
    (hsize : i.size = size) (hby : i.bytes = bytes) (hzs : z.cells.size = size) (hsz : 0 < size)
    (v : Value) (n : Nat) (xs : List Value) (hs : a.eval s = v) (hown : w.ownsRow base e size v n xs)
    (A : Option Addr) (m c : Nat) (news : List Value) (hx : a.eval x = .slice A m c) (hr : SlA w size A m c news) (h1 : ∀ u ∈ news, u.oneCell' = true)
    (h63 : n + m ≤ maxLen) (hbytes : (n + m) * bytes ≤ 140737488355328) (hbase : base ≤ w.heap.size)
    (h : ∀ v' w', w'.ownsRow base e size v' (n + m) (xs ++ news) → w.grownBy w' v.ownBlock → (v'.ownBlock = v.ownBlock ∨ v'.ownBlock = some w.heap.size) → wpList P ops Q rest (a.put o.dst v') w') :
    wpList P ops Q (o :: rest) a w := by
  refine wpList_plain hgd fun K hK => ?_
  obtain ⟨v', w', hr, h2, h3, h5⟩ := run_append_sl (P := P) w base t o.type e i z size bytes ht hi hz hsize hby hzs hsz v n xs hown A m c news hr h1 h63 hbytes hbase
  unfold Oper.wp execOp
  simp only [ho, resolve, invoke, builtin, Sem.run_bind, Sem.run_pure, Result.andThen_ok, List.map_toArray, List.map_cons, List.map_nil, hs, hx, hr]
  exact hK _ _ (h v' w' h2 h3 h5)

/-- append(nil, s...): a row of its own; nothing that was there has turned. -/
theorem wpList_append_new {ops : Array Oper} {rest : List Oper} {o : Oper} {a : Act} {Q : Exit → Act → World → Prop} (hgd : o.guard = none) (s x : Operand) (t : TypeId)
    (ho : o.op = .call { callee := .builtin .append, args := #[s, x], argTypes := #[t, t] })
    (e : TypeId) (i : TypeInfo) (z : Value) (size bytes : Nat) (ht : P.underlying t = some (.slice e)) (hi : P.info? e = some i) (hz : i.zero = some z)
    (hsize : i.size = size) (hby : i.bytes = bytes) (hzs : z.cells.size = size) (hsz : 0 < size)
    (hs : a.eval s = .slice none 0 0)
    (A : Option Addr) (m c : Nat) (news : List Value) (hx : a.eval x = .slice A m c) (hr : SlA w size A m c news) (h1 : ∀ u ∈ news, u.oneCell' = true)
    (h63 : m ≤ maxLen) (hbytes : m * bytes ≤ 140737488355328)
    (h : ∀ v' w', w'.ownsRow w.heap.size e size v' m news → RowKit.Below w.heap.size w w' → wpList P ops Q rest (a.put o.dst v') w') :
    wpList P ops Q (o :: rest) a w := by
  refine wpList_append_sl w hgd s x t ho w.heap.size e i z size bytes ht hi hz hsize hby hzs hsz _ 0 [] hs (World.ownsRow_nil _ _ _ _) A m c news hx hr h1 (by simpa using h63) (by simpa using hbytes) (Nat.le_refl _) ?_
  intro v' w' hown hg _
  refine h v' w' (by simpa using hown) ?_
  exact (RowKit.Below.refl _ _).grown hg (Nat.le_refl _) (by simp [Value.ownBlock])

/-- string(s) of bytes that read. -/
theorem run_str_sl (src dst e : TypeId) (hs : P.underlying src = some (.slice e)) (he : P.underlying e = some (.int .u8)) (hd : P.underlying dst = some .string)
    (A : Option Addr) (n c : Nat) (l : List Int) (h : SlA w 1 A n c (l.map (Value.int .u8))) :
    (convert src dst (.slice A n c)).run P w = .ok (.string (strOfNums l)) w := by
  have hln : l.length = n := by have := h.len; simpa using this
  rcases l with _ | ⟨x, l⟩
  · have hn : n = 0 := by simpa using hln.symm
    subst hn
    rw [run_convert_bytes_string w src dst e _ 0 c hs he hd]
    rcases A with _ | ad
    · simp [Conv.bytesToString]; rfl
    · rw [run_bytesToString w ad 0 c [] (by simp [loadCells, loadCellsFrom])]; rfl
  · obtain ⟨b, off, rfl, _⟩ := h.cells 0 (Value.int .u8 x) rfl
    refine run_convert_bytes_arg (P := P) w src e hs he b off n c (x :: l) hln (fun i hi => ?_) dst hd
    have hl : i < (x :: l).length := by omega
    obtain ⟨b', off', e', hc⟩ := h.cells i (Value.int .u8 (x :: l)[i]) (by rw [List.getElem?_map, List.getElem?_eq_getElem hl]; rfl)
    injection e' with e'
    injection e' with e1 e2
    subst e1; subst e2
    rw [hc, List.getD, List.getElem?_eq_getElem hl]
    rfl
theorem run_str_slN (src dst e : TypeId) (hs : P.underlying src = some (.slice e)) (he : P.underlying e = some (.int .u8)) (hd : P.underlying dst = some .string)
    (A : Option Addr) (n c : Nat) (l : List Int) (h : SlA w 1 A n c (l.map (Value.int .u8))) (k : Nat) :
    (convert src dst (.slice A n c)).run P (w.drewN k) = .ok (.string (strOfNums l)) (w.drewN k) :=
  run_str_sl (w.drewN k) src dst e hs he hd A n c l (h.drewN k)
end

theorem ints_one (k : IntKind) (l : List Int) : ∀ u ∈ l.map (Value.int k), u.oneCell' = true := by
  intro u hu
  obtain ⟨x, _, rfl⟩ := List.mem_map.1 hu
  rfl

theorem own_mono {w : World} {base base' : Nat} {e : TypeId} {size : Nat} {v : Value} {n : Nat} {xs : List Value} (h : w.ownsRow base e size v n xs) (hb : base' ≤ base) : w.ownsRow base' e size v n xs := by
  refine ⟨h.1, ?_⟩
  rcases h.2 with h2 | ⟨g, cap, cur, e1, hbg, r⟩
  · exact .inl h2
  · exact .inr ⟨g, cap, cur, e1, Nat.le_trans hb hbg, r⟩
theorem ofInt_i64 (a : Nat) (ha : a < 9223372036854775808) : (BitVec.ofInt 64 (a : Int)).toNat = a := by
  rw [BitVec.ofInt_natCast, BitVec.toNat_ofNat]; exact Nat.mod_eq_of_lt (by omega)
theorem i64_and (a b : Int) (h1 : 0 ≤ a) (h2 : a < 9223372036854775808) (h3 : 0 ≤ b) (h4 : b < 9223372036854775808) : bits .and .i64 a b = ((a.toNat &&& b.toNat : Nat) : Int) := by
  obtain ⟨a, rfl⟩ := Int.eq_ofNat_of_zero_le h1
  obtain ⟨b, rfl⟩ := Int.eq_ofNat_of_zero_le h3
  have hx : a &&& b < 2 ^ 63 := Nat.and_lt_two_pow _ (by omega)
  show IntKind.i64.wrap ((BitVec.ofInt 64 (a : Int) &&& BitVec.ofInt 64 (b : Int)).toNat : Int) = _
  rw [BitVec.toNat_and, ofInt_i64 a (by omega), ofInt_i64 b (by omega), IntKind.wrap_i64, Int.toNat_natCast, Int.toNat_natCast]
  omega
theorem one_int (k : IntKind) (x : Int) : ∀ u ∈ [Value.int k x], u.oneCell' = true := ints_one k [x]

/-- 'Below' behind an append by the law above, the row the call's own. -/
theorem below_append {B : Nat} {a w w' : World} {v : Value} {base e size n : Nat} {xs : List Value} (h : Below B a w) (hg : w.grownBy w' v.ownBlock) (hown : w.ownsRow base e size v n xs) (hbase : B ≤ base) (hB : B ≤ w.heap.size) : Below B a w' :=
  h.grown hg hB (fun k hk => Nat.le_trans hbase (hown.lt k hk).1)

theorem grown_of_below {w w' : World} (h : Below w.heap.size w w') (row : Option Nat) : w.grownBy w' row := ⟨h.os, h.tape, h.output, h.size, fun i hi _ => h.block i hi⟩
/-- A row of the call's own stays, where nothing that was there has turned. -/
theorem own_ext {w w' : World} {base : Nat} {e : TypeId} {size : Nat} {v : Value} {n : Nat} {xs : List Value} (h : w.ownsRow base e size v n xs) (hb : Below w.heap.size w w') : w'.ownsRow base e size v n xs := by
  refine h.kept (grown_of_below hb none) ?_
  cases v.ownBlock <;> simp

theorem take_step {α : Type} {L r : List α} {u : α} {j : Nat} (h : L = L.take j ++ u :: r) (hj : (L.take j).length = j) : L.take (j + 1) = L.take j ++ [u] ∧ L = L.take (j + 1) ++ r := by
  have e : L.take (j + 1) = L.take j ++ [u] := by
    have e1 : L.take (j + 1) = (L.take j ++ u :: r).take (j + 1) := congrArg (List.take (j + 1)) h
    rw [e1, List.take_append, hj, List.take_of_length_le (by omega), show j + 1 - j = 1 by omega]
    rfl
  exact ⟨e, by rw [e, List.append_assoc]; exact h⟩
theorem below_drew {B : Nat} {a w : World} (h : Below B a w) : Below B a w.drew := ⟨h.os, h.tape, h.output, h.size, h.block⟩
theorem below_drewN {B : Nat} {a w : World} (h : Below B a w) (n : Nat) : Below B a (w.drewN n) := ⟨h.os, h.tape, h.output, h.size, h.block⟩
/-- A literal row of one cell. -/
theorem SlA.lit1 {w : World} {T : TypeId} (u : Value) : SlA (w.alloc (.cells #[u] T)) 1 (some ⟨w.heap.size, 0, none⟩) 1 1 [u] :=
  (SlA.of_own (World.ownsRow_lit (e := T) (base := 0) (size := 1) w #[u] 1 (Nat.zero_le _) (by unfold maxLen; omega) rfl)).2

end Go.KK
