/- Written by wip/tools/pack.py: the texts that FnExactBracedNormal needs, without what it does not need. No conditions. -/
import Derived.Test.YtffelpdefjkeaaaGreatDoorKBrN23
import Derived.Shelf.LaysM
import Derived.Shelf.Strconv.Itoa3
import Derived.Test.YtffelpdefjkeaaaGreatDoorKBrN1
import Derived.Test.YtffelpdefjkeaaaGreatDoorKBrN6
import Derived.Deep.CutRange
import Derived.Deep.CutBlock
namespace Go.Proofs.YtffelpdefjkeaaaGreatDoor
open Go.RowKit Go.Lib
/-- From w to w' only v's own block and new blocks changed; v' lies in v's block or in a new one. -/
structure Grb (w : World) (v : Value) (w' : World) (v' : Value) : Prop where
  grown : w.grownBy w' v.ownBlock
  at' : ∀ q, v'.ownBlock = some q → v.ownBlock = some q ∨ w.heap.size ≤ q
theorem Grb.trans {w w1 w2 : World} {v v1 v2 : Value} (h : Grb w v w1 v1) (k : Grb w1 v1 w2 v2) : Grb w v w2 v2 := by
  have hs := h.grown.size
  refine ⟨⟨k.grown.os.trans h.grown.os, k.grown.tape.trans h.grown.tape, k.grown.output.trans h.grown.output, Nat.le_trans h.grown.size k.grown.size, fun q h1 h2 => ?_⟩, fun q hq => ?_⟩
  · refine (k.grown.block q (by omega) (fun e => ?_)).trans (h.grown.block q h1 h2)
    rcases h.at' q e.symm with h3 | h3
    · exact h2 h3.symm
    · omega
  · rcases k.at' q hq with h3 | h3
    · exact h.at' q h3
    · exact .inr (by omega)
theorem Grb.of {w w' : World} (v : Value) (h : Below w.heap.size w w') : Grb w v w' v := ⟨⟨h.os, h.tape, h.output, h.size, fun q h1 _ => h.block q h1⟩, fun _ hq => .inl hq⟩
theorem Grb.below {base : Nat} {w w' : World} {v v' : Value} {n : Nat} {xs : List Value} {e : TypeId} {z : Nat} (h : Grb w v w' v') (ho : w.ownsRow base e z v n xs) (hb : base ≤ w.heap.size) : Below base w w' :=
  Below.grown (Below.refl base w) h.grown hb (fun q hq => (World.ownsRow.lt ho q hq).1)
theorem Grb.keep {w w' : World} {v v' : Value} {q : Nat} (h : Grb w v w' v') (h1 : q < w.heap.size) (h2 : v.ownBlock ≠ some q) : w'.heap[q]? = w.heap[q]? := h.grown.block q h1 (fun e => h2 e.symm)
theorem Grb.of_at {w w' : World} {v v' : Value} (h : w.grownBy w' v.ownBlock) (ha : v'.ownBlock = v.ownBlock ∨ v'.ownBlock = some w.heap.size) : Grb w v w' v' :=
  ⟨h, fun q hq => by
    rcases ha with h1 | h1
    · exact .inl (h1 ▸ hq)
    · rw [hq] at h1
      exact .inr (by have := Option.some.inj h1; omega)⟩
/-- A row of bytes, its slice told with its length n. -/
def BufN (base : Nat) (w : World) (M : List UInt8) (n : Nat) (v : Value) : Prop := n = M.length ∧ w.ownsRow base 5 1 v n (Lib.strCells ⟨M.toArray⟩)
theorem BufN.below {base n : Nat} {w w' : World} {M : List UInt8} {v : Value} (h : BufN base w M n v) (hb : Below w.heap.size w w') : BufN base w' M n v := ⟨h.1, ownsRow_carry h.2 (fun q hq => hb.block q (World.ownsRow.lt h.2 q hq).2)⟩
theorem BufN.lt {base n : Nat} {w : World} {M : List UInt8} {v : Value} (h : BufN base w M n v) {q : Nat} (hq : v.ownBlock = some q) : base ≤ q ∧ q < w.heap.size := World.ownsRow.lt h.2 q hq
/-- Bytes written out, appended. -/
theorem bufN_lit (wx : World) (base n c k : Nat) (A : Option Addr) (M bs : List UInt8) (cs : List Value) (h : BufN base wx M n (.slice A n c)) (hk : k = bs.length) (hcs : cs = Lib.strCells ⟨bs.toArray⟩) (hsz : n + k ≤ 2147483648) (hk2 : k ≤ 1048576) (hbase : base ≤ wx.heap.size) :
    ∃ (A' : Option Addr) (c' : Nat) (w' : World), (Builtin.append_ #[37, 37] 37 #[.slice A n c, .slice (some ⟨wx.heap.size, 0, none⟩) k k]).run Tryz.prog (wx.alloc (.cells cs.toArray 5)) = .ok (.slice A' (n + k) c') w' ∧ BufN base w' (M ++ bs) (n + k) (.slice A' (n + k) c') ∧ Grb wx (.slice A n c) w' (.slice A' (n + k) c') := by
  obtain ⟨i0, hi, hz0, hz1, hz2⟩ := info_parts (show (Tryz.prog.info? 5).map (fun i => (i.zero, i.size, i.bytes)) = some (some (.int .u8 0), 1, 1) from by kernel_rfl)
  obtain ⟨hn, h⟩ := h
  have hb : Below wx.heap.size wx (wx.alloc (.cells cs.toArray 5)) := bel
  have h' := ownsRow_carry h (fun q hq => hb.block q (World.ownsRow.lt h q hq).2)
  obtain ⟨v', w', hr, h2, h3, h5⟩ := run_append_row (P := Tryz.prog) (wx.alloc (.cells cs.toArray 5)) 37 37 base 5 i0 (.int .u8 0) 1 1 Tryz.underlying37 hi hz0 hz1 hz2 rfl (by decide) (.slice A n c) n _ h' wx.heap.size k _ _ (own_lit hk hk2 hcs) (cells_one bs) (by unfold maxLen; omega) (by omega) (by simp; omega)
  obtain ⟨A', c', rfl⟩ := own_form h2
  refine ⟨A', c', w', hr, ⟨by rw [List.length_append, ← hn, ← hk], ?_⟩, (Grb.of _ hb).trans (Grb.of_at h3 h5)⟩
  rw [strCells_list] at h2
  exact h2
/-- A text appended: where the row lies then. -/
theorem run_str_at (w : World) (base n c : Nat) (A : Option Addr) (xs : List Value) (hown : w.ownsRow base 5 1 (.slice A n c) n xs) (s : ByteArray) (hsz : n + s.size ≤ 2147483648) (hbase : base ≤ w.heap.size) :
    ∃ (A' : Option Addr) (c' : Nat) (w' : World), (Builtin.append_ #[37, 9] 37 #[.slice A n c, .string s]).run Tryz.prog w = .ok (.slice A' (n + s.size) c') w' ∧ w'.ownsRow base 5 1 (.slice A' (n + s.size) c') (n + s.size) (xs ++ Lib.strCells s) ∧ Grb w (.slice A n c) w' (.slice A' (n + s.size) c') := by
  obtain ⟨i0, hi, hz0, hz1, hz2⟩ := info_parts (show (Tryz.prog.info? 5).map (fun i => (i.zero, i.size, i.bytes)) = some (some (.int .u8 0), 1, 1) from by kernel_rfl)
  obtain ⟨v', w', hr, h2, h3, h4⟩ := run_append_own_string (P := Tryz.prog) w base 37 9 37 5 i0 Tryz.underlying37 Tryz.underlying9 hi hz0 hz1 hz2 (.slice A n c) n xs hown s (by unfold maxLen; omega) (by omega) hbase
  obtain ⟨A', c', rfl⟩ := own_form h2
  refine ⟨A', c', w', hr, h2, h3, ?_⟩
  rcases hown.2 with ⟨e1, e2⟩ | ⟨g, cap, cur, e1, hb, hg, hnc, hcm, hcs, ht⟩
  · obtain ⟨v2, w2, hr2, k2, -⟩ := run_append_own_string (P := Tryz.prog) w w.heap.size 37 9 37 5 i0 Tryz.underlying37 Tryz.underlying9 hi hz0 hz1 hz2 (.slice A n c) n xs ⟨hown.1, .inl ⟨e1, e2⟩⟩ s (by unfold maxLen; omega) (by omega) (Nat.le_refl _)
    rw [hr] at hr2
    simp only [Result.ok.injEq] at hr2
    obtain ⟨rfl, rfl⟩ := hr2
    exact fun q hq => .inr (World.ownsRow.lt k2 q hq).1
  · cases e1
    by_cases hroom : n + s.size ≤ c
    · have hr2 := run_append_room_string (P := Tryz.prog) w 37 9 37 5 i0 Tryz.underlying37 Tryz.underlying9 hi hz1 g n c cur hg s hroom (by omega)
      rw [hr] at hr2
      simp only [Result.ok.injEq, Value.slice.injEq] at hr2
      obtain ⟨⟨rfl, -, rfl⟩, -⟩ := hr2
      exact fun q hq => .inl hq
    · have hr2 := run_append_grow_string (P := Tryz.prog) w 37 9 37 5 i0 (.int .u8 0) Tryz.underlying37 Tryz.underlying9 hi hz0 ⟨g, 0, none⟩ n c xs (by rw [hz1]; exact hown.1) (by
        intro j u hu
        rw [← ht, List.getElem?_take] at hu
        rw [add_at, cell_of_row w g _ cur _ _ hg]
        split at hu
        · simpa using hu
        · cases hu) s (by omega) (by omega) (by rw [hz2]; exact growslice_fits (by omega) (by omega))
      rw [hr] at hr2
      simp only [Result.ok.injEq, Value.slice.injEq] at hr2
      obtain ⟨⟨rfl, -, rfl⟩, -⟩ := hr2
      intro q hq
      simp [Value.ownBlock] at hq
      exact .inr (by omega)
theorem bufN_str (w : World) (base n c : Nat) (A : Option Addr) (M : List UInt8) (s : ByteArray) (h : BufN base w M n (.slice A n c)) (hsz : n + s.size ≤ 2147483648) (hbase : base ≤ w.heap.size) :
    ∃ (A' : Option Addr) (c' : Nat) (w' : World), (Builtin.append_ #[37, 9] 37 #[.slice A n c, .string s]).run Tryz.prog w = .ok (.slice A' (n + s.size) c') w' ∧ BufN base w' (M ++ s.data.toList) (n + s.size) (.slice A' (n + s.size) c') ∧ Grb w (.slice A n c) w' (.slice A' (n + s.size) c') := by
  obtain ⟨A', c', w', hr, h2, h3⟩ := run_str_at w base n c A _ h.2 s hsz hbase
  rw [strCells_list] at h2
  exact ⟨A', c', w', hr, ⟨by rw [List.length_append, ← h.1, Array.length_toList]; rfl, h2⟩, h3⟩
theorem wpList_append_to {P : Program} {w : World} {ops : Array Oper} {rest : List Oper} {o : Oper} {a : Act} {Q : Exit → Act → World → Prop} (hgd : o.guard = none) (s x : Operand) (t t2 : TypeId)
    (ho : o.op = .call { callee := .builtin .append, args := #[s, x], argTypes := #[t, t2] }) (v u v' : Value) (w' : World) (hs : a.eval s = v) (hx : a.eval x = u)
    (hr : (Builtin.append_ #[t, t2] o.type #[v, u]).run P w = .ok v' w') (h : wpList P ops Q rest (a.put o.dst v') w') : wpList P ops Q (o :: rest) a w :=
  wpList_plain hgd fun K hK => by
    unfold Oper.wp execOp
    simp only [ho, resolve, invoke, builtin, Sem.run_bind, Sem.run_pure, Result.andThen_ok, List.map_toArray, List.map_cons, List.map_nil, hs, hx, hr]
    exact hK _ _ h
def boolL (f : Bool) : List UInt8 := if f then litT else litF
set_option maxHeartbeats 2000000 in
theorem c_AppendBoolI (f : Bool) (w : World) (base n c : Nat) (A : Option Addr) (M : List UInt8) (h : BufN base w M n (.slice A n c)) (hsz : n ≤ 1073741824) (hbase : base ≤ w.heap.size) :
    Calls Tryz.prog 115 #[.slice A n c, .bool f] w fun e w' => ∃ (A' : Option Addr) (c' : Nat), e = .returned (.slice A' (n + (boolL f).length) c') ∧ BufN base w' (M ++ (boolL f)) (n + (boolL f).length) (.slice A' (n + (boolL f).length) c') ∧ Grb w (.slice A n c) w' (.slice A' (n + (boolL f).length) c') := by
  cases f with
  | true =>
    obtain ⟨A5, c5, w5, hr5, h5, g5⟩ := bufN_str w base n c A M ⟨#[116, 114, 117, 101]⟩ h (by show n + 4 ≤ _; omega) hbase
    have H5 := Lib.hid (And.intro h5 g5)
    clear h h5 g5
    go_enter Tryz.func115, Tryz.ntmps115
    go_wp2_with (at_builtin; refine wpList_append_to rfl (.tmp 6) (.const (.string ⟨#[116, 114, 117, 101]⟩)) 37 9 rfl _ _ _ w5 rfl rfl hr5 ?_)
    go_ret
    exact ⟨A5, c5, rfl, H5.out.1, H5.out.2⟩
  | false =>
    obtain ⟨A5, c5, w5, hr5, h5, g5⟩ := bufN_str w base n c A M ⟨#[102, 97, 108, 115, 101]⟩ h (by show n + 5 ≤ _; omega) hbase
    have H5 := Lib.hid (And.intro h5 g5)
    clear h h5 g5
    go_enter Tryz.func115, Tryz.ntmps115
    go_wp2_with (at_builtin; refine wpList_append_to rfl (.tmp 8) (.const (.string ⟨#[102, 97, 108, 115, 101]⟩)) 37 9 rfl _ _ _ w5 rfl rfl hr5 ?_)
    go_ret
    exact ⟨A5, c5, rfl, H5.out.1, H5.out.2⟩
theorem c_AppendBool (f : Bool) (w : World) (base n c : Nat) (A : Option Addr) (M : List UInt8) (h : BufN base w M n (.slice A n c)) (hsz : n ≤ 1073741824) (hbase : base ≤ w.heap.size) :
    Calls Tryz.prog 83 #[.slice A n c, .bool f] w fun e w' => ∃ (A' : Option Addr) (c' : Nat), e = .returned (.slice A' (n + (boolL f).length) c') ∧ BufN base w' (M ++ (boolL f)) (n + (boolL f).length) (.slice A' (n + (boolL f).length) c') ∧ Grb w (.slice A n c) w' (.slice A' (n + (boolL f).length) c') := by
  have HC := Lib.hid (c_AppendBoolI f w base n c A M h hsz hbase)
  obtain ⟨r, hr⟩ : ∃ r, r = boolL f := ⟨_, rfl⟩
  rw [← hr] at HC ⊢
  clear h hr
  go_enter Tryz.func83, Tryz.ntmps83
  go_wp2_with fail
  refine HC.out.mono ?_
  rintro e w1 ⟨A', c', rfl, h1, h2⟩
  have H12 := Lib.hid (And.intro h1 h2)
  clear h1 h2
  go_wp2_with fail
  go_ret
  exact ⟨A', c', rfl, H12.out.1, H12.out.2⟩
end Go.Proofs.YtffelpdefjkeaaaGreatDoor
namespace Go.Proofs.YtffelpdefjkeaaaGreatDoor
open Go.Shelf
def laysItoa_ren : Go.Shelf.Ren := ⟨fun | 171 => 116 | 243 => 139 | 246 => 152 | 283 => 163 | 284 => 164 | 285 => 165 | 286 => 166 | 129 => 177 | 317 => 176 | 318 => 178 | 319 => 179 | 320 => 180 | 337 => 189 | 338 => 190 | n => n, fun | 3 => 3 | 9 => 9 | 2 => 2 | 4 => 4 | 171 => 149 | 0 => 0 | 53 => 150 | 37 => 37 | 5 => 5 | 173 => 153 | 212 => 169 | 51 => 170 | 20 => 20 | 213 => 171 | 46 => 126 | 232 => 189 | 233 => 190 | n => n, fun | 17 => 5 | 18 => 7 | 19 => 8 | n => n⟩
theorem laysItoa : Go.Proofs.LaysM.n171 Tryz.prog laysItoa_ren := {
  mixed := by kernel_rfl
  f129 := Tryz.func177.trans (congrArg some (by kernel_rfl))
  f171 := Tryz.func116.trans (congrArg some (by kernel_rfl))
  f243 := Tryz.func139.trans (congrArg some (by kernel_rfl))
  f246 := Tryz.func152.trans (congrArg some (by kernel_rfl))
  f283 := Tryz.func163.trans (congrArg some (by kernel_rfl))
  f284 := Tryz.func164.trans (congrArg some (by kernel_rfl))
  f285 := Tryz.func165.trans (congrArg some (by kernel_rfl))
  f286 := Tryz.func166.trans (congrArg some (by kernel_rfl))
  f317 := Tryz.func176.trans (congrArg some (by kernel_rfl))
  f318 := Tryz.func178.trans (congrArg some (by kernel_rfl))
  f319 := Tryz.func179.trans (congrArg some (by kernel_rfl))
  f320 := Tryz.func180.trans (congrArg some (by kernel_rfl))
  f337 := Tryz.func189.trans (congrArg some (by kernel_rfl))
  f338 := Tryz.func190.trans (congrArg some (by kernel_rfl))
  t0 := Tryz.underlying0
  a0 := Tryz.isAgg0
  z0 := Tryz.sizeOf0
  v0 := Tryz.zeroValue0
  t2 := Tryz.underlying2
  a2 := Tryz.isAgg2
  z2 := Tryz.sizeOf2
  v2 := Tryz.zeroValue2
  t3 := Tryz.underlying3
  a3 := Tryz.isAgg3
  z3 := Tryz.sizeOf3
  v3 := Tryz.zeroValue3
  t4 := Tryz.underlying4
  a4 := Tryz.isAgg4
  z4 := Tryz.sizeOf4
  v4 := Tryz.zeroValue4
  t5 := Tryz.underlying5
  a5 := Tryz.isAgg5
  z5 := Tryz.sizeOf5
  v5 := Tryz.zeroValue5
  t9 := Tryz.underlying9
  a9 := Tryz.isAgg9
  z9 := Tryz.sizeOf9
  v9 := Tryz.zeroValue9
  t20 := Tryz.underlying20
  a20 := Tryz.isAgg20
  z20 := Tryz.sizeOf20
  v20 := Tryz.zeroValue20
  t37 := Tryz.underlying37
  a37 := Tryz.isAgg37
  z37 := Tryz.sizeOf37
  v37 := Tryz.zeroValue37
  t46 := Tryz.underlying126
  a46 := Tryz.isAgg126
  z46 := Tryz.sizeOf126
  v46 := Tryz.zeroValue126
  t51 := Tryz.underlying170
  a51 := Tryz.isAgg170
  z51 := Tryz.sizeOf170
  v51 := Tryz.zeroValue170
  t53 := Tryz.underlying150
  a53 := Tryz.isAgg150
  z53 := Tryz.sizeOf150
  v53 := Tryz.zeroValue150
  t171 := Tryz.underlying149
  a171 := Tryz.isAgg149
  z171 := Tryz.sizeOf149
  v171 := Tryz.zeroValue149
  t173 := Tryz.underlying153
  a173 := Tryz.isAgg153
  z173 := Tryz.sizeOf153
  v173 := Tryz.zeroValue153
  t212 := Tryz.underlying169
  a212 := Tryz.isAgg169
  z212 := Tryz.sizeOf169
  v212 := Tryz.zeroValue169
  t213 := Tryz.underlying171
  a213 := Tryz.isAgg171
  z213 := Tryz.sizeOf171
  t232 := Tryz.underlying189
  a232 := Tryz.isAgg189
  z232 := Tryz.sizeOf189
  v232 := Tryz.zeroValue189
  t233 := Tryz.underlying190
  a233 := Tryz.isAgg190
  z233 := Tryz.sizeOf190
  v233 := Tryz.zeroValue190
  g17 := by kernel_rfl
  g18 := by kernel_rfl
  g19 := by kernel_rfl
  i0 := by kernel_rfl
  i2 := by kernel_rfl
  i3 := by kernel_rfl
  i4 := by kernel_rfl
  i5 := by kernel_rfl
  i9 := by kernel_rfl
  i20 := by kernel_rfl
  i37 := by kernel_rfl
  i46 := by kernel_rfl
  i51 := by kernel_rfl
  i53 := by kernel_rfl
  i171 := by kernel_rfl
  i173 := by kernel_rfl
  i212 := by kernel_rfl
  i232 := by kernel_rfl
  i233 := by kernel_rfl
  m17 := by kernel_rfl
  m18 := by kernel_rfl
  m19 := by kernel_rfl }
end Go.Proofs.YtffelpdefjkeaaaGreatDoor
namespace Go.Proofs.YtffelpdefjkeaaaGreatDoor
open Go.RowKit
/-- The library's table of powers is laid. -/
def Pow (w : World) : Prop := Lib.TabIs Tryz.prog w "internal/strconv.uint64pow10" .u64 Lib.pow10Tab
theorem Pow.below {w w' : World} (h : Pow w) (hb : Below w.heap.size w w') : Pow w' := by
  unfold Pow Lib.TabIs World.var? at h ⊢
  cases hg : Tryz.prog.globalNamed "internal/strconv.uint64pow10" with
  | none => rw [hg] at h; cases h
  | some g =>
    rw [hg] at h
    simp only [Option.bind_some] at h ⊢
    have hlt : g < w.heap.size := by
      rcases Nat.lt_or_ge g w.heap.size with h' | h'
      · exact h'
      · rw [Array.getElem?_eq_none h'] at h
        cases h
    rw [hb.block g hlt]
    exact h
theorem below_grow (w : World) (k : Nat) (os : Array Obj) : Below w.heap.size w (Go.Sort.grow (w.drewN k) os) :=
  ⟨rfl, rfl, rfl, by show w.heap.size ≤ (w.heap ++ os).size; simp, fun i hi => by
    show (w.heap ++ os)[i]? = w.heap[i]?
    rw [Array.getElem?_append_left hi]⟩
theorem c_strconv_Itoa (n : Int) (w : World) (hn : -9223372036854775808 ≤ n ∧ n ≤ 9223372036854775807) (hp : Pow w) :
    Calls Tryz.prog 116 #[.int .i64 n] w fun e w' => e = .returned (.string (decS n)) ∧ Below w.heap.size w w' := by
  have h := Any.strconv_Itoa laysItoa n hn.1 hn.2 w hp
  change Calls Tryz.prog 116 _ _ _ at h
  refine h.mono ?_
  rintro e w' ⟨rfl, k, os, rfl⟩
  exact ⟨rfl, below_grow w k os⟩
theorem c_impl_Decimal (n : Int) (w : World) (hn : -9223372036854775808 ≤ n ∧ n ≤ 9223372036854775807) (hp : Pow w) :
    Calls Tryz.prog 84 #[.int .i64 n] w fun e w' => e = .returned (.string (decS n)) ∧ Below w.heap.size w w' := by
  have Hp := Lib.hid hp
  clear hp
  go_enter Tryz.func84, Tryz.ntmps84
  go_wp2_with fail
  refine (c_strconv_Itoa n _ hn Hp.out).mono ?_
  rintro e w1 ⟨rfl, hb⟩
  go_wp2_with fail
  go_ret
  exact ⟨rfl, hb⟩
end Go.Proofs.YtffelpdefjkeaaaGreatDoor
namespace Go.Proofs.YtffelpdefjkeaaaGreatDoor
open Go.RowKit
theorem C_Tree.old {n lo hi : Nat} {w w' : World} {d : TreeD} {cs : List Value} (h : C_Tree n lo hi w d cs) (hb : Below hi w w') : C_Tree n lo hi w' d cs := h.keep (same_below hb) (Nat.le_refl _) (Nat.le_refl _)
end Go.Proofs.YtffelpdefjkeaaaGreatDoor
namespace Go.Proofs.YtffelpdefjkeaaaGreatDoor
open Go.RowKit Go.Lib
def T_sayI (n : Nat) : Prop := ∀ (d : TreeD) (cs : List Value) (w w0 : World) (lo base nn c : Nat) (A : Option Addr) (M : List UInt8), C_Tree n lo base w d cs → shapeT n d = true → base ≤ w.heap.size → nn + 5000 * sizeT n d ≤ 1073741824 → BufN base w M nn (.slice A nn c) → Tabs w0 → Pow w0 → w0.heap.size ≤ base → Below w0.heap.size w0 w →
    Calls Tryz.prog 46 #[.slice A nn c, .agg cs.toArray] w fun e w' => ∃ (A' : Option Addr) (c' : Nat), e = .returned (.slice A' (nn + (sayL n d).length) c') ∧ BufN base w' (M ++ sayL n d) (nn + (sayL n d).length) (.slice A' (nn + (sayL n d).length) c') ∧ Grb w (.slice A nn c) w' (.slice A' (nn + (sayL n d).length) c')
set_option maxHeartbeats 16000000 in
set_option maxRecDepth 20000 in
theorem of_sayI (n : Nat) (ih : T_sayI n) : T_sayI (n + 1) := by
  intro d cs w w0 lo base nn c A M h hsh hbw hsz hbuf hTab hPow hw0 hb00
  have hlen := say_len (n + 1) d hsh (num_of h)
  have hS := sayL_succ n d
  have HSh := Lib.hid hsh
  have HNum := Lib.hid (num_of h)
  obtain ⟨v4, v5, rfl, a0, a2, a3, a4, a5⟩ := C_Tree.out h
  obtain ⟨A4, c4, rfl, hlk, hck, hK⟩ := a4
  obtain ⟨A5, c5, rfl, hlc, hcc, hA⟩ := a5
  have hsk : ∀ k t, d.kids[k]? = some t → szL (sizeT n) (d.kids.take k) + sizeT n t + 1 ≤ sizeT (n + 1) d := fun k t ht => size_kid ht
  have HSk := Lib.hid hsk
  have hbd : badH d = false := (shape_parts hsh).1
  have hls : lensOk d = true := (shape_parts hsh).2.2.1
  have HTP := Lib.hid (And.intro hTab hPow)
  have HB00 := Lib.hid hb00
  clear h hTab hPow hsk hsh hb00
  obtain ⟨S, hSz⟩ : ∃ S, S = sizeT (n + 1) d := ⟨_, rfl⟩
  rw [← hSz] at hlen hsz HSk
  obtain ⟨r, hr⟩ : ∃ r, r = sayL (n + 1) d := ⟨_, rfl⟩
  rw [← hr] at hlen hS ⊢
  have HS := Lib.hid hS
  have HSz := Lib.hid (show S = 1 + szL (sizeT n) d.kids from hSz)
  clear hr hS hSz
  obtain ⟨dk, df, dn, dt, dks, dkd⟩ := d
  simp only at a0 a2 a3 hlk hK hlc hA HS HSk HSz hbd hls ⊢
  unfold badH at hbd
  unfold lensOk at hls
  simp only [Bool.or_eq_false_iff, Bool.not_eq_false', Bool.and_eq_false_iff] at hbd
  have hin : inB dk 1 6 = true := hbd.1.1.1.1.1
  have hk6 : 1 ≤ dk ∧ dk ≤ 6 := by unfold inB at hin; exact of_decide_eq_true hin
  obtain ⟨W0, hW0⟩ : ∃ W, W = w.alloc (.cells #[.int .i64 dk, .bool df, .int .i64 dn, .string dt, .slice A4 dks.length c4, .slice A5 dkd.length c5] 27) := ⟨_, rfl⟩
  have hB0 : Below w.heap.size w W0 := by rw [hW0]; exact bel
  have HR0 := Lib.hid (show W0.heap[w.heap.size]? = some (.cells #[.int .i64 dk, .bool df, .int .i64 dn, .string dt, .slice A4 dks.length c4, .slice A5 dkd.length c5] 27 (0, 0)) by rw [hW0]; exact heap_at rfl)
  have HW0 := Lib.hid hW0
  have hbuf0 := hbuf.below hB0
  have hbW0 : base ≤ W0.heap.size := Nat.le_trans hbw hB0.size
  have hG0 := Lib.hid (Grb.of (.slice A nn c) hB0)
  have HBf0 := Lib.hid hbuf0
  have HbW := Lib.hid (HB00.out.trans (hB0.mono (Nat.le_trans hw0 hbw)))
  have Hbd := Lib.hid hbd
  clear hW0 hin hbd
  obtain ⟨x0, x1, x2, x3, x4, x5, xf⟩ := row6 HR0.out
  have l0 := row_lt HR0.out
  by_cases k1 : dk = 1
  · subst k1
    have HX := Lib.hid (show r = litN from HS.out)
    obtain ⟨A6, c6, w5, hr5, h5, g5⟩ := bufN_str W0 base nn c A M ⟨#[110, 117, 108, 108]⟩ hbuf0 (by show nn + 4 ≤ _; omega) hbW0
    have H5 := Lib.hid (And.intro h5 (hG0.out.trans g5))
    clear h5 g5 hK hA
    go_enter Tryz.func46, Tryz.ntmps46
    go_upto_region 1 with fail
    rw [← HW0.out]
    go_wp2_with (at_builtin; refine wpList_append_to rfl (.tmp 13) (.const (.string ⟨#[110, 117, 108, 108]⟩)) 37 9 rfl _ _ _ w5 rfl rfl hr5 ?_)
    go_ret
    rw [HX.out]
    exact ⟨A6, c6, rfl, H5.out.1, H5.out.2⟩
  by_cases k2 : dk = 2
  · subst k2
    have HX := Lib.hid (show r = boolL df from HS.out)
    clear hK hA
    go_enter Tryz.func46, Tryz.ntmps46
    go_upto_region 1 with fail
    rw [← HW0.out]
    go_wp2_with fail
    refine (c_AppendBool df W0 base nn c A M HBf0.out (by omega) hbW0).mono ?_
    rintro e w5 ⟨A6, c6, rfl, h5, g5⟩
    have H5 := Lib.hid (And.intro h5 (hG0.out.trans g5))
    clear h5 g5
    go_wp2_with fail
    go_ret
    rw [HX.out]
    exact ⟨A6, c6, rfl, H5.out.1, H5.out.2⟩
  by_cases k3 : dk = 3
  · subst k3
    have HX := Lib.hid (show r = (decS dn).data.toList from HS.out)
    have hds := decS_size dn a2
    clear hK hA
    go_enter Tryz.func46, Tryz.ntmps46
    go_upto_region 1 with fail
    rw [← HW0.out]
    go_wp2_with fail
    refine (c_impl_Decimal dn W0 a2 (HTP.out.2.below HbW.out)).mono ?_
    rintro e w4 ⟨rfl, hb4⟩
    obtain ⟨A6, c6, w5, hr5, h5, g5⟩ := bufN_str w4 base nn c A M (decS dn) (HBf0.out.below hb4) (by omega) (Nat.le_trans hbW0 hb4.size)
    have H5 := Lib.hid (And.intro h5 ((hG0.out.trans (Grb.of _ hb4)).trans g5))
    clear h5 g5 hb4
    go_wp2_with (at_builtin; refine wpList_append_to rfl (.tmp 23) (.tmp 26) 37 9 rfl _ _ _ w5 rfl rfl hr5 ?_)
    go_ret
    rw [HX.out, show (decS dn).data.toList.length = (decS dn).size from Array.length_toList]
    exact ⟨A6, c6, rfl, H5.out.1, H5.out.2⟩
  by_cases k4 : dk = 4
  · subst k4
    have HX := Lib.hid (show r = (quoteB dt).data.toList from HS.out)
    have hds := quote_len dt
    have hqe : (quoteB dt).data.toList.length = (quoteB dt).size := Array.length_toList
    have hst : dt.size ≤ 400 := by
      have h2 := (shape_parts HSh.out).2.1
      unfold strB at h2
      simp only [Bool.and_eq_true, decide_eq_true_eq] at h2
      exact h2.1
    clear hK hA
    go_enter Tryz.func46, Tryz.ntmps46
    go_upto_region 1 with fail
    rw [← HW0.out]
    go_wp2_with fail
    refine (c_impl_Quoted dt W0 (by omega) (HTP.out.1.below HbW.out)).mono ?_
    rintro e w4 ⟨rfl, hb4⟩
    obtain ⟨A6, c6, w5, hr5, h5, g5⟩ := bufN_str w4 base nn c A M (quoteB dt) (HBf0.out.below hb4) (by omega) (Nat.le_trans hbW0 hb4.size)
    have H5 := Lib.hid (And.intro h5 ((hG0.out.trans (Grb.of _ hb4)).trans g5))
    clear h5 g5 hb4 hqe
    go_wp2_with (at_builtin; refine wpList_append_to rfl (.tmp 30) (.tmp 33) 37 9 rfl _ _ _ w5 rfl rfl hr5 ?_)
    go_ret
    rw [HX.out, show (quoteB dt).data.toList.length = (quoteB dt).size from Array.length_toList]
    exact ⟨A6, c6, rfl, H5.out.1, H5.out.2⟩
  have e1 : (dk == 1) = false := beq_eq_false_iff_ne.2 k1
  have e2 : (dk == 2) = false := beq_eq_false_iff_ne.2 k2
  have e3 : (dk == 3) = false := beq_eq_false_iff_ne.2 k3
  have e4 : (dk == 4) = false := beq_eq_false_iff_ne.2 k4
  by_cases k5 : dk = 5
  · subst k5
    have HX := Lib.hid (show r = [91] ++ itemsT (fun _ => []) (sayL n) dkd dkd.length ++ [93] from HS.out)
    obtain ⟨A6, c6, w5, hr5, h5, g5⟩ := bufN_lit W0 base nn c 1 A M [91] [.int .u8 91] hbuf0 rfl rfl (by omega) (by decide) hbW0
    have H5 := Lib.hid (And.intro h5 g5)
    have hrow5 := (g5.keep l0 (fun e => by have := (hbuf.lt e).2; omega)).trans HR0.out
    have HR5 := Lib.hid hrow5
    have hs5 := g5.grown.size
    clear h5 g5 hrow5 k1 k2 k3 k4
    go_enter Tryz.func46, Tryz.ntmps46
    go_upto_region 1 with fail
    rw [← HW0.out]
    go_upto_region 14 with (at_builtin; refine wpList_append_of rfl (.tmp 38) (.tmp 40) 37 rfl _ _ _ w5 rfl rfl hr5 ?_)
    clear x0 x1 x2 x3 x4 x5 xf
    obtain ⟨x0, x1, x2, x3, x4, x5, xf⟩ := row6 HR5.out
    have l5 := row_lt HR5.out
    go_wp2_with fail
    go_loopw [0, 45] (fun s0 v wr => ∃ (k N : Nat) (A' : Option Addr) (c' : Nat), k ≤ dkd.length ∧ v = .int .i64 k ∧ s0 = .slice A' N c' ∧ BufN base wr (M ++ ([91] ++ itemsT (fun _ => []) (sayL n) dkd k)) N (.slice A' N c') ∧ Grb W0 (.slice A nn c) wr (.slice A' N c') ∧ wr.heap[w.heap.size]? = some (.cells #[.int .i64 5, .bool df, .int .i64 dn, .string dt, .slice A4 dks.length c4, .slice A5 dkd.length c5] 27 (0, 0))) (fun _ v _ => dkd.length - (Lib.intOf v).toNat)
    case atStart => exact ⟨0, nn + 1, A6, c6, Nat.zero_le _, rfl, rfl, H5.out.1, H5.out.2, HR5.out⟩
    case round =>
      clear x0 x1 x2 x3 x4 x5 xf l5 hs5
      obtain ⟨k, N, A', c', hk, rfl, rfl, hbf, hgr, hT⟩ := hrel
      have HT := Lib.hid hT
      have HBf := Lib.hid hbf
      have HGr := Lib.hid hgr
      have hbr : Below base w wr := (hG0.out.trans hgr).below hbuf.2 hbw
      have hitl := items_len (pre := (fun _ => [])) (f := sayL n) (g := sizeT n) (l := dkd) (fun _ => Nat.zero_le _) (fun t ht => by
        obtain ⟨i, hi⟩ := List.getElem?_of_mem ht
        exact say_len n t (shape_kid HSh.out hi) (HNum.out.2 t ht)) k hk
      have hNl : N = nn + (1 + (itemsT (fun _ => []) (sayL n) dkd k).length) := by
        rw [hbf.1, List.length_append, List.length_append, ← hbuf.1]; rfl
      have hbwr : base ≤ wr.heap.size := Nat.le_trans hbW0 hgr.grown.size
      have HNl := Lib.hid hNl
      have hNb : N ≤ nn + 1 + 5000 * szL (sizeT n) (dkd.take k) := by omega
      clear hT hbf hgr hNl hitl
      obtain ⟨x0, x1, x2, x3, x4, x5, xf⟩ := row6 HT.out
      have l1 := row_lt HT.out
      by_cases hlt : k < dkd.length
      · obtain ⟨p, o, rfl, -, hbl, hcell⟩ := hA (by omega)
        obtain ⟨t, ht⟩ := exists_at hlt
        obtain ⟨es, -, hcs, hC⟩ := hcell k t ht
        obtain ⟨eA4, ec4, eA5, ec5, rfl, ea0, ea2, ea3⟩ := hC.flat
        have hc0 := (hbr.cell (p := ⟨p, o + k * 6 + 0, none⟩) (by simp; omega)).trans (hcs 0 (by omega))
        simp at hc0
        have hc1 := (hbr.cell (p := ⟨p, o + k * 6 + 1, none⟩) (by simp; omega)).trans (hcs 1 (by omega))
        simp at hc1
        have hc2 := (hbr.cell (p := ⟨p, o + k * 6 + 2, none⟩) (by simp; omega)).trans (hcs 2 (by omega))
        simp at hc2
        have hc3 := (hbr.cell (p := ⟨p, o + k * 6 + 3, none⟩) (by simp; omega)).trans (hcs 3 (by omega))
        simp at hc3
        have hc4 := (hbr.cell (p := ⟨p, o + k * 6 + 4, none⟩) (by simp; omega)).trans (hcs 4 (by omega))
        simp at hc4
        have hc5 := (hbr.cell (p := ⟨p, o + k * 6 + 5, none⟩) (by simp; omega)).trans (hcs 5 (by omega))
        simp at hc5
        have hbr1 : p < wr.heap.size := by omega
        have hk0 : (0 : Int) ≤ k := by omega
        have hk1 : (k : Int) < dkd.length := by omega
        have hsk := HSk.out k t ht
        have HC := Lib.hid hC
        have HIt := Lib.hid (items_next (pre := (fun _ => [])) (f := sayL n) ht)
        have HSt := Lib.hid (shape_kid HSh.out ht)
        have hsayl := say_len n t (shape_kid HSh.out ht) (HNum.out.2 t (List.mem_of_getElem? ht))
        have hneA : ∀ q, (Value.slice A' N c').ownBlock = some q → q ≠ w.heap.size ∧ q < wr.heap.size := fun q hq => by
          refine ⟨?_, (HBf.out.lt hq).2⟩
          rcases HGr.out.at' q hq with h1 | h1
          · have := (hbuf.lt h1).2
            omega
          · have := row_lt HR0.out
            omega
        have HneA := Lib.hid hneA
        have hszk : N + 1 + 2404 + 5000 * sizeT n t ≤ 1073741824 := by omega
        have HKx := Lib.hid (trivial)
        clear hcs hcell hA hC ht hneA hK
        go_upto_if 51 with fail
        obtain ⟨wk, hwk⟩ : ∃ W, W = wr.alloc (.cells #[.int .i64 t.kind, .bool t.flag, .int .i64 t.num, .string t.text, .slice eA4 t.keys.length ec4, .slice eA5 t.kids.length ec5] 27) := ⟨_, rfl⟩
        have hbk : Below wr.heap.size wr wk := by rw [hwk]; exact bel
        have X8 : wk.heap[wr.heap.size]? = some (.cells #[.int .i64 t.kind, .bool t.flag, .int .i64 t.num, .string t.text, .slice eA4 t.keys.length ec4, .slice eA5 t.kids.length ec5] 27 (0, 0)) := by rw [hwk]; exact heap_at rfl
        rw [← hwk]
        have HX8 := Lib.hid X8
        have HTk := Lib.hid ((hbk.block _ l1).trans HT.out)
        have HBk := Lib.hid (HBf.out.below hbk)
        have HGk := Lib.hid (HGr.out.trans (Grb.of (.slice A' N c') hbk))
        have hsk2 := hbk.size
        have hlk := row_lt X8
        clear hwk hbk X8 x0 x1 x2 x3 x4 x5 xf hc0 hc1 hc2 hc3 hc4 hc5
        go_cut [0] from 50 to 54 (fun s0 wx => ∃ (A1 : Option Addr) (c1 N1 : Nat), s0 = .slice A1 N1 c1 ∧ N1 ≤ N + 1 ∧ BufN base wx (M ++ ([91] ++ itemsT (fun _ => []) (sayL n) dkd k) ++ (if k = 0 then [] else [44])) N1 (.slice A1 N1 c1) ∧ Grb wk (.slice A' N c') wx (.slice A1 N1 c1))
        case first =>
          by_cases hk00 : k = 0
          · have d0 : decide (0 < k) = false := decide_eq_false (by omega)
            have dI : decide ((0 : Int) < k) = false := decide_eq_false (by omega)
            have HP := Lib.hid (show (if k = 0 then ([] : List UInt8) else [44]) = [] from if_pos hk00)
            have hp0 : ¬ 0 < k := by omega
            clear hk00 d0 dI
            go_wp2_with fail
            go_meet
            exact ⟨A', c', N, rfl, by omega, by rw [HP.out, List.append_nil]; exact HBk.out, Grb.of _ (Below.refl _ _)⟩
          · have d0 : decide (0 < k) = true := decide_eq_true (by omega)
            have dI : decide ((0 : Int) < k) = true := decide_eq_true (by omega)
            have HP := Lib.hid (show (if k = 0 then ([] : List UInt8) else [44]) = [44] from if_neg hk00)
            have hp0 : 0 < k := by omega
            clear hk00 d0 dI
            obtain ⟨A7, c7, w7, hr7, h7, g7⟩ := bufN_lit wk base N c' 1 A' _ [44] [.int .u8 44] HBk.out rfl rfl (by omega) (by decide) (by omega)
            have H7 := Lib.hid (And.intro h7 g7)
            clear h7 g7
            go_wp2_with (at_builtin; refine wpList_append_of rfl (.tmp 52) (.tmp 53) 37 rfl _ _ _ w7 rfl rfl hr7 ?_)
            go_meet
            exact ⟨A7, c7, N + 1, rfl, Nat.le_refl _, by rw [HP.out]; exact H7.out.1, H7.out.2⟩
        case rest =>
          obtain ⟨A1, c1, N1, rfl, hN1, hb1, hg1⟩ := hcut
          have HT1 := Lib.hid ((hg1.keep (by omega) (fun e => (HneA.out _ e).1 rfl)).trans HTk.out)
          have HX1 := Lib.hid ((hg1.keep hlk (fun e => Nat.lt_irrefl _ (HneA.out _ e).2)).trans HX8.out)
          have HB1 := Lib.hid hb1
          have HG1 := Lib.hid hg1
          have hs1 := hg1.grown.size
          have HA1 := Lib.hid (show ∀ q, (Value.slice A1 N1 c1).ownBlock = some q → q ≠ w.heap.size ∧ q ≠ wr.heap.size from fun q hq => by
            rcases hg1.at' q hq with h1 | h1
            · have := HneA.out q h1
              omega
            · omega)
          clear hb1 hg1
          obtain ⟨x0, x1, x2, x3, x4, x5, xf⟩ := row6 HT1.out
          obtain ⟨y0, y1, y2, y3, y4, y5, yf⟩ := row6 HX1.out
          have lx := row_lt HT1.out
          have ly := row_lt HX1.out
          go_wp2_with fail
          refine (ih t _ wc w0 lo base N1 c1 A1 _ (HC.out.old (((hG0.out.trans HGk.out).trans (HG1.out)).below hbuf.2 hbw)) HSt.out (by omega) (by omega) HB1.out HTP.out.1 HTP.out.2 hw0 (HB00.out.trans ((((hG0.out.trans HGk.out).trans (HG1.out)).below hbuf.2 hbw).mono hw0))).mono ?_
          rintro e w9 ⟨A9, c9, rfl, h9, g9⟩
          have HT9 := Lib.hid ((g9.keep lx (fun e => (HA1.out _ e).1 rfl)).trans HT1.out)
          have H9 := Lib.hid h9
          have HG9 := Lib.hid ((HGk.out.trans (HG1.out)).trans g9)
          clear h9 g9
          go_wp2_with fail
          go_roundw
          case rel => exact ⟨k + 1, N1 + (sayL n t).length, A9, c9, by omega, by go_num, rfl, by rw [HIt.out]; simpa only [List.append_assoc, List.nil_append] using H9.out, HG9.out, HT9.out⟩
          case measure => simp [Lib.intOf]; omega
      · obtain rfl : k = dkd.length := by omega
        have hke : decide (dkd.length < dkd.length) = false := decide_eq_false (Nat.lt_irrefl _)
        have hNz : N ≤ 1073741824 := by
          have := hNb
          rw [List.take_of_length_le (Nat.le_refl _)] at this
          have h2 : S = 1 + szL (sizeT n) dkd := HSz.out
          omega
        obtain ⟨A7, c7, w7, hr7, h7, g7⟩ := bufN_lit wr base N c' 1 A' _ [93] [.int .u8 93] HBf.out rfl rfl (by omega) (by decide) hbwr
        have H7 := Lib.hid (And.intro h7 (hG0.out.trans (HGr.out.trans g7)))
        have HN7 := Lib.hid (show N + 1 = nn + r.length by rw [HX.out, HNl.out]; simp only [List.length_append, List.length_cons, List.length_nil]; omega)
        clear h7 g7 hA hK
        go_wp2_with (at_builtin; refine wpList_append_of rfl (.tmp 71) (.tmp 73) 37 rfl _ _ _ w7 rfl rfl hr7 ?_)
        go_ret
        rw [← HN7.out, HX.out]
        exact ⟨A7, c7, rfl, by rw [List.append_assoc] at H7; rw [← HX.out] at *; exact H7.out.1, H7.out.2⟩
  · have k6 : dk = 6 := by omega
    subst k6
    have HX := Lib.hid (show r = [123] ++ itemsT (preM dks) (sayL n) dkd dkd.length ++ [125] from HS.out)
    have HLL := Lib.hid (show dks.length = dkd.length by simpa using hls)
    clear hls
    obtain ⟨A6, c6, w5, hr5, h5, g5⟩ := bufN_lit W0 base nn c 1 A M [123] [.int .u8 123] hbuf0 rfl rfl (by omega) (by decide) hbW0
    have H5 := Lib.hid (And.intro h5 g5)
    have hrow5 := (g5.keep l0 (fun e => by have := (hbuf.lt e).2; omega)).trans HR0.out
    have HR5 := Lib.hid hrow5
    have hs5 := g5.grown.size
    clear h5 g5 hrow5 k1 k2 k3 k4
    go_enter Tryz.func46, Tryz.ntmps46
    go_upto_region 1 with fail
    rw [← HW0.out]
    go_upto_region 14 with (at_builtin; refine wpList_append_of rfl (.tmp 38) (.tmp 40) 37 rfl _ _ _ w5 rfl rfl hr5 ?_)
    clear x0 x1 x2 x3 x4 x5 xf
    obtain ⟨x0, x1, x2, x3, x4, x5, xf⟩ := row6 HR5.out
    have l5 := row_lt HR5.out
    go_wp2_with fail
    go_loopw [0, 45] (fun s0 v wr => ∃ (k N : Nat) (A' : Option Addr) (c' : Nat), k ≤ dkd.length ∧ v = .int .i64 k ∧ s0 = .slice A' N c' ∧ BufN base wr (M ++ ([123] ++ itemsT (preM dks) (sayL n) dkd k)) N (.slice A' N c') ∧ Grb W0 (.slice A nn c) wr (.slice A' N c') ∧ wr.heap[w.heap.size]? = some (.cells #[.int .i64 6, .bool df, .int .i64 dn, .string dt, .slice A4 dks.length c4, .slice A5 dkd.length c5] 27 (0, 0))) (fun _ v _ => dkd.length - (Lib.intOf v).toNat)
    case atStart => exact ⟨0, nn + 1, A6, c6, Nat.zero_le _, rfl, rfl, H5.out.1, H5.out.2, HR5.out⟩
    case round =>
      clear x0 x1 x2 x3 x4 x5 xf l5 hs5
      obtain ⟨k, N, A', c', hk, rfl, rfl, hbf, hgr, hT⟩ := hrel
      have HT := Lib.hid hT
      have HBf := Lib.hid hbf
      have HGr := Lib.hid hgr
      have hbr : Below base w wr := (hG0.out.trans hgr).below hbuf.2 hbw
      have hitl := items_len (pre := (preM dks)) (f := sayL n) (g := sizeT n) (l := dkd) (pre_len HSh.out) (fun t ht => by
        obtain ⟨i, hi⟩ := List.getElem?_of_mem ht
        exact say_len n t (shape_kid HSh.out hi) (HNum.out.2 t ht)) k hk
      have hNl : N = nn + (1 + (itemsT (preM dks) (sayL n) dkd k).length) := by
        rw [hbf.1, List.length_append, List.length_append, ← hbuf.1]; rfl
      have hbwr : base ≤ wr.heap.size := Nat.le_trans hbW0 hgr.grown.size
      have HNl := Lib.hid hNl
      have hNb : N ≤ nn + 1 + 5000 * szL (sizeT n) (dkd.take k) := by omega
      clear hT hbf hgr hNl hitl
      obtain ⟨x0, x1, x2, x3, x4, x5, xf⟩ := row6 HT.out
      have l1 := row_lt HT.out
      by_cases hlt : k < dkd.length
      · obtain ⟨p, o, rfl, -, hbl, hcell⟩ := hA (by omega)
        obtain ⟨t, ht⟩ := exists_at hlt
        obtain ⟨es, -, hcs, hC⟩ := hcell k t ht
        obtain ⟨eA4, ec4, eA5, ec5, rfl, ea0, ea2, ea3⟩ := hC.flat
        have hc0 := (hbr.cell (p := ⟨p, o + k * 6 + 0, none⟩) (by simp; omega)).trans (hcs 0 (by omega))
        simp at hc0
        have hc1 := (hbr.cell (p := ⟨p, o + k * 6 + 1, none⟩) (by simp; omega)).trans (hcs 1 (by omega))
        simp at hc1
        have hc2 := (hbr.cell (p := ⟨p, o + k * 6 + 2, none⟩) (by simp; omega)).trans (hcs 2 (by omega))
        simp at hc2
        have hc3 := (hbr.cell (p := ⟨p, o + k * 6 + 3, none⟩) (by simp; omega)).trans (hcs 3 (by omega))
        simp at hc3
        have hc4 := (hbr.cell (p := ⟨p, o + k * 6 + 4, none⟩) (by simp; omega)).trans (hcs 4 (by omega))
        simp at hc4
        have hc5 := (hbr.cell (p := ⟨p, o + k * 6 + 5, none⟩) (by simp; omega)).trans (hcs 5 (by omega))
        simp at hc5
        have hbr1 : p < wr.heap.size := by omega
        have hk0 : (0 : Int) ≤ k := by omega
        have hk1 : (k : Int) < dkd.length := by omega
        have hsk := HSk.out k t ht
        have HC := Lib.hid hC
        have HIt := Lib.hid (items_next (pre := (preM dks)) (f := sayL n) ht)
        have HSt := Lib.hid (shape_kid HSh.out ht)
        have hsayl := say_len n t (shape_kid HSh.out ht) (HNum.out.2 t (List.mem_of_getElem? ht))
        have hneA : ∀ q, (Value.slice A' N c').ownBlock = some q → q ≠ w.heap.size ∧ q < wr.heap.size := fun q hq => by
          refine ⟨?_, (HBf.out.lt hq).2⟩
          rcases HGr.out.at' q hq with h1 | h1
          · have := (hbuf.lt h1).2
            omega
          · have := row_lt HR0.out
            omega
        have HneA := Lib.hid hneA
        have hszk : N + 1 + 2404 + 5000 * sizeT n t ≤ 1073741824 := by omega
        have HKx := Lib.hid (hK)
        clear hcs hcell hA hC ht hneA hK
        go_upto_if 51 with fail
        obtain ⟨wk, hwk⟩ : ∃ W, W = wr.alloc (.cells #[.int .i64 t.kind, .bool t.flag, .int .i64 t.num, .string t.text, .slice eA4 t.keys.length ec4, .slice eA5 t.kids.length ec5] 27) := ⟨_, rfl⟩
        have hbk : Below wr.heap.size wr wk := by rw [hwk]; exact bel
        have X8 : wk.heap[wr.heap.size]? = some (.cells #[.int .i64 t.kind, .bool t.flag, .int .i64 t.num, .string t.text, .slice eA4 t.keys.length ec4, .slice eA5 t.kids.length ec5] 27 (0, 0)) := by rw [hwk]; exact heap_at rfl
        rw [← hwk]
        have HX8 := Lib.hid X8
        have HTk := Lib.hid ((hbk.block _ l1).trans HT.out)
        have HBk := Lib.hid (HBf.out.below hbk)
        have HGk := Lib.hid (HGr.out.trans (Grb.of (.slice A' N c') hbk))
        have hsk2 := hbk.size
        have hlk := row_lt X8
        clear hwk hbk X8 x0 x1 x2 x3 x4 x5 xf hc0 hc1 hc2 hc3 hc4 hc5
        go_cut [0] from 50 to 54 (fun s0 wx => ∃ (A1 : Option Addr) (c1 N1 : Nat), s0 = .slice A1 N1 c1 ∧ N1 ≤ N + 1 ∧ BufN base wx (M ++ ([123] ++ itemsT (preM dks) (sayL n) dkd k) ++ (if k = 0 then [] else [44])) N1 (.slice A1 N1 c1) ∧ Grb wk (.slice A' N c') wx (.slice A1 N1 c1))
        case first =>
          by_cases hk00 : k = 0
          · have d0 : decide (0 < k) = false := decide_eq_false (by omega)
            have dI : decide ((0 : Int) < k) = false := decide_eq_false (by omega)
            have HP := Lib.hid (show (if k = 0 then ([] : List UInt8) else [44]) = [] from if_pos hk00)
            have hp0 : ¬ 0 < k := by omega
            clear hk00 d0 dI
            go_wp2_with fail
            go_meet
            exact ⟨A', c', N, rfl, by omega, by rw [HP.out, List.append_nil]; exact HBk.out, Grb.of _ (Below.refl _ _)⟩
          · have d0 : decide (0 < k) = true := decide_eq_true (by omega)
            have dI : decide ((0 : Int) < k) = true := decide_eq_true (by omega)
            have HP := Lib.hid (show (if k = 0 then ([] : List UInt8) else [44]) = [44] from if_neg hk00)
            have hp0 : 0 < k := by omega
            clear hk00 d0 dI
            obtain ⟨A7, c7, w7, hr7, h7, g7⟩ := bufN_lit wk base N c' 1 A' _ [44] [.int .u8 44] HBk.out rfl rfl (by omega) (by decide) (by omega)
            have H7 := Lib.hid (And.intro h7 g7)
            clear h7 g7
            go_wp2_with (at_builtin; refine wpList_append_of rfl (.tmp 52) (.tmp 53) 37 rfl _ _ _ w7 rfl rfl hr7 ?_)
            go_meet
            exact ⟨A7, c7, N + 1, rfl, Nat.le_refl _, by rw [HP.out]; exact H7.out.1, H7.out.2⟩
        case rest =>
          obtain ⟨A1, c1, N1, rfl, hN1, hb1, hg1⟩ := hcut
          have HT1 := Lib.hid ((hg1.keep (by omega) (fun e => (HneA.out _ e).1 rfl)).trans HTk.out)
          have HX1 := Lib.hid ((hg1.keep hlk (fun e => Nat.lt_irrefl _ (HneA.out _ e).2)).trans HX8.out)
          have HB1 := Lib.hid hb1
          have HG1 := Lib.hid hg1
          have hs1 := hg1.grown.size
          have HA1 := Lib.hid (show ∀ q, (Value.slice A1 N1 c1).ownBlock = some q → q ≠ w.heap.size ∧ q ≠ wr.heap.size from fun q hq => by
            rcases hg1.at' q hq with h1 | h1
            · have := HneA.out q h1
              omega
            · omega)
          clear hb1 hg1
          obtain ⟨x0, x1, x2, x3, x4, x5, xf⟩ := row6 HT1.out
          obtain ⟨y0, y1, y2, y3, y4, y5, yf⟩ := row6 HX1.out
          have lx := row_lt HT1.out
          have ly := row_lt HX1.out
          have hbwc := ((hG0.out.trans HGk.out).trans HG1.out).below hbuf.2 hbw
          obtain ⟨q, oq, rfl, -, hql, hqc⟩ := HKx.out (by have := HLL.out; omega)
          obtain ⟨s, hs⟩ := exists_at (show k < dks.length by have := HLL.out; omega)
          obtain ⟨es, -, hcs, rfl, hss⟩ := hqc k s hs
          have hkc := (hbwc.cell (p := ⟨q, oq + k * 1 + 0, none⟩) hql).trans (hcs 0 (by omega))
          simp at hkc
          have hqw : q < wc.heap.size := by have := hG0.out.grown.size; omega
          have hk2 : (k : Int) < dks.length := by have := HLL.out; omega
          have hs4 := shape_key HSh.out hs
          have hql2 := quote_len s
          have hqe : (quoteB s).data.toList.length = (quoteB s).size := Array.length_toList
          have hcat : (quoteB s ++ (⟨#[58]⟩ : ByteArray)).data.toList = (quoteB s).data.toList ++ [58] := by rw [ByteArray.data_append, Array.toList_append]
          have hcsz : (quoteB s ++ (⟨#[58]⟩ : ByteArray)).size = (quoteB s).size + 1 := by rw [ByteArray.size_append]; rfl
          have HPz := Lib.hid (show preM dks k = (quoteB s ++ (⟨#[58]⟩ : ByteArray)).data.toList by unfold preM; rw [hs, hcat])
          have HQC := Lib.hid (c_impl_Quoted s wc (by omega) (HTP.out.1.below (HB00.out.trans (hbwc.mono hw0))))
          have hb00 : (quoteB s ++ (⟨#[58]⟩ : ByteArray)).size ≤ 2403 := by omega
          have hb01 : (quoteB s).size ≤ 2402 := by omega
          clear hcs hqc hs hcat hqe hql2 hbwc
          go_wp2_with fail
          refine HQC.out.mono ?_
          rintro e w4 ⟨rfl, hb4⟩
          have hs44 := hb4.size
          obtain ⟨A2, c2, w5, hr5, h5, g5⟩ := bufN_str w4 base N1 c1 A1 _ (quoteB s ++ ⟨#[58]⟩) (HB1.out.below hb4) (by omega) (by omega)
          rw [hcsz] at hr5 h5 g5
          have HT5 := Lib.hid ((g5.keep (by omega) (fun e => (HA1.out _ e).1 rfl)).trans ((hb4.block _ lx).trans HT1.out))
          have HX5 := Lib.hid ((g5.keep (by omega) (fun e => (HA1.out _ e).2 rfl)).trans ((hb4.block _ ly).trans HX1.out))
          have HG5 := Lib.hid ((HG1.out.trans (Grb.of _ hb4)).trans g5)
          have HB5 := Lib.hid h5
          have hs55 := g5.grown.size
          have HA5 := Lib.hid (show ∀ q, (Value.slice A2 (N1 + ((quoteB s).size + 1)) c2).ownBlock = some q → q ≠ w.heap.size from fun q hq => by
            rcases g5.at' q hq with h1 | h1
            · exact (HA1.out q h1).1
            · omega)
          clear h5 g5 hb4 hcsz hb00 x0 x1 x2 x3 x4 x5 xf y0 y1 y2 y3 y4 y5 yf
          obtain ⟨x0, x1, x2, x3, x4, x5, xf⟩ := row6 HT5.out
          obtain ⟨y0, y1, y2, y3, y4, y5, yf⟩ := row6 HX5.out
          have lx5 := row_lt HT5.out
          have ly5 := row_lt HX5.out
          go_wp2_with (at_builtin; refine wpList_append_to rfl (.tmp 58) (.tmp 65) 37 9 rfl _ _ _ w5 rfl rfl hr5 ?_)
          all_goals (try (exfalso; omega))
          refine (ih t _ w5 w0 lo base (N1 + ((quoteB s).size + 1)) c2 A2 _ (HC.out.old (((hG0.out.trans HGk.out).trans (HG5.out)).below hbuf.2 hbw)) HSt.out (by omega) (by omega) HB5.out HTP.out.1 HTP.out.2 hw0 (HB00.out.trans ((((hG0.out.trans HGk.out).trans (HG5.out)).below hbuf.2 hbw).mono hw0))).mono ?_
          rintro e w9 ⟨A9, c9, rfl, h9, g9⟩
          have HT9 := Lib.hid ((g9.keep lx5 (fun e => HA5.out _ e rfl)).trans HT5.out)
          have H9 := Lib.hid h9
          have HG9 := Lib.hid ((HGk.out.trans (HG5.out)).trans g9)
          clear h9 g9
          go_wp2_with fail
          go_roundw
          case rel => exact ⟨k + 1, (N1 + ((quoteB s).size + 1)) + (sayL n t).length, A9, c9, by omega, by go_num, rfl, by rw [HIt.out, HPz.out]; simpa only [List.append_assoc, List.nil_append] using H9.out, HG9.out, HT9.out⟩
          case measure => simp [Lib.intOf]; omega
      · obtain rfl : k = dkd.length := by omega
        have hke : decide (dkd.length < dkd.length) = false := decide_eq_false (Nat.lt_irrefl _)
        have hNz : N ≤ 1073741824 := by
          have := hNb
          rw [List.take_of_length_le (Nat.le_refl _)] at this
          have h2 : S = 1 + szL (sizeT n) dkd := HSz.out
          omega
        obtain ⟨A7, c7, w7, hr7, h7, g7⟩ := bufN_lit wr base N c' 1 A' _ [125] [.int .u8 125] HBf.out rfl rfl (by omega) (by decide) hbwr
        have H7 := Lib.hid (And.intro h7 (hG0.out.trans (HGr.out.trans g7)))
        have HN7 := Lib.hid (show N + 1 = nn + r.length by rw [HX.out, HNl.out]; simp only [List.length_append, List.length_cons, List.length_nil]; omega)
        clear h7 g7 hA hK
        go_wp2_with (at_builtin; refine wpList_append_of rfl (.tmp 71) (.tmp 73) 37 rfl _ _ _ w7 rfl rfl hr7 ?_)
        go_ret
        rw [← HN7.out, HX.out]
        exact ⟨A7, c7, rfl, by rw [List.append_assoc] at H7; rw [← HX.out] at *; exact H7.out.1, H7.out.2⟩
theorem all_sayI : ∀ n, T_sayI n
  | 0 => fun _ _ _ _ _ _ _ _ _ _ h _ _ _ _ _ _ _ _ => (C_Tree.none h).elim
  | n + 1 => of_sayI n (all_sayI n)
end Go.Proofs.YtffelpdefjkeaaaGreatDoor
