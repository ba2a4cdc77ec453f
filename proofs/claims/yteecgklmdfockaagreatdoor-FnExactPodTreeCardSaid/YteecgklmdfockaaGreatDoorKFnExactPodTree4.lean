/- Written by wip/tools/pack.py: the texts that FnExactPodTree needs, without what it does not need. No conditions. -/
import Derived.Test.YteecgklmdfockaaGreatDoorKFnExactPodTree1
import Derived.Test.YteecgklmdfockaaGreatDoorKFnExactPodTree3
import Derived.Lib.IndexAny
import Derived.Deep.QuietTactic
import Derived.BigQuiet
namespace Go.Proofs.YteecgklmdfockaaGreatDoor
open Go.RowKit
def cmpI (x y : Int) : Int := if x < y then -1 else if y < x then 1 else 0
def cmpS (a b : ByteArray) : Int := Lib.compareBytes a.data.toList b.data.toList
def lessS (a b : ByteArray) : Bool := Op.bytesLess a.toList b.toList
def orI : List Int → Int
  | [] => 0
  | x :: l => if x == 0 then orI l else x
theorem cmpB_cases : ∀ (a b : List UInt8), (Lib.compareBytes a b = 0 ∧ a = b) ∨ (Lib.compareBytes a b = -1 ∧ a ≠ b ∧ Op.bytesLess a b = true) ∨ (Lib.compareBytes a b = 1 ∧ a ≠ b ∧ Op.bytesLess a b = false)
  | [], [] => .inl ⟨rfl, rfl⟩
  | [], _ :: _ => .inr (.inl ⟨rfl, by simp, rfl⟩)
  | _ :: _, [] => .inr (.inr ⟨rfl, by simp, rfl⟩)
  | x :: a, y :: b => by
    have ih := cmpB_cases a b
    unfold Lib.compareBytes Op.bytesLess
    by_cases h1 : x < y
    · refine .inr (.inl ⟨by simp [h1], ?_, by simp [h1]⟩)
      intro h
      injection h with h2 _
      subst h2
      exact absurd h1 (UInt8.lt_irrefl x)
    · by_cases h2 : y < x
      · refine .inr (.inr ⟨by simp [h1, h2], ?_, ?_⟩)
        · intro h
          injection h with h3 _
          subst h3
          exact absurd h2 (UInt8.lt_irrefl x)
        · have : (x == y) = false := by
            rw [beq_eq_false_iff_ne]
            intro h3
            subst h3
            exact absurd h2 (UInt8.lt_irrefl x)
          simp [h1, this]
      · have h3 : x = y := UInt8.le_antisymm (UInt8.not_lt.1 h2) (UInt8.not_lt.1 h1)
        subst h3
        simpa [h1] using ih
theorem cmpS_cases (a b : ByteArray) : (cmpS a b = 0 ∧ a = b) ∨ (cmpS a b = -1 ∧ a ≠ b ∧ lessS a b = true) ∨ (cmpS a b = 1 ∧ a ≠ b ∧ lessS a b = false) := by
  have h := cmpB_cases a.data.toList b.data.toList
  unfold cmpS lessS
  rw [ByteArray.toList_eq, ByteArray.toList_eq]
  have e : a.data.toList = b.data.toList ↔ a = b := by
    constructor
    · intro h
      obtain ⟨x⟩ := a
      obtain ⟨y⟩ := b
      simp at h
      rw [h]
    · intro h
      rw [h]
  simp only [ne_eq, e] at h
  exact h
theorem beq_toList (a b : ByteArray) : (a.toList == b.toList) = decide (a = b) := by
  rw [Bool.eq_iff_iff, ByteArray.toList_eq, ByteArray.toList_eq]
  obtain ⟨x⟩ := a
  obtain ⟨y⟩ := b
  simp
theorem cmpI_cases (x y : Int) : (cmpI x y = 0 ∧ x = y) ∨ (cmpI x y = -1 ∧ x < y) ∨ (cmpI x y = 1 ∧ y < x) := by
  unfold cmpI
  split
  · exact .inr (.inl ⟨rfl, by assumption⟩)
  · split
    · exact .inr (.inr ⟨rfl, by assumption⟩)
    · exact .inl ⟨rfl, by omega⟩
theorem c_cmp_isNaN (x : Int) (w : World) : Calls Tryz.prog 136 #[.int .i64 x] w fun e w' => e = .returned (.bool false) ∧ w = w' := by
  go_enter Tryz.func136, Tryz.ntmps136
  go_wp2_with fail
  go_ret
  exact ⟨ret_bool (by simp), rfl⟩
theorem c_cmp_Compare (x y : Int) (w : World) : Calls Tryz.prog 128 #[.int .i64 x, .int .i64 y] w fun e w' => e = .returned (.int .i64 (cmpI x y)) ∧ w = w' := by
  by_cases h1 : x < y
  · go_enter Tryz.func128, Tryz.ntmps128
    go_wp2_with (first | (go_at_call 136; refine (c_cmp_isNaN _ _).mono ?_; rintro e w1 ⟨rfl, rfl⟩))
    go_ret
    exact ⟨ret_int (by unfold cmpI; rw [if_pos h1]), rfl⟩
  · by_cases h2 : y < x
    · go_enter Tryz.func128, Tryz.ntmps128
      go_wp2_with (first | (go_at_call 136; refine (c_cmp_isNaN _ _).mono ?_; rintro e w1 ⟨rfl, rfl⟩))
      go_ret
      exact ⟨ret_int (by unfold cmpI; rw [if_neg (by omega), if_pos (by omega)]), rfl⟩
    · go_enter Tryz.func128, Tryz.ntmps128
      go_wp2_with (first | (go_at_call 136; refine (c_cmp_isNaN _ _).mono ?_; rintro e w1 ⟨rfl, rfl⟩))
      go_ret
      exact ⟨ret_int (by unfold cmpI; rw [if_neg (by omega), if_neg (by omega)]), rfl⟩
theorem run_CompareString (a b : ByteArray) (w : World) : (callFunc 140 #[.string a, .string b]).run Tryz.prog w = .ok (.value (.int .i64 (cmpS a b))) w := by
  rw [run_callFunc_extern Tryz.func140 (by kernel_rfl) (by kernel_rfl) (by kernel_rfl) (e := Extern.BytealgCompare.compare) (by kernel_rfl), Lib.run_compareString]
  rfl
theorem c_CompareString (a b : ByteArray) (w : World) : Calls Tryz.prog 135 #[.string a, .string b] w fun e w' => e = .returned (.int .i64 (cmpS a b)) ∧ w = w' := by
  have h := run_CompareString a b
  go_enter Tryz.func135, Tryz.ntmps135
  go_wp2
  go_ret
  exact ⟨rfl, rfl⟩
theorem c_strings_Compare (a b : ByteArray) (w : World) : Calls Tryz.prog 127 #[.string a, .string b] w fun e w' => e = .returned (.int .i64 (cmpS a b)) ∧ w = w' := by
  go_enter Tryz.func127, Tryz.ntmps127
  go_wp2_with (first | (go_at_call 135; refine (c_CompareString _ _ _).mono ?_; rintro e w1 ⟨rfl, rfl⟩))
  go_ret
  exact ⟨rfl, rfl⟩
def C_Int (n : Int) (cs : List Value) : Prop := cs = [.int .i64 n]
theorem part_ints (l : List Int) : Part C_Int 1 l l.length (l.map (Value.int .i64)).toArray := by
  refine ⟨by simp, fun i d _ hd => ⟨[.int .i64 d], rfl, fun j hj => ?_, rfl⟩⟩
  obtain rfl : j = 0 := by omega
  simp [hd]
theorem orI_drop (l : List Int) (k : Nat) (x : Int) (h : l[k]? = some x) : orI (l.drop k) = if x == 0 then orI (l.drop (k + 1)) else x := by
  have hl : k < l.length := (List.getElem?_eq_some_iff.1 h).1
  rw [List.drop_eq_getElem_cons hl]
  have : l[k] = x := by rw [List.getElem?_eq_getElem hl] at h; exact Option.some.inj h
  rw [this]
  rfl
theorem c_cmp_Or (l : List Int) (v : Value) (w : World) (lo : Nat) (hs : SlOf C_Int 1 lo w.heap.size w l v) : Calls Tryz.prog 126 #[v] w fun e w' => e = .returned (.int .i64 (orI l)) ∧ w = w' := by
  obtain ⟨A, c, rfl, hlc, hc, hA⟩ := hs
  go_enter Tryz.func126, Tryz.ntmps126
  go_wp2_with fail
  go_loop [8] (fun i => ∃ k : Nat, k ≤ l.length ∧ i = .int .i64 k ∧ orI l = orI (l.drop k)) (fun i => l.length - (intOf i).toNat)
  case atStart => exact ⟨0, Nat.zero_le _, rfl, rfl⟩
  case round =>
    obtain ⟨k, hk, rfl, heq⟩ := hrel
    have Heq := Lib.hid heq
    clear heq
    by_cases hlt : k < l.length
    · obtain ⟨b, o, rfl, -, -, hcell⟩ := hA (by omega)
      obtain ⟨d, hd⟩ := exists_at hlt
      obtain ⟨es, -, hcs, rfl⟩ := hcell k d hd
      have hc0 := hcs 0 (by omega)
      simp at hc0
      have Ho := Lib.hid (orI_drop l k d hd)
      clear hcs hcell hA
      rcases hz : d == 0 with _ | _
      · have hz2 : (d != 0) = true := by simp [bne, hz]
        have Hf := Lib.hid (show orI l = d by rw [Heq.out, Ho.out, hz]; rfl)
        go_wp2_with fail
        go_ret
        exact ⟨ret_int Hf.out.symm, rfl⟩
      · have hz2 : (d != 0) = false := by simp [bne, hz]
        have Hf := Lib.hid (show orI l = orI (l.drop (k + 1)) by rw [Heq.out, Ho.out, hz]; rfl)
        go_wp2_with fail
        go_round
        case rel => exact ⟨k + 1, by omega, by go_num, Hf.out⟩
        case measure => simp [intOf]; omega
    · obtain rfl : k = l.length := by omega
      have Hf := Lib.hid (show orI l = 0 by rw [Heq.out, List.drop_length]; rfl)
      clear hA
      go_wp2_with fail
      go_ret
      exact ⟨ret_int Hf.out.symm, rfl⟩
theorem heap_new {w : World} {o : Obj} {b : Nat} (h : b = w.heap.size) : (w.alloc o).heap[b]? = some o := by subst h; exact heap_alloc_new w o
theorem ints_at (l : List Int) (w : World) (b : Nat) (T : TypeId) (h : l.length ≤ 9223372036854775807) (hg : w.heap[b]? = some (.cells (l.map (Value.int .i64)).toArray T (0, 0))) : SlOf C_Int 1 0 w.heap.size w l (.slice (some ⟨b, 0, none⟩) l.length l.length) :=
  SlOf.of_part (part_ints l) hg (Nat.zero_le _) (row_lt hg) (Nat.le_refl _) h
theorem c_cmp_Or3 (x y z : Int) (w : World) (b : Nat) (T : TypeId) (hg : w.heap[b]? = some (.cells #[.int .i64 x, .int .i64 y, .int .i64 z] T (0, 0))) : Calls Tryz.prog 126 #[.slice (some ⟨b, 0, none⟩) 3 3] w fun e w' => e = .returned (.int .i64 (orI [x, y, z])) ∧ w = w' :=
  c_cmp_Or [x, y, z] _ _ 0 (ints_at [x, y, z] w b T (by simp) hg)
theorem c_cmp_Or4 (x y z u : Int) (w : World) (b : Nat) (T : TypeId) (hg : w.heap[b]? = some (.cells #[.int .i64 x, .int .i64 y, .int .i64 z, .int .i64 u] T (0, 0))) : Calls Tryz.prog 126 #[.slice (some ⟨b, 0, none⟩) 4 4] w fun e w' => e = .returned (.int .i64 (orI [x, y, z, u])) ∧ w = w' :=
  c_cmp_Or [x, y, z, u] _ _ 0 (ints_at [x, y, z, u] w b T (by simp) hg)
end Go.Proofs.YteecgklmdfockaaGreatDoor
namespace Go.Proofs.YteecgklmdfockaaGreatDoor
open Go.RowKit
/-- Two values hold the keys ks and the kids whose cells are css, in rows of the call's own behind block base. -/
structure MapRows (base : Nat) (w : World) (ks : List ByteArray) (css : List (List Value)) (vk vl : Value) : Prop where
  keys : w.ownsRow base 9 1 vk ks.length (ks.map Value.string)
  kids : w.ownsRow base 30 6 vl css.length css.flatten
  six : ∀ es ∈ css, es.length = 6
  one : ∀ x ∈ css.flatten, x.oneCell' = true
theorem lay_fin {g g5 cap cap5 B : Nat} {w w4 wF : World} {ks : List ByteArray} {vs : List (List Value)} {key : ByteArray} {kc : List Value} {k0 m0 : Int} {f0 : Bool} {t0 : ByteArray} (hlen : vs.length = ks.length) (h6 : ∀ es ∈ vs, es.length = 6) (h1 : ∀ x ∈ vs.flatten, x.oneCell' = true) (hk6 : kc.length = 6) (hk1 : ∀ x ∈ kc, x.oneCell' = true)
    (hw4 : Below w.heap.size w w4) (hF : Aside (fun b => b = w.heap.size ∨ b = w.heap.size + 1 + 1) w4 wF) (hB : w.heap.size + 1 + 1 < B) (hgB : B ≤ g)
    (KK : w4.ownsRow w.heap.size 9 1 (.slice (some ⟨g, 0, none⟩) (ks.length + 1) cap) (ks.length + 1) (ks.map Value.string ++ [.string key]))
    (KV : w4.ownsRow B 30 6 (.slice (some ⟨g5, 0, none⟩) (ks.length + 1) cap5) (ks.length + 1) (vs.flatten ++ kc)) :
    ∃ vk' vl', Ending.returned (.agg #[.int .i64 k0, .bool f0, .int .i64 m0, .string t0, .slice (some ⟨g, 0, none⟩) (ks.length + 1) cap, .slice (some ⟨g5, 0, none⟩) (ks.length + 1) cap5]) = Ending.returned (.agg #[.int .i64 k0, .bool f0, .int .i64 m0, .string t0, vk', vl']) ∧ MapRows w.heap.size wF (ks ++ [key]) (vs ++ [kc]) vk' vl' ∧ Below w.heap.size w wF := by
  refine ⟨_, _, rfl, ⟨?_, ?_, six_push h6 hk6, ?_⟩, hw4.trans (hF.below hw4.size (fun i hi => by omega))⟩
  · have := ownsRow_carry KK (fun q hq => by
      simp [Value.ownBlock] at hq
      subst hq
      exact hF.block g (KK.lt g rfl).2 (by omega))
    simpa using this
  · have := ownsRow_carry (own_less KV (show w.heap.size ≤ B by omega)) (fun q hq => by
      have h3 := KV.lt q hq
      exact hF.block q h3.2 (by omega))
    simp only [List.flatten_append, List.length_append, List.flatten_cons, List.flatten_nil, List.append_nil, List.length_cons, List.length_nil, hlen]
    exact this
  · intro x hx
    simp only [List.flatten_append, List.flatten_cons, List.flatten_nil, List.append_nil, List.mem_append] at hx
    rcases hx with hx | hx
    · exact h1 x hx
    · exact hk1 x hx
set_option maxHeartbeats 10000000 in
set_option maxRecDepth 10000 in
theorem c_lay (ks : List ByteArray) (vs : List (List Value)) (key t : ByteArray) (k0 m0 k m : Int) (f0 f : Bool) (t0 : ByteArray) (B4 B5 : Option Addr) (n4 d4 n5 d5 : Nat) (vk vl : Value) (base : Nat) (w : World) (h : MapRows base w ks vs vk vl) (hlen : vs.length = ks.length) (hks : ∀ x ∈ ks, x.size ≤ 9223372036854775807) (hlt : ∀ x ∈ ks, lessS x key = true) (hk : ks.length ≤ 1048576) :
    Calls Tryz.prog 71 #[.agg #[.int .i64 k0, .bool f0, .int .i64 m0, .string t0, vk, vl], .string key, .agg #[.int .i64 k, .bool f, .int .i64 m, .string t, .slice B4 n4 d4, .slice B5 n5 d5]] w fun e w' => ∃ vk' vl', e = .returned (.agg #[.int .i64 k0, .bool f0, .int .i64 m0, .string t0, vk', vl']) ∧ MapRows w.heap.size w' (ks ++ [key]) (vs ++ [[.int .i64 k, .bool f, .int .i64 m, .string t, .slice B4 n4 d4, .slice B5 n5 d5]]) vk' vl' ∧ Below w.heap.size w w' := by
  obtain ⟨i0, hi, hz0, hz1, hz2⟩ := info_parts (show (Tryz.prog.info? 30).map (fun i => (i.zero, i.size, i.bytes)) = some (some (.agg #[.int .i64 0, .bool false, .int .i64 0, .string ⟨#[]⟩, .slice none 0 0, .slice none 0 0]), 6, 88) from by kernel_rfl)
  obtain ⟨j0, gi, gz0, gz1, gz2⟩ := info_parts (show (Tryz.prog.info? 9).map (fun i => (i.zero, i.size, i.bytes)) = some (some (.string ⟨#[]⟩), 1, 16) from by kernel_rfl)
  obtain ⟨hkeys, hkids, h6, h1⟩ := h
  rw [hlen] at hkids
  have hS := own_strs hkeys hks
  obtain ⟨A4, c4, rfl⟩ := own_form hkeys
  obtain ⟨A5, c5, rfl⟩ := own_form hkids
  have Hkeys := Lib.hid hkeys
  have Hkids := Lib.hid hkids
  have H1 := Lib.hid h1
  have hlc5 : ks.length ≤ c5 := own_cap hkids
  clear h1
  have Hlen := Lib.hid hlen
  have Hlt := Lib.hid hlt
  obtain ⟨A4', c4', hv, hlc, hcc, hA⟩ := hS
  simp only [Value.slice.injEq, true_and] at hv
  obtain ⟨rfl, rfl⟩ := hv
  clear hkeys hkids hlen hlt hks
  go_enter Tryz.func71, Tryz.ntmps71
  go_wp2_with fail
  go_loopw [7] (fun i wr => ∃ j : Nat, j ≤ ks.length ∧ i = .int .i64 j ∧ wr.heap[w.heap.size]? = some (.cells #[.int .i64 k0, .bool f0, .int .i64 m0, .string t0, .slice A4 ks.length c4, .slice A5 ks.length c5] 30 (0, 0)) ∧ wr.heap[w.heap.size + 1]? = some (.cells #[.int .i64 k, .bool f, .int .i64 m, .string t, .slice B4 n4 d4, .slice B5 n5 d5] 30 (0, 0)) ∧ wr.heap[w.heap.size + 1 + 1]? = some (.cells #[.int .i64 0, .bool false, .int .i64 0, .string ⟨#[]⟩, .slice none 0 0, .slice none 0 0] 30 (0, 0)) ∧ Below w.heap.size w wr) (fun i _ => ks.length - (intOf i).toNat)
  case atStart => exact ⟨0, Nat.zero_le _, rfl, (Below.heap_alloc _ _ _ (by simp; omega)).trans ((Below.heap_alloc _ _ _ (by simp)).trans (heap_alloc_new _ _)), (Below.heap_alloc _ _ _ (by simp)).trans (heap_at (by simp)), heap_at (by simp), bel⟩
  case round =>
    obtain ⟨j, hj, rfl, hT, hK, hZ, hbr⟩ := hrel
    obtain ⟨x0, x1, x2, x3, x4, x5, xf⟩ := row6 hT
    have hl1 := row_lt hT
    have hl2 := row_lt hK
    have hl8 := row_lt hZ
    have HT := Lib.hid hT
    have HK := Lib.hid hK
    have HZ := Lib.hid hZ
    clear hT hK hZ
    by_cases hlt : j < ks.length
    · obtain ⟨b, o, rfl, -, hb2, hcell⟩ := hA (by omega)
      obtain ⟨d, hd⟩ := exists_at hlt
      obtain ⟨es, -, hcs, rfl, hd2⟩ := hcell j d hd
      have hc0 := (hbr.cell (p := ⟨b, o + j * 1 + 0, none⟩) (by simp; omega)).trans (hcs 0 (by omega))
      simp at hc0
      have hbl : b < wr.heap.size := Nat.lt_of_lt_of_le hb2 hbr.size
      have hj0 : (0 : Int) ≤ j := by omega
      have hj1 : (j : Int) < ks.length := by omega
      have hcmp := Hlt.out d (List.mem_of_getElem? hd)
      unfold lessS at hcmp
      clear hcs hcell hA hd
      go_wp2_with fail
      go_roundw
      case rel => exact ⟨j + 1, by omega, by go_num, HT.out, HK.out, HZ.out, bel⟩
      case measure => simp [intOf]; omega
    · obtain rfl : j = ks.length := by omega
      clear hA
      have hK0 : wr.ownsRow base 9 1 (.slice A4 ks.length c4) ks.length (ks.map Value.string) := ownsRow_carry Hkeys.out (fun q hq => hbr.block q (Hkeys.out.lt q hq).2)
      obtain ⟨v1, w1, hr1, ho1, hg1, ha1⟩ := run_append_row (P := Tryz.prog) (wr.alloc (.cells #[] 9)) 27 27 w.heap.size 9 j0 (.string ⟨#[]⟩) 1 16 Tryz.underlying27 gi gz0 gz1 gz2 rfl (by decide) (.slice (some ⟨wr.heap.size, 0, none⟩) 0 0) 0 [] (own_empty rfl (by omega)) base ks.length (ks.map Value.string) (.slice A4 ks.length c4) (hK0.alloc _) (one_strs ks) (by unfold maxLen; omega) (by omega) (by simp; omega)
      rw [Nat.zero_add, List.nil_append] at ho1
      obtain ⟨E4, e4, rfl⟩ := own_form ho1
      obtain ⟨g, cap, w2, hr2, ho2, hg2, ha2, hl3⟩ := run_append_lies (P := Tryz.prog) (w1.alloc (.cells #[.string key] 9)) 27 27 w.heap.size 9 j0 (.string ⟨#[]⟩) 1 16 Tryz.underlying27 gi gz0 gz1 gz2 rfl (by decide) (.slice E4 ks.length e4) ks.length (ks.map Value.string) (ho1.alloc _) ⟨w1.heap.size, 0, none⟩ 1 1 [.string key] rfl (World.news_of_block (heap_at rfl)) (by intro u hu; simp at hu; subst hu; rfl) (by decide) (by unfold maxLen; omega) (by omega) (by have := hg1.size; simp at this ⊢; omega) _ rfl
      go_wp2_with (at_builtin; first | refine wpList_append_of rfl (.tmp 26) (.tmp 30) 27 rfl _ _ _ w1 rfl rfl hr1 ?_ | refine wpList_append_of rfl (.tmp 31) (.tmp 33) 27 rfl _ _ _ w2 rfl rfl hr2 ?_)
      have hq1 : ∀ q, (Value.slice E4 ks.length e4).ownBlock = some q → wr.heap.size ≤ q := fun q hq => by
        rw [hq] at ha1
        simp [Value.ownBlock] at ha1
        omega
      have hs1 := hg1.size
      have hs2 := hg2.size
      simp at hs1 hs2
      have hb1 : Below wr.heap.size wr w1 := Below.grown (bel : Below wr.heap.size wr (wr.alloc (.cells #[] 9))) hg1 (by simp) (fun q hq => by simp [Value.ownBlock] at hq; omega)
      have hb2 : Below wr.heap.size wr w2 := Below.grown (hb1.alloc hb1.size _) hg2 (by simp; omega) hq1
      have HT2 := Lib.hid ((hb2.block _ hl1).trans HT.out)
      have HK2 := Lib.hid ((hb2.block _ hl2).trans HK.out)
      have HZ2 := Lib.hid ((hb2.block _ hl8).trans HZ.out)
      have hw2 : Below w.heap.size w w2 := hbr.trans (hb2.mono hbr.size)
      have Ho2 := Lib.hid ho2
      have hgw : wr.heap.size ≤ g := by
        rcases ha2 with h | h
        · exact hq1 g h
        · simp at h; omega
      clear x0 x1 x2 x3 x4 x5 xf ho1 ho2 hg1 hg2 ha1 ha2 hr1 hr2 HT HK HZ hq1 hK0 hb1 hb2
      obtain ⟨x0, x1, x2, x3, x4, x5, xf⟩ := row6 HT2.out
      obtain ⟨y0, y1, y2, y3, y4, y5, yf⟩ := row6 HK2.out
      have hl4 := row_lt HT2.out
      have hl5 := row_lt HK2.out
      have hl9 := row_lt HZ2.out
      have hcapK : ks.length + 1 ≤ cap := own_cap Ho2.out
      have hww : wr.heap.size ≤ w2.heap.size := by omega
      have hone : ∀ x ∈ [Value.int .i64 k, .bool f, .int .i64 m, .string t, .slice B4 n4 d4, .slice B5 n5 d5], x.oneCell' = true := by intro u hu; simp at hu; rcases hu with rfl | rfl | rfl | rfl | rfl | rfl <;> rfl
      go_region_law (first | (refine step_append_row rfl (.tmp 35) (.tmp 39) 28 rfl w2.heap.size 30 i0 (.agg #[.int .i64 0, .bool false, .int .i64 0, .string ⟨#[]⟩, .slice none 0 0, .slice none 0 0]) 6 88 Tryz.underlying28 hi hz0 hz1 hz2 rfl (by decide) (.slice (some ⟨_, 0, none⟩) 0 0) 0 [] rfl (by first | exact own_eq (own_empty (w := w2) rfl (Nat.le_refl _)) rfl | exact own_eq ((own_empty (w := w2) rfl (Nat.le_refl _)).alloc (.cells #[.int .i64 k, .bool f, .int .i64 m, .string t, .slice B4 n4 d4, .slice B5 n5 d5] 30)) rfl | exact own_eq (own_empty (w := w2.alloc (.cells #[.int .i64 k, .bool f, .int .i64 m, .string t, .slice B4 n4 d4, .slice B5 n5 d5] 30)) (by simp) (by simp)) rfl) base ks.length vs.flatten (.slice A5 ks.length c5) rfl (ownsRow_carry Hkids.out (fun q hq => Below.block (bel : Below w.heap.size w _) q (Hkids.out.lt q hq).2)) H1.out (by unfold maxLen; omega) (by omega) (by simp <;> omega) ?_; intro v3 w3 ho3 hg3 ha3; rw [Nat.zero_add, List.nil_append] at ho3; obtain ⟨E5, e5, rfl⟩ := own_form ho3; have hb3 : Below w2.heap.size w2 w3 := Below.grown (bel : Below w2.heap.size w2 _) hg3 (by simp <;> omega) (fun q hq => (by simp [Value.ownBlock] at hq; omega)); obtain ⟨z0, z1, z2, z3, z4, z5, zf⟩ := row6 ((hb3.block _ hl5).trans HK2.out); have hl6 : w.heap.size + 1 < w3.heap.size := Nat.lt_of_lt_of_le hl5 hb3.size) | (refine step_append_lies _ rfl (.tmp 40) (.tmp 42) 28 rfl w2.heap.size 30 i0 (.agg #[.int .i64 0, .bool false, .int .i64 0, .string ⟨#[]⟩, .slice none 0 0, .slice none 0 0]) 6 88 Tryz.underlying28 hi hz0 hz1 hz2 rfl (by decide) (.slice E5 ks.length e5) ks.length vs.flatten rfl (by first | exact ho3 | exact ho3.alloc _) _ 1 1 [.int .i64 k, .bool f, .int .i64 m, .string t, .slice B4 n4 d4, .slice B5 n5 d5] rfl rfl (by first | exact World.news_of_block (heap_alloc_new _ _) | exact World.news_of_block ((hg3.block _ (by simp <;> omega) (by simp [Value.ownBlock] <;> omega)).trans (heap_at (by simp))) | exact World.news_of_block ((hg3.block _ (by simp <;> omega) (by simp [Value.ownBlock] <;> omega)).trans ((Below.heap_alloc _ _ _ (by simp)).trans (heap_at (by simp))))) hone (by decide) (by unfold maxLen; omega) (by omega) (by have := hb3.size; simp; omega) _ rfl ?_; intro g5 cap5 w4 ho5 hg5 ha5 hl7))
      all_goals
        have hq5 : ∀ q, (Value.slice E5 ks.length e5).ownBlock = some q → w2.heap.size ≤ q := fun q hq => by
          rw [hq] at ha3
          simp [Value.ownBlock] at ha3
          omega
        have hb4 : Below w2.heap.size w2 w4 := Below.grown (bel : Below w2.heap.size w2 _) hg5 (by have := hb3.size; first | omega | (simp; omega)) hq5
        have HT4 := Lib.hid ((hb4.block _ hl4).trans HT2.out)
        have HZ4 := Lib.hid ((hb4.block _ hl9).trans HZ2.out)
        have Ho4 := Lib.hid ho5
        have Hk4 := Lib.hid (ownsRow_carry Ho2.out (fun q hq => hb4.block q (Ho2.out.lt q hq).2))
        have hcapV : ks.length + 1 ≤ cap5 := own_cap ho5
        have hw4 : Below w.heap.size w w4 := hw2.trans (hb4.mono hw2.size)
        have hg5w : w2.heap.size ≤ g5 := by
          rcases ha5 with h | h
          · exact hq5 g5 h
          · have := hb3.size
            (try simp at h)
            omega
        clear x0 x1 x2 x3 x4 x5 xf y0 y1 y2 y3 y4 y5 yf z0 z1 z2 z3 z4 z5 zf ho3 ho5 hg3 hg5 ha3 ha5 hb3
        obtain ⟨x0, x1, x2, x3, x4, x5, xf⟩ := row6 HT4.out
        obtain ⟨y0, y1, y2, y3, y4, y5, yf⟩ := row6 HZ4.out
        have hl10 := row_lt HT4.out
        have hl11 := row_lt HZ4.out
        go_wp2_with (at_builtin; first | refine wpList_append_of rfl (.tmp 44) (.tmp 48) 27 rfl _ _ _ _ rfl rfl (run_append_zero _ _ _ 9 j0 Tryz.underlying27 gi ⟨g, 0, none⟩ (ks.length + 1) cap hcapK _ _) ?_ | refine wpList_append_of rfl (.tmp 51) (.tmp 55) 28 rfl _ _ _ _ rfl rfl (run_append_zero _ _ _ 30 i0 Tryz.underlying28 hi ⟨g5, 0, none⟩ (ks.length + 1) cap5 hcapV _ _) ?_)
        all_goals
          refine bodyPost_ret (v := .agg #[.int .i64 k0, .bool f0, .int .i64 m0, .string t0, .slice (some ⟨g, 0, none⟩) (ks.length + 1) cap, .slice (some ⟨g5, 0, none⟩) (ks.length + 1) cap5]) (by simp only [results, Tryz.results71]; go_simp) rfl (lay_fin (B := wr.heap.size) Hlen.out h6 H1.out rfl hone hw4 (by repeat (first | (with_reducible exact Aside.refl _ _) | ((with_reducible refine aside_set ?_ ?_); (focus (simp; done))) | (with_reducible refine aside_alloc ?_))) hl8 hgw Hk4.out (own_less Ho4.out hww))
end Go.Proofs.YteecgklmdfockaaGreatDoor
namespace Go.Proofs.YteecgklmdfockaaGreatDoor
open Go.RowKit
def leafD (t : ByteArray) : TreeD := ⟨4, false, 0, t, [], []⟩
def effW (x : Int) : ByteArray := if x = 1 then ⟨#[110, 101, 118, 101, 114]⟩ else ⟨#[115, 111, 102, 116]⟩
def wEffect : ByteArray := ⟨#[101, 102, 102, 101, 99, 116]⟩
def wKey : ByteArray := ⟨#[107, 101, 121]⟩
def wValue : ByteArray := ⟨#[118, 97, 108, 117, 101]⟩
theorem own_S {w : World} {base : Nat} {ks : List ByteArray} {v : Value} (h : w.ownsRow base 9 1 v ks.length (ks.map Value.string)) (hs : ∀ k ∈ ks, k.size ≤ 9223372036854775807) : OwnS (fun b => v.ownBlock = some b) w ks v := by
  obtain ⟨hl, h1⟩ := h
  rcases h1 with ⟨rfl, h0⟩ | ⟨g, cap, cur, rfl, hb, hg, hnc, hcm, hcs, ht⟩
  · exact ⟨none, 0, by rw [h0], by omega, by omega, fun hp => by omega⟩
  · refine ⟨_, cap, rfl, hnc, by unfold maxLen at hcm; omega, fun _ => ⟨g, cur, rfl, rfl, hg, fun i s hs' => ?_⟩⟩
    refine ⟨?_, hs s (List.mem_of_getElem? hs')⟩
    have hi : i < ks.length := (List.getElem?_eq_some_iff.1 hs').1
    have : (cur.toList.take (ks.length * 1))[i]? = some (.string s) := by rw [ht, List.getElem?_map, hs']; rfl
    rw [List.getElem?_take, if_pos (by omega), Array.getElem?_toList] at this
    exact this
theorem own_K {n base : Nat} {w : World} {ds : List TreeD} {css : List (List Value)} {v : Value} (F : Nat → Nat → Prop) (hlen : css.length = ds.length) (h6 : ∀ es ∈ css, es.length = 6) (h : w.ownsRow base 30 6 v css.length css.flatten)
    (hF : ∀ i b, F i b → v.ownBlock ≠ some b) (hF2 : ∀ i j b, F i b → F j b → i = j) (hO : ∀ i d es, ds[i]? = some d → css[i]? = some es → OwnT n (F i) w d es) : OwnK (OwnT n) (fun b => v.ownBlock = some b ∨ ∃ i, F i b) w ds v := by
  obtain ⟨hl, h1⟩ := h
  rcases h1 with ⟨rfl, h0⟩ | ⟨g, cap, cur, rfl, hb, hg, hnc, hcm, hcs, ht⟩
  · exact ⟨none, 0, by rw [← hlen, h0], by omega, by omega, fun hp => by omega⟩
  · refine ⟨some ⟨g, 0, none⟩, cap, by rw [hlen], by omega, by unfold maxLen at hcm; omega, fun _ => ⟨g, F, rfl, .inl rfl, fun i b hf => ⟨.inr ⟨i, hf⟩, fun e => hF i b hf (by rw [e]; rfl)⟩, hF2, cur, hg, fun i d hd => ?_⟩⟩
    have hi : i < ds.length := (List.getElem?_eq_some_iff.1 hd).1
    obtain ⟨es, hes⟩ := exists_at (l := css) (k := i) (by omega)
    refine ⟨es, h6 es (List.mem_of_getElem? hes), fun j hj => ?_, hO i d es hd hes⟩
    have : (cur.toList.take (css.length * 6))[i * 6 + j]? = es[j]? := by rw [ht]; exact flat_get css i es j h6 hes hj
    rw [List.getElem?_take, if_pos (by omega), Array.getElem?_toList] at this
    exact this
/-- A map whose rows the call owns, and whose kids lie in blocks of their own. -/
theorem own_map {n base : Nat} {w : World} {S : Nat → Prop} {ks : List ByteArray} {ds : List TreeD} {css : List (List Value)} {vk vl : Value} (F : Nat → Nat → Prop) (hlen : css.length = ds.length) (h6 : ∀ es ∈ css, es.length = 6) (hk : w.ownsRow base 9 1 vk ks.length (ks.map Value.string)) (h : w.ownsRow base 30 6 vl css.length css.flatten)
    (hs : ∀ k ∈ ks, k.size ≤ 9223372036854775807) (hF : ∀ i b, F i b → S b ∧ vk.ownBlock ≠ some b ∧ vl.ownBlock ≠ some b) (hF2 : ∀ i j b, F i b → F j b → i = j) (hO : ∀ i d es, ds[i]? = some d → css[i]? = some es → OwnT n (F i) w d es) (hS : ∀ b, base ≤ b → b < w.heap.size → S b) :
    OwnT (n + 1) S w ⟨6, false, 0, ⟨#[]⟩, ks, ds⟩ [.int .i64 6, .bool false, .int .i64 0, .string ⟨#[]⟩, vk, vl] := by
  refine OwnT.into ⟨vk, vl, _, _, rfl, (show I64 6 from by unfold I64; decide), (show I64 0 from by unfold I64; decide), (show ByteArray.size ⟨#[]⟩ ≤ 9223372036854775807 from by decide), ?_, ?_, own_S hk hs, own_K F hlen h6 h (fun i b hf => (hF i b hf).2.2) hF2 hO⟩
  · intro b hb
    refine ⟨hS b (hk.lt b hb).1 (hk.lt b hb).2, ?_⟩
    rintro (h1 | ⟨i, h1⟩)
    · exact own_apart hk h (by decide) b hb h1
    · exact (hF i b h1).2.1 hb
  · rintro b (h1 | ⟨i, h1⟩)
    · exact hS b (h.lt b h1).1 (h.lt b h1).2
    · exact (hF i b h1).1
theorem own_leafT {n : Nat} {S : Nat → Prop} {w : World} {t : ByteArray} (ht : t.size ≤ 9223372036854775807) : OwnT (n + 1) S w (leafD t) (leafC t) :=
  OwnT.into ⟨.slice none 0 0, .slice none 0 0, fun _ => False, fun _ => False, rfl, (show I64 4 from by unfold I64; decide), (show I64 0 from by unfold I64; decide), ht, fun _ h => h.elim, fun _ h => h.elim, ⟨none, 0, rfl, Nat.le_refl _, by decide, fun h => by simp [leafD] at h⟩, ⟨none, 0, rfl, Nat.le_refl _, by decide, fun h => by simp [leafD] at h⟩⟩
theorem own_none {n : Nat} {S : Nat → Prop} {w : World} : OwnT (n + 1) S w ⟨0, false, 0, ⟨#[]⟩, [], []⟩ [.int .i64 0, .bool false, .int .i64 0, .string ⟨#[]⟩, .slice none 0 0, .slice none 0 0] :=
  OwnT.into ⟨.slice none 0 0, .slice none 0 0, fun _ => False, fun _ => False, rfl, (show I64 0 from by unfold I64; decide), (show I64 0 from by unfold I64; decide), (show ByteArray.size ⟨#[]⟩ ≤ 9223372036854775807 from by decide), fun _ h => h.elim, fun _ h => h.elim, ⟨none, 0, rfl, Nat.le_refl _, by decide, fun h => by simp at h⟩, ⟨none, 0, rfl, Nat.le_refl _, by decide, fun h => by simp at h⟩⟩
theorem leaf_six (ts : List ByteArray) : ∀ es ∈ ts.map leafC, es.length = 6 := by
  intro es h
  obtain ⟨t, -, rfl⟩ := List.mem_map.1 h
  rfl
/-- A map of texts. -/
theorem own_texts {n base : Nat} {w : World} {S : Nat → Prop} {ks ts : List ByteArray} {vk vl : Value} (hk : w.ownsRow base 9 1 vk ks.length (ks.map Value.string)) (h : w.ownsRow base 30 6 vl (ts.map leafC).length (ts.map leafC).flatten)
    (hs : ∀ k ∈ ks, k.size ≤ 9223372036854775807) (ht : ∀ t ∈ ts, t.size ≤ 9223372036854775807) (hS : ∀ b, base ≤ b → b < w.heap.size → S b) :
    OwnT (n + 2) S w ⟨6, false, 0, ⟨#[]⟩, ks, ts.map leafD⟩ [.int .i64 6, .bool false, .int .i64 0, .string ⟨#[]⟩, vk, vl] := by
  refine own_map (n := n + 1) (css := ts.map leafC) (fun _ _ => False) (by simp) (leaf_six ts) hk h hs (fun _ _ h => h.elim) (fun _ _ _ h => h.elim) ?_ hS
  intro i d es h1 h2
  rw [List.getElem?_map] at h1 h2
  rcases hi : ts[i]? with _ | t
  · rw [hi] at h1; cases h1
  · rw [hi] at h1 h2
    simp at h1 h2
    subst h1 h2
    exact own_leafT (ht t (List.mem_of_getElem? hi))
theorem LeafMap.carry {base tb : Nat} {w w' : World} {ks : List ByteArray} {css : List (List Value)} {vk vl : Value} (h : LeafMap base tb w ks css vk vl) (hb : Below w.heap.size w w') : LeafMap base tb w' ks css vk vl :=
  ⟨(hb.block tb (row_lt h.row)).trans h.row, ownsRow_carry h.keys (fun q hq => hb.block q (h.keys.lt q hq).2), ownsRow_carry h.kids (fun q hq => hb.block q (h.kids.lt q hq).2), h.six, h.lt⟩
theorem MapRows.carry {base : Nat} {w w' : World} {ks : List ByteArray} {css : List (List Value)} {vk vl : Value} (h : MapRows base w ks css vk vl) (hb : Below w.heap.size w w') : MapRows base w' ks css vk vl :=
  ⟨ownsRow_carry h.keys (fun q hq => hb.block q (h.keys.lt q hq).2), ownsRow_carry h.kids (fun q hq => hb.block q (h.kids.lt q hq).2), h.six, h.one⟩
theorem MapRows.less {base B : Nat} {w : World} {ks : List ByteArray} {css : List (List Value)} {vk vl : Value} (h : MapRows B w ks css vk vl) (hb : base ≤ B) : MapRows base w ks css vk vl := ⟨own_less h.keys hb, own_less h.kids hb, h.six, h.one⟩
theorem c_addLeaf (ks : List ByteArray) (css : List (List Value)) (key t : ByteArray) (vk vl : Value) (tb base : Nat) (w : World) (h : LeafMap base tb w ks css vk vl) (hb : base ≤ w.heap.size) (hk : ks.length ≤ 1048576) (hv : css.length ≤ 1048576) :
    Calls Tryz.prog 32 #[.pointer (some ⟨tb, 0, none⟩), .string key, .agg (leafC t).toArray] w fun e w' => ∃ vk' vl', e = .returned (.tuple #[]) ∧ LeafMap base tb w' (ks ++ [key]) (css ++ [leafC t]) vk' vl' ∧ Below tb w w' ∧ w.heap.size ≤ w'.heap.size := by
  refine (c_addKid ks css key t 4 0 false none none 0 0 0 0 vk vl tb base w h hb hk hv).mono ?_
  rintro e w' ⟨vk', vl', rfl, h1, h2⟩
  refine ⟨vk', vl', rfl, h1, h2.below (Nat.le_of_lt (row_lt h.row)) ?_, h2.size⟩
  rintro i (rfl | hi | hi)
  · exact Nat.le_refl _
  · have := (h.keys.lt i hi).1; have := h.lt; omega
  · have := (h.kids.lt i hi).1; have := h.lt; omega
theorem c_impl_TextTree (t : ByteArray) (w : World) : Calls Tryz.prog 81 #[.string t] w fun e w' => e = .returned (.agg (leafC t).toArray) ∧ Below w.heap.size w w' := by
  go_enter Tryz.func81, Tryz.ntmps81
  go_wp2_with fail
  exact bodyPost_ret (v := .agg #[.int .i64 4, .bool false, .int .i64 0, .string t, .slice none 0 0, .slice none 0 0]) (by simp only [results, Tryz.results81]; go_simp) rfl ⟨rfl, bel⟩
theorem c_spec_TextTree (t : ByteArray) (w : World) : Calls Tryz.prog 68 #[.string t] w fun e w' => e = .returned (.agg (leafC t).toArray) ∧ Below w.heap.size w w' := by
  go_enter Tryz.func68, Tryz.ntmps68
  go_wp2_with fail
  exact bodyPost_ret (v := .agg #[.int .i64 4, .bool false, .int .i64 0, .string t, .slice none 0 0, .slice none 0 0]) (by simp only [results, Tryz.results68]; go_simp) rfl ⟨rfl, bel⟩
theorem c_effectWord (x : Int) (w : World) : Calls Tryz.prog 85 #[.int .i64 x] w fun e w' => e = .returned (.string (effW x)) ∧ Below w.heap.size w w' := by
  by_cases hx : x = 1
  · subst hx
    go_enter Tryz.func85, Tryz.ntmps85
    go_wp2_with fail
    go_ret
    exact ⟨rfl, bel⟩
  · have hx2 : (x == 1) = false := beq_eq_false_iff_ne.2 hx
    go_enter Tryz.func85, Tryz.ntmps85
    go_wp2_with fail
    go_ret
    exact ⟨by rw [show effW x = ⟨#[115, 111, 102, 116]⟩ from if_neg hx]; rfl, bel⟩
theorem c_l19Effects (w : World) : Calls Tryz.prog 73 #[] w fun e w' => e = .returned (.slice (some ⟨w.heap.size, 0, none⟩) 3 3) ∧ w'.heap[w.heap.size]? = some (.cells #[.string ⟨#[]⟩, .string ⟨#[110, 101, 118, 101, 114]⟩, .string ⟨#[115, 111, 102, 116]⟩] 9 (0, 0)) ∧ Below w.heap.size w w' := by
  go_enter Tryz.func73, Tryz.ntmps73
  go_wp2_with fail
  go_ret
  exact ⟨rfl, heap_at (by simp), bel⟩
theorem put_fin {base b B : Nat} {w w1 wF : World} {ks : List ByteArray} {css : List (List Value)} {vk vl : Value} {k0 m0 : Int} {f0 : Bool} {t0 : ByteArray} (hm : MapRows B w1 ks css vk vl) (hbB : base ≤ B) (hB : b < B) (hF : Aside (fun i => i = b) w1 wF) (hw : Below w.heap.size w w1) (hbase : base = w.heap.size) (hb : base ≤ b) :
    ∃ vk' vl', Ending.returned (.agg #[.int .i64 k0, .bool f0, .int .i64 m0, .string t0, vk, vl]) = Ending.returned (.agg #[.int .i64 k0, .bool f0, .int .i64 m0, .string t0, vk', vl']) ∧ MapRows base wF ks css vk' vl' ∧ Below w.heap.size w wF :=
  ⟨vk, vl, rfl, ⟨ownsRow_carry (own_less hm.keys hbB) (fun q hq => hF.block q (hm.keys.lt q hq).2 (by have := (hm.keys.lt q hq).1; omega)), ownsRow_carry (own_less hm.kids hbB) (fun q hq => hF.block q (hm.kids.lt q hq).2 (by have := (hm.kids.lt q hq).1; omega)), hm.six, hm.one⟩,
    hw.trans (hF.below hw.size (fun i hi => by omega))⟩
set_option maxHeartbeats 2000000 in
set_option maxRecDepth 10000 in
theorem c_l20Put (ks : List ByteArray) (vs : List (List Value)) (key t : ByteArray) (k0 m0 k m : Int) (f0 f : Bool) (t0 : ByteArray) (B4 B5 : Option Addr) (n4 d4 n5 d5 : Nat) (vk vl : Value) (base : Nat) (w : World) (h : MapRows base w ks vs vk vl) (hlen : vs.length = ks.length) (hks : ∀ x ∈ ks, x.size ≤ 9223372036854775807) (hlt : ∀ x ∈ ks, lessS x key = true) (hk : ks.length ≤ 1048576) :
    Calls Tryz.prog 24 #[.agg #[.int .i64 k0, .bool f0, .int .i64 m0, .string t0, vk, vl], .string key, .agg #[.int .i64 k, .bool f, .int .i64 m, .string t, .slice B4 n4 d4, .slice B5 n5 d5]] w fun e w' => ∃ vk' vl', e = .returned (.agg #[.int .i64 k0, .bool f0, .int .i64 m0, .string t0, vk', vl']) ∧ MapRows w.heap.size w' (ks ++ [key]) (vs ++ [[.int .i64 k, .bool f, .int .i64 m, .string t, .slice B4 n4 d4, .slice B5 n5 d5]]) vk' vl' ∧ Below w.heap.size w w' := by
  obtain ⟨A4, c4, rfl⟩ := own_form h.keys
  obtain ⟨A5, c5, rfl⟩ := own_form h.kids
  have Hlen := Lib.hid hlen
  clear hlen
  go_enter Tryz.func24, Tryz.ntmps24
  go_wp2_with fail
  refine (c_lay ks vs key t k0 m0 k m f0 f t0 B4 B5 n4 d4 n5 d5 _ _ base _ (h.carry bel) Hlen.out hks hlt hk).mono ?_
  rintro e w1 ⟨vk', vl', rfl, hm, hb⟩
  have Bw : Below w.heap.size w w1 := Below.trans bel (hb.mono (by simp; omega))
  have hz := hb.size
  simp at hz
  have R := (hb.block (w.heap.size + 1 + 1) (by simp)).trans (heap_at (by simp))
  obtain ⟨A6, c6, rfl⟩ := own_form hm.keys
  obtain ⟨A7, c7, rfl⟩ := own_form hm.kids
  have HM2 := Lib.hid (hm.less (show w.heap.size + 1 + 1 + 1 ≤ _ by simp))
  simp only [List.length_append, List.length_cons, List.length_nil, Nat.zero_add] at HM2
  clear hm hb
  obtain ⟨x0, x1, x2, x3, x4, x5, xf⟩ := row6 R
  have hl := row_lt R
  clear R
  go_wp2_with fail
  refine bodyPost_ret (v := .agg #[.int .i64 k0, .bool f0, .int .i64 m0, .string t0, .slice A6 (ks.length + 1) c6, .slice A7 (vs.length + 1) c7]) (by simp only [results, Tryz.results24]; go_simp) rfl (put_fin (b := w.heap.size + 1 + 1) (B := w.heap.size + 1 + 1 + 1) HM2.out (by omega) (by omega) ((by repeat (first | (with_reducible exact Aside.refl _ _) | ((with_reducible refine aside_set ?_ ?_); (focus (simp; done))) | (with_reducible refine aside_alloc ?_))) : Aside (fun b => b = w.heap.size + 1 + 1) w1 _) Bw rfl (by omega))
end Go.Proofs.YteecgklmdfockaaGreatDoor
namespace Go.Proofs.YteecgklmdfockaaGreatDoor
open Go.RowKit
def letterB (c : Int) : Bool := decide (97 ≤ c ∧ c ≤ 122 ∨ 65 ≤ c ∧ c ≤ 90 ∨ 48 ≤ c ∧ c ≤ 57)
def digitB (c : Int) : Bool := decide (48 ≤ c ∧ c ≤ 57)
def lowerB (c : Int) : Bool := decide (97 ≤ c ∧ c ≤ 122)
def alphaB (c : Int) : Bool := decide (97 ≤ c ∧ c ≤ 122 ∨ 65 ≤ c ∧ c ≤ 90)
def inB (x a b : Int) : Bool := decide (a ≤ x ∧ x ≤ b)
theorem c_spec_l14Letter (c : Int) (w : World) : Calls Tryz.prog 106 #[.int .u8 c] w fun e w' => e = .returned (.bool (letterB c)) ∧ w = w' := by
  go_enter Tryz.func106, Tryz.ntmps106
  go_wp2_with fail
  all_goals
    go_ret
    refine ⟨ret_bool ?_, rfl⟩
    rw [Bool.eq_iff_iff]
    simp [letterB]
    try omega
theorem c_impl_isDigit (c : Int) (w : World) : Calls Tryz.prog 112 #[.int .u8 c] w fun e w' => e = .returned (.bool (digitB c)) ∧ w = w' := by
  go_enter Tryz.func112, Tryz.ntmps112
  go_wp2_with fail
  all_goals
    go_ret
    refine ⟨ret_bool ?_, rfl⟩
    rw [Bool.eq_iff_iff]
    simp [digitB]
    try omega
theorem c_impl_isLower (c : Int) (w : World) : Calls Tryz.prog 111 #[.int .u8 c] w fun e w' => e = .returned (.bool (lowerB c)) ∧ w = w' := by
  go_enter Tryz.func111, Tryz.ntmps111
  go_wp2_with fail
  all_goals
    go_ret
    refine ⟨ret_bool ?_, rfl⟩
    rw [Bool.eq_iff_iff]
    simp [lowerB]
    try omega
theorem c_impl_isLetter (c : Int) (w : World) : Calls Tryz.prog 133 #[.int .u8 c] w fun e w' => e = .returned (.bool (alphaB c)) ∧ w = w' := by
  go_enter Tryz.func133, Tryz.ntmps133
  go_wp2_with (first | (go_at_call 111; refine (c_impl_isLower _ _).mono ?_; rintro e w' ⟨rfl, rfl⟩))
  all_goals
    go_ret
    refine ⟨ret_bool ?_, rfl⟩
    rw [Bool.eq_iff_iff]
    simp_all [alphaB, lowerB]
    try omega
theorem c_impl_wordOk1 (c : Int) (w : World) : Calls Tryz.prog 132 #[.int .u8 c] w fun e w' => e = .returned (.bool (letterB c)) ∧ w = w' := by
  go_enter Tryz.func132, Tryz.ntmps132
  go_wp2_with (first | (go_at_call 133; refine (c_impl_isLetter _ _).mono ?_; rintro e w' ⟨rfl, rfl⟩) | (go_at_call 112; refine (c_impl_isDigit _ _).mono ?_; rintro e w' ⟨rfl, rfl⟩))
  all_goals
    go_ret
    refine ⟨ret_bool ?_, rfl⟩
    rw [Bool.eq_iff_iff]
    simp_all [alphaB, digitB, letterB]
    try omega
theorem c_impl_within (x a b : Int) (w : World) : Calls Tryz.prog 80 #[.int .i64 x, .int .i64 a, .int .i64 b] w fun e w' => e = .returned (.bool (inB x a b)) ∧ w = w' := by
  go_enter Tryz.func80, Tryz.ntmps80
  go_wp2_with fail
  all_goals
    go_ret
    refine ⟨ret_bool ?_, rfl⟩
    rw [Bool.eq_iff_iff]
    simp [inB]
    try omega
theorem c_spec_l01In (x a b : Int) (w : World) : Calls Tryz.prog 66 #[.int .i64 x, .int .i64 a, .int .i64 b] w fun e w' => e = .returned (.bool (inB x a b)) ∧ w = w' := by
  go_enter Tryz.func66, Tryz.ntmps66
  go_wp2_with fail
  all_goals
    go_ret
    refine ⟨ret_bool ?_, rfl⟩
    rw [Bool.eq_iff_iff]
    simp [inB]
    try omega
theorem run_IndexByteString (s : ByteArray) (c : Int) (w : World) : (callFunc 143 #[.string s, .int .u8 c]).run Tryz.prog w = .ok (.value (.int .i64 (Lib.indexByte s.data.toList c.toNat.toUInt8))) w := by
  rw [run_callFunc_extern Tryz.func143 (by kernel_rfl) (by kernel_rfl) (by kernel_rfl) (e := Extern.BytealgIndexByte.indexByte) (by kernel_rfl), Lib.run_indexByteString]
  rfl
theorem indexByte_lt {o : List UInt8} {c : UInt8} : Lib.indexByte o c < 0 ↔ o.contains c = false := by
  have h := Lib.contains_iff_indexByte o c
  rw [h]; simp
theorem c_slite_IndexByte (s : ByteArray) (c : UInt8) (w : World) : Calls Tryz.prog 139 #[.string s, .int .u8 c.toNat] w fun e w' => e = .returned (.int .i64 (Lib.indexByte s.data.toList c)) ∧ w = w' := by
  have h := run_IndexByteString s c.toNat
  rw [show ((c.toNat : Int)).toNat.toUInt8 = c from by simp] at h
  go_enter Tryz.func139, Tryz.ntmps139
  go_wp2
  go_ret
  exact ⟨rfl, rfl⟩
theorem c_strings_IndexByte (s : ByteArray) (c : UInt8) (w : World) : Calls Tryz.prog 134 #[.string s, .int .u8 c.toNat] w fun e w' => e = .returned (.int .i64 (Lib.indexByte s.data.toList c)) ∧ w = w' := by
  go_enter Tryz.func134, Tryz.ntmps134
  go_wp2_with (go_at_call 139; refine (c_slite_IndexByte _ _ _).mono ?_; rintro e w' ⟨rfl, rfl⟩)
  go_ret
  exact ⟨rfl, rfl⟩
end Go.Proofs.YteecgklmdfockaaGreatDoor
namespace Go.Proofs.YteecgklmdfockaaGreatDoor
open Go.RowKit
def goodB (o : List UInt8) (c : UInt8) : Bool := letterB (c.toNat : Int) || o.contains c
def wordB (s : ByteArray) (o : List UInt8) : Bool :=
  s.data.toList.all (goodB o) && (match s.data.toList.head? with | some c => letterB (c.toNat : Int) | none => false) && (match s.data.toList.getLast? with | some c => letterB (c.toNat : Int) | none => false)
theorem data_take_succ (s : ByteArray) (k : Nat) (h : k < s.size) : s.data.toList.take (k + 1) = s.data.toList.take k ++ [s[k]] := by
  rw [List.take_succ_eq_append_getElem (by simpa using h)]; rfl
theorem data_getElem? (s : ByteArray) (k : Nat) (h : k < s.size) : s.data.toList[k]? = some s[k] := by
  rw [List.getElem?_eq_getElem (by simpa using h)]; rfl
theorem data_length (s : ByteArray) : s.data.toList.length = s.size := by simp
theorem data_head (s : ByteArray) (h : 0 < s.size) : s.data.toList.head? = some s[0] := by
  rw [List.head?_eq_getElem?, data_getElem? s 0 h]
theorem data_last (s : ByteArray) (h : 0 < s.size) : s.data.toList.getLast? = some (s[s.size - 1]'(by omega)) := by
  rw [List.getLast?_eq_getElem?, data_length, data_getElem? s _ (by omega)]
theorem u8_beq (a b : UInt8) : ((a.toNat : Int) == (b.toNat : Int)) = (a == b) := by
  rw [Bool.eq_iff_iff, beq_iff_eq, beq_iff_eq, ← UInt8.toNat_inj]; omega
theorem wordB_of (s : ByteArray) (o : List UInt8) (h : 0 < s.size) (ha : s.data.toList.all (goodB o) = true) :
    wordB s o = (letterB (s[0].toNat : Int) && letterB ((s[s.size - 1]'(by omega)).toNat : Int)) := by
  simp only [wordB, ha, data_head s h, data_last s h, Bool.true_and]
theorem wordB_bad (s : ByteArray) (o : List UInt8) (k : Nat) (hk : k < s.size) (h1 : letterB (s[k].toNat : Int) = false) (h2 : o.contains s[k] = false) : wordB s o = false := by
  have : s.data.toList.all (goodB o) = false := by
    rw [List.all_eq_false]
    exact ⟨s[k], List.mem_iff_getElem?.2 ⟨k, data_getElem? s k hk⟩, by simp only [goodB, h1, h2]; decide⟩
  simp only [wordB, this, Bool.false_and]
theorem all_take_succ (s : ByteArray) (p : UInt8 → Bool) (k : Nat) (h : k < s.size) (ha : (s.data.toList.take k).all p = true) (hp : p s[k] = true) : (s.data.toList.take (k + 1)).all p = true := by
  rw [data_take_succ s k h, List.all_append, ha]; simp [hp]
theorem take_all_size (s : ByteArray) : s.data.toList.take s.size = s.data.toList := List.take_of_length_le (by simp)
set_option maxHeartbeats 400000 in
theorem c_impl_wordOk (s o : ByteArray) (w : World) (h0 : 0 < s.size) (h1 : s.size ≤ 9223372036854775807) : Calls Tryz.prog 125 #[.string s, .string o] w fun e w' => e = .returned (.bool (wordB s o.data.toList)) ∧ w = w' := by
  go_enter Tryz.func125, Tryz.ntmps125
  go_wp2_with fail
  go_loop [9] (fun i => ∃ k : Nat, k ≤ s.size ∧ i = .int .i64 k ∧ (s.data.toList.take k).all (goodB o.data.toList) = true) (fun i => s.size - (intOf i).toNat)
  case atStart => exact ⟨0, Nat.zero_le _, rfl, by simp⟩
  case round =>
    obtain ⟨k, hk, rfl, hall⟩ := hrel
    have Hall := Lib.hid hall
    clear hall
    by_cases hlt : k < s.size
    · rcases hl : letterB (s[k].toNat : Int) with _ | _
      · rcases hi : o.data.toList.contains s[k] with _ | _
        · have hx := indexByte_lt.2 hi
          have Hf := Lib.hid (wordB_bad s o.data.toList k hlt hl hi)
          have Hi := Lib.hid hi
          clear hi
          go_wp2_with (first | (go_at_call 132; refine (c_impl_wordOk1 _ _).mono ?_; rintro e w' ⟨rfl, rfl⟩) | (go_at_call 134; refine (c_strings_IndexByte _ _ _).mono ?_; rintro e w' ⟨rfl, rfl⟩))
          go_ret
          exact ⟨ret_bool Hf.out.symm, rfl⟩
        · have hx : ¬ Lib.indexByte o.data.toList s[k] < 0 := fun h => by rw [indexByte_lt.1 h] at hi; cases hi
          have Hn := Lib.hid (all_take_succ s _ k hlt Hall.out (show goodB o.data.toList s[k] = true by simp only [goodB, hi, Bool.or_true]))
          have Hi := Lib.hid hi
          clear hi
          go_wp2_with (first | (go_at_call 132; refine (c_impl_wordOk1 _ _).mono ?_; rintro e w' ⟨rfl, rfl⟩) | (go_at_call 134; refine (c_strings_IndexByte _ _ _).mono ?_; rintro e w' ⟨rfl, rfl⟩))
          go_round
          case rel => exact ⟨k + 1, by omega, by go_num, Hn.out⟩
          case measure => simp [intOf]; omega
      · have Hn := Lib.hid (all_take_succ s _ k hlt Hall.out (show goodB o.data.toList s[k] = true by simp only [goodB, hl, Bool.true_or]))
        go_wp2_with (first | (go_at_call 132; refine (c_impl_wordOk1 _ _).mono ?_; rintro e w' ⟨rfl, rfl⟩) | (go_at_call 134; refine (c_strings_IndexByte _ _ _).mono ?_; rintro e w' ⟨rfl, rfl⟩))
        go_round
        case rel => exact ⟨k + 1, by omega, by go_num, Hn.out⟩
        case measure => simp [intOf]; omega
    · obtain rfl : k = s.size := by omega
      have Hf := Lib.hid (wordB_of s o.data.toList h0 (by rw [← take_all_size]; exact Hall.out))
      go_wp2_with (first | (go_at_call 132; refine (c_impl_wordOk1 _ _).mono ?_; rintro e w' ⟨rfl, rfl⟩))
      all_goals
        go_ret
        exact ⟨ret_bool (by rw [Hf.out]; simp_all), rfl⟩
end Go.Proofs.YteecgklmdfockaaGreatDoor
namespace Go.Proofs.YteecgklmdfockaaGreatDoor
open Go.RowKit
theorem wordB_empty (s : ByteArray) (o : List UInt8) (h : s.size = 0) : wordB s o = false := by
  have : s.data.toList = [] := List.eq_nil_of_length_eq_zero (by rw [data_length]; exact h)
  simp [wordB, this]
theorem wordB_head (s : ByteArray) (o : List UInt8) (h : 0 < s.size) (hf : letterB (s[0].toNat : Int) = false) : wordB s o = false := by
  simp [wordB, data_head s h, hf]
theorem wordB_last (s : ByteArray) (o : List UInt8) (h : 0 < s.size) (hf : letterB ((s[s.size - 1]'(by omega)).toNat : Int) = false) : wordB s o = false := by
  simp [wordB, data_last s h, hf]
theorem contains_take_succ (o : ByteArray) (m : Nat) (h : m < o.size) (c : UInt8) : (o.data.toList.take (m + 1)).contains c = ((o.data.toList.take m).contains c || o[m] == c) := by
  rw [data_take_succ o m h]; simp only [List.contains_append, List.contains_cons, List.contains_nil, Bool.or_false]; rw [BEq.comm (a := c)]
set_option maxHeartbeats 400000 in
theorem c_spec_l14Word (s o : ByteArray) (w : World) (h1 : s.size ≤ 9223372036854775807) (h2 : o.size ≤ 9223372036854775807) : Calls Tryz.prog 123 #[.string s, .string o] w fun e w' => e = .returned (.bool (wordB s o.data.toList)) ∧ ∃ n, w' = w.drewN n := by
  by_cases h0 : 0 < s.size
  · have hz : ((s.size : Int) == 0) = false := beq_eq_false_iff_ne.2 (by omega)
    rcases hf : letterB (s[0].toNat : Int) with _ | _
    · have Hf := Lib.hid (wordB_head s o.data.toList h0 hf)
      go_enter Tryz.func123, Tryz.ntmps123
      go_wp2_with (first | (go_at_call 106; refine (c_spec_l14Letter _ _).mono ?_; rintro e w' ⟨rfl, rfl⟩))
      go_ret
      exact ⟨ret_bool Hf.out.symm, 0, rfl⟩
    · rcases hg : letterB ((s[s.size - 1]'(by omega)).toNat : Int) with _ | _
      · have Hf := Lib.hid (wordB_last s o.data.toList h0 hg)
        go_enter Tryz.func123, Tryz.ntmps123
        go_wp2_with (first | (go_at_call 106; refine (c_spec_l14Letter _ _).mono ?_; rintro e w' ⟨rfl, rfl⟩))
        go_ret
        exact ⟨ret_bool Hf.out.symm, 0, rfl⟩
      · go_enter Tryz.func123, Tryz.ntmps123
        go_wp2_with (first | (go_at_call 106; refine (c_spec_l14Letter _ _).mono ?_; rintro e w' ⟨rfl, rfl⟩))
        go_loopw [5] (fun i wr => ∃ k : Nat, k ≤ s.size ∧ i = .int .i64 k ∧ (s.data.toList.take k).all (goodB o.data.toList) = true ∧ ∃ n, wr = w.drewN n) (fun i _ => s.size - (intOf i).toNat)
        case atStart => exact ⟨0, Nat.zero_le _, rfl, by simp, 0, rfl⟩
        case round =>
          obtain ⟨k, hk, rfl, hall, n, rfl⟩ := hrel
          have Hall := Lib.hid hall
          clear hall
          by_cases hlt : k < s.size
          · go_wp2_with (first | (go_at_call 106; refine (c_spec_l14Letter _ _).mono ?_; rintro e w' ⟨rfl, rfl⟩))
            go_loopw [6, 7] (fun b j wr => ∃ m : Nat, m ≤ o.size ∧ j = .int .i64 m ∧ b = .bool (letterB (s[k].toNat : Int) || (o.data.toList.take m).contains s[k]) ∧ ∃ n, wr = w.drewN n) (fun _ j _ => o.size - (intOf j).toNat)
            case atStart => exact ⟨0, Nat.zero_le _, rfl, by simp, n, rfl⟩
            case round =>
              obtain ⟨m, hm, rfl, rfl, n1, rfl⟩ := hrel
              by_cases hlm : m < o.size
              · rcases hb : (letterB (s[k].toNat : Int) || (o.data.toList.take m).contains s[k]) with _ | _
                · have Hn := Lib.hid (contains_take_succ o m hlm s[k])
                  have He := Lib.hid (u8_beq s[k] o[m])
                  have Hb := Lib.hid hb
                  clear hb
                  go_wp2_with fail
                  go_quiet (fail)
                  go_wp2_with fail
                  go_roundw
                  case rel => exact ⟨m + 1, by omega, by go_num, by rw [Hn.out, ← Bool.or_assoc, Hb.out, He.out, Bool.false_or, Bool.beq_comm], _, rfl⟩
                  case measure => simp [intOf]; omega
                · have Hn := Lib.hid (contains_take_succ o m hlm s[k])
                  have Hb := Lib.hid hb
                  go_wp2_with fail
                  go_quiet (fail)
                  go_wp2_with fail
                  go_roundw
                  case rel => exact ⟨m + 1, by omega, by go_num, by rw [Hn.out, ← Bool.or_assoc, Hb.out, Bool.true_or], _, rfl⟩
                  case measure => simp [intOf]; omega
              · obtain rfl : m = o.size := by omega
                rw [take_all_size]
                rcases hb : (letterB (s[k].toNat : Int) || o.data.toList.contains s[k]) with _ | _
                · have Hf := Lib.hid (wordB_bad s o.data.toList k hlt (by simp at hb; exact hb.1) (by simp at hb; simpa using hb.2))
                  go_wp2_with fail
                  go_ret
                  exact ⟨ret_bool Hf.out.symm, _, rfl⟩
                · have Hn := Lib.hid (all_take_succ s _ k hlt Hall.out (show goodB o.data.toList s[k] = true from hb))
                  go_wp2_with fail
                  go_roundw
                  case rel => exact ⟨k + 1, by omega, by go_num, Hn.out, _, rfl⟩
                  case measure => simp [intOf]; omega
          · obtain rfl : k = s.size := by omega
            have Hf := Lib.hid (wordB_of s o.data.toList h0 (by rw [← take_all_size]; exact Hall.out))
            go_wp2_with fail
            go_ret
            exact ⟨ret_bool (by rw [Hf.out, hf, hg]; rfl), _, rfl⟩
  · have Hf := Lib.hid (wordB_empty s o.data.toList (by omega))
    have hz : ((s.size : Int) == 0) = true := beq_iff_eq.2 (by omega)
    go_enter Tryz.func123, Tryz.ntmps123
    go_wp2_with fail
    go_ret
    exact ⟨ret_bool Hf.out.symm, 0, rfl⟩
end Go.Proofs.YteecgklmdfockaaGreatDoor
namespace Go.Proofs.YteecgklmdfockaaGreatDoor
open Go.RowKit
def lkB (s : ByteArray) : Bool := decide (s.size ≤ 30) && wordB s [45, 95, 46, 47]
def lvB (s : ByteArray) : Bool := s.toList.isEmpty || (decide (s.size ≤ 20) && wordB s [45, 95, 46])
def tolB (k : ByteArray) (q : Bool) (v : ByteArray) (e : Int) : Bool := (lkB k || k.toList.isEmpty && !q) && lvB v && (v.toList.isEmpty || q) && inB e 0 2
theorem c_impl_LabelKeyOk (s : ByteArray) (w : World) (h1 : s.size ≤ 9223372036854775807) : Calls Tryz.prog 113 #[.string s] w fun e w' => e = .returned (.bool (lkB s)) ∧ w = w' := by
  rcases hi : inB (s.size : Int) 1 30 with _ | _
  · have hf : lkB s = false := by
      simp [inB] at hi
      by_cases h0 : s.size = 0
      · simp [lkB, wordB_empty s _ h0]
      · simp [lkB]; intro; omega
    have Hf := Lib.hid hf
    clear hf
    go_enter Tryz.func113, Tryz.ntmps113
    go_wp2_with (first | (go_at_call 80; refine (c_impl_within _ _ _ _).mono ?_; rintro e w' ⟨rfl, rfl⟩))
    go_ret
    exact ⟨ret_bool Hf.out.symm, rfl⟩
  · simp [inB] at hi
    have hf : lkB s = wordB s [45, 95, 46, 47] := by simp [lkB]; intro; omega
    have hi2 : inB (s.size : Int) 1 30 = true := by simp [inB]; omega
    have Hf := Lib.hid hf
    clear hf
    go_enter Tryz.func113, Tryz.ntmps113
    go_wp2_with (first | (go_at_call 80; refine (c_impl_within _ _ _ _).mono ?_; rintro e w' ⟨rfl, rfl⟩) | (go_at_call 125; refine (c_impl_wordOk _ _ _ (by omega) (by omega)).mono ?_; rintro e w' ⟨rfl, rfl⟩))
    go_ret
    exact ⟨ret_bool Hf.out.symm, rfl⟩
theorem c_impl_LabelValueOk (s : ByteArray) (w : World) (h1 : s.size ≤ 9223372036854775807) : Calls Tryz.prog 114 #[.string s] w fun e w' => e = .returned (.bool (lvB s)) ∧ w = w' := by
  rcases he : s.toList.isEmpty with _ | _
  · have h0 := isEmpty_false he
    by_cases h20 : s.size ≤ 20
    · have Hf := Lib.hid (show lvB s = wordB s [45, 95, 46] by simp [lvB, he, h20])
      go_enter Tryz.func114, Tryz.ntmps114
      go_wp2_with (first | (go_at_call 125; refine (c_impl_wordOk _ _ _ (by omega) (by omega)).mono ?_; rintro e w' ⟨rfl, rfl⟩))
      go_ret
      exact ⟨ret_bool Hf.out.symm, rfl⟩
    · have Hf := Lib.hid (show lvB s = false by simp [lvB, he, h20])
      go_enter Tryz.func114, Tryz.ntmps114
      go_wp2_with (first | (go_at_call 125; refine (c_impl_wordOk _ _ _ (by omega) (by omega)).mono ?_; rintro e w' ⟨rfl, rfl⟩))
      go_ret
      exact ⟨ret_bool Hf.out.symm, rfl⟩
  · have Hf := Lib.hid (show lvB s = true by simp [lvB, he])
    go_enter Tryz.func114, Tryz.ntmps114
    go_wp2_with fail
    go_ret
    exact ⟨ret_bool Hf.out.symm, rfl⟩
theorem c_spec_LabelKeyOk (s : ByteArray) (w : World) (h1 : s.size ≤ 9223372036854775807) : Calls Tryz.prog 107 #[.string s] w fun e w' => e = .returned (.bool (lkB s)) ∧ Below w.heap.size w w' := by
  have hs : (ByteArray.mk #[45, 95, 46, 47]).size ≤ 9223372036854775807 := by decide
  by_cases h20 : s.size ≤ 30
  · have Hf := Lib.hid (show lkB s = wordB s [45, 95, 46, 47] by simp [lkB, h20])
    go_enter Tryz.func107, Tryz.ntmps107
    go_wp2_with (go_at_call 123; refine (c_spec_l14Word _ _ _ h1 hs).mono ?_; rintro e w' ⟨rfl, n', rfl⟩)
    go_ret
    exact ⟨ret_bool Hf.out.symm, bel⟩
  · have Hf := Lib.hid (show lkB s = false by simp [lkB, h20])
    go_enter Tryz.func107, Tryz.ntmps107
    go_wp2_with fail
    go_ret
    exact ⟨ret_bool Hf.out.symm, bel⟩
theorem c_spec_LabelValueOk (s : ByteArray) (w : World) (h1 : s.size ≤ 9223372036854775807) : Calls Tryz.prog 108 #[.string s] w fun e w' => e = .returned (.bool (lvB s)) ∧ Below w.heap.size w w' := by
  have hs : (ByteArray.mk #[45, 95, 46]).size ≤ 9223372036854775807 := by decide
  rcases he : s.toList.isEmpty with _ | _
  · by_cases h20 : s.size ≤ 20
    · have Hf := Lib.hid (show lvB s = wordB s [45, 95, 46] by simp [lvB, he, h20])
      go_enter Tryz.func108, Tryz.ntmps108
      go_wp2_with (go_at_call 123; refine (c_spec_l14Word _ _ _ h1 hs).mono ?_; rintro e w' ⟨rfl, n', rfl⟩)
      go_ret
      exact ⟨ret_bool Hf.out.symm, bel⟩
    · have Hf := Lib.hid (show lvB s = false by simp [lvB, he, h20])
      go_enter Tryz.func108, Tryz.ntmps108
      go_wp2_with fail
      go_ret
      exact ⟨ret_bool Hf.out.symm, bel⟩
  · have Hf := Lib.hid (show lvB s = true by simp [lvB, he])
    go_enter Tryz.func108, Tryz.ntmps108
    go_wp2_with fail
    go_ret
    exact ⟨ret_bool Hf.out.symm, bel⟩
theorem c_impl_ToleranceOk (k : ByteArray) (q : Bool) (v : ByteArray) (x : Int) (w : World) (h1 : k.size ≤ 9223372036854775807) (h2 : v.size ≤ 9223372036854775807) : Calls Tryz.prog 103 #[.agg #[.string k, .bool q, .string v, .int .i64 x]] w fun e w' => e = .returned (.bool (tolB k q v x)) ∧ Below w.heap.size w w' := by
  go_enter Tryz.func103, Tryz.ntmps103
  go_wp2_with (first | (go_at_call 113; refine (c_impl_LabelKeyOk _ _ (by omega)).mono ?_; rintro e w1 ⟨rfl, rfl⟩) | (go_at_call 114; refine (c_impl_LabelValueOk _ _ (by omega)).mono ?_; rintro e w1 ⟨rfl, rfl⟩) | (go_at_call 80; refine (c_impl_within _ _ _ _).mono ?_; rintro e w' ⟨rfl, rfl⟩))
  all_goals
    go_ret
    exact ⟨ret_bool (by simp_all [tolB]), bel⟩
theorem c_spec_ToleranceOk (k : ByteArray) (q : Bool) (v : ByteArray) (x : Int) (w : World) (h1 : k.size ≤ 9223372036854775807) (h2 : v.size ≤ 9223372036854775807) : Calls Tryz.prog 95 #[.agg #[.string k, .bool q, .string v, .int .i64 x]] w fun e w' => e = .returned (.bool (tolB k q v x)) ∧ Below w.heap.size w w' := by
  go_enter Tryz.func95, Tryz.ntmps95
  go_wp2_with (first | (go_at_call 107; refine (c_spec_LabelKeyOk _ _ (by omega)).mono ?_; rintro e w1 ⟨rfl, hb⟩; (first | (have hcu2 := Cum.join hcu hb; (try clear hcu); (try clear hc); (try clear hfz); (try clear hsz); (try clear hs0); (try clear hs1); (try clear hs2); (try clear hs3); (try clear hs4); ) | have hcu2 := Cum.mk hb); have hcu := hcu2; clear hcu2; obtain ⟨hc, hfz⟩ := bcell hcu.h; have hsz := hcu.h.size; (try simp at hsz); (try have hs0 := lt_of_succ_le hsz); (try (have hs1 := lt_pred hsz; (try (have hs2 := lt_pred hs1; (try (have hs3 := lt_pred hs2; (try have hs4 := lt_pred hs3)))))))) | (go_at_call 108; refine (c_spec_LabelValueOk _ _ (by omega)).mono ?_; rintro e w1 ⟨rfl, hb⟩; (first | (have hcu2 := Cum.join hcu hb; (try clear hcu); (try clear hc); (try clear hfz); (try clear hsz); (try clear hs0); (try clear hs1); (try clear hs2); (try clear hs3); (try clear hs4); ) | have hcu2 := Cum.mk hb); have hcu := hcu2; clear hcu2; obtain ⟨hc, hfz⟩ := bcell hcu.h; have hsz := hcu.h.size; (try simp at hsz); (try have hs0 := lt_of_succ_le hsz); (try (have hs1 := lt_pred hsz; (try (have hs2 := lt_pred hs1; (try (have hs3 := lt_pred hs2; (try have hs4 := lt_pred hs3)))))))) | (go_at_call 66; refine (c_spec_l01In _ _ _ _).mono ?_; rintro e w' ⟨rfl, rfl⟩))
  all_goals
    go_ret
    exact ⟨ret_bool (by simp_all [tolB, lvB, Bool.or_comm]), bel⟩
end Go.Proofs.YteecgklmdfockaaGreatDoor
