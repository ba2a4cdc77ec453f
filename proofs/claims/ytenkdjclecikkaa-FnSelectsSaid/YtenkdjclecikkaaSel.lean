/- Contracts of NeedLess and of what it rests on (cmp.Compare and slices.Compare of strings). No conditions. -/
import Derived.Test.YtenkdjclecikkaaNeed
import Derived.Test.YtenkdjclecikkaaCmp
import Derived.Test.YtenkdjclecikkaaDet
import Derived.Test.YtenkdjclecikkaaChain
import Derived.Test.YtenkdjclecikkaaCum2
namespace Go.Proofs.Ytenkdjclecikkaa
open Go.RowKit

theorem bless_irrefl : ∀ a : List UInt8, Op.bytesLess a a = false
  | [] => rfl
  | x :: a => by unfold Op.bytesLess; simp [UInt8.lt_irrefl, bless_irrefl a]
theorem bless_swap : ∀ a b : List UInt8, a ≠ b → Op.bytesLess b a = !Op.bytesLess a b
  | [], [], h => absurd rfl h
  | [], _ :: _, _ => rfl
  | _ :: _, [], _ => rfl
  | x :: a, y :: b, h => by
    unfold Op.bytesLess
    by_cases h1 : x < y
    · have h2 : ¬ y < x := fun h2 => absurd (UInt8.lt_trans h1 h2) (UInt8.lt_irrefl x)
      have h3 : (y == x) = false := by rw [beq_eq_false_iff_ne]; intro e; subst e; exact absurd h1 (UInt8.lt_irrefl _)
      simp [h1, h2, h3]
    · by_cases h2 : y < x
      · have h3 : (x == y) = false := by rw [beq_eq_false_iff_ne]; intro e; subst e; exact absurd h2 (UInt8.lt_irrefl _)
        simp [h1, h2, h3]
      · have h3 : x = y := UInt8.le_antisymm (UInt8.not_lt.1 h2) (UInt8.not_lt.1 h1)
        subst h3
        have h4 : a ≠ b := fun e => h (by rw [e])
        simpa [h1] using bless_swap a b h4
theorem lessS_irrefl (a : ByteArray) : lessS a a = false := bless_irrefl _
theorem lessS_swap {a b : ByteArray} (h : a ≠ b) : lessS b a = !lessS a b := by
  unfold lessS
  apply bless_swap
  intro e
  apply h
  rw [ByteArray.toList_eq, ByteArray.toList_eq] at e
  obtain ⟨x⟩ := a
  obtain ⟨y⟩ := b
  simp at e
  rw [e]
theorem cmpS_less (a b : ByteArray) : cmpS a b = if lessS a b then -1 else if lessS b a then 1 else 0 := by
  rcases cmpS_cases a b with ⟨e, d⟩ | ⟨e, d, l⟩ | ⟨e, d, l⟩
  · subst d; rw [e, lessS_irrefl]; rfl
  · rw [e, l]; rfl
  · rw [e, l, lessS_swap d, l]; rfl
def cmpL : List ByteArray → List ByteArray → Int
  | [], [] => 0
  | [], _ :: _ => -1
  | _ :: _, [] => 1
  | x :: a, y :: b => if cmpS x y == 0 then cmpL a b else cmpS x y
theorem cmpL_drop (l m : List ByteArray) (k : Nat) (x y : ByteArray) (hx : l[k]? = some x) (hy : m[k]? = some y) : cmpL (l.drop k) (m.drop k) = if cmpS x y == 0 then cmpL (l.drop (k + 1)) (m.drop (k + 1)) else cmpS x y := by
  have h1 : k < l.length := (List.getElem?_eq_some_iff.1 hx).1
  have h2 : k < m.length := (List.getElem?_eq_some_iff.1 hy).1
  rw [List.drop_eq_getElem_cons h1, List.drop_eq_getElem_cons h2]
  have e1 : l[k] = x := by rw [List.getElem?_eq_getElem h1] at hx; exact Option.some.inj hx
  have e2 : m[k] = y := by rw [List.getElem?_eq_getElem h2] at hy; exact Option.some.inj hy
  rw [e1, e2]
  rfl
theorem cmpL_more (l m : List ByteArray) (k : Nat) (h1 : k < l.length) (h2 : m.length ≤ k) : cmpL (l.drop k) (m.drop k) = 1 := by
  rw [List.drop_eq_getElem_cons h1, List.drop_eq_nil_of_le h2]; rfl
theorem cmpL_end (l m : List ByteArray) (k : Nat) (h1 : l.length ≤ k) : cmpL (l.drop k) (m.drop k) = if k < m.length then -1 else 0 := by
  rw [List.drop_eq_nil_of_le h1]
  by_cases h2 : k < m.length
  · rw [List.drop_eq_getElem_cons h2, if_pos h2]; rfl
  · rw [List.drop_eq_nil_of_le (by omega), if_neg h2]; rfl
def cmpN (a b : Need) : Int := orI [cmpS a.key b.key, cmpI a.op b.op, cmpL a.values b.values]
def lessN (a b : Need) : Bool := decide (cmpN a b < 0)
theorem lessN_def (a b : Need) : lessN a b = decide (cmpN a b < 0) := rfl
theorem cmpS_lt (a b : ByteArray) (h : (a.toList == b.toList) = false) : decide (cmpS a b < 0) = lessS a b := by
  rw [beq_toList] at h
  simp at h
  rcases cmpS_cases a b with ⟨e, d⟩ | ⟨e, d, l⟩ | ⟨e, d, l⟩
  · exact absurd d h
  · rw [e, l]; rfl
  · rw [e, l]; rfl
theorem cmpS_eq0 (a b : ByteArray) : (cmpS a b == 0) = (a.toList == b.toList) := by
  rw [beq_toList]
  rcases cmpS_cases a b with ⟨e, d⟩ | ⟨e, d, l⟩ | ⟨e, d, l⟩
  · rw [e]; simp [d]
  · rw [e]; simp [d]
  · rw [e]; simp [d]
theorem lessN_key (a b : Need) (h : (a.key.toList == b.key.toList) = false) : lessN a b = lessS a.key b.key := by
  rw [← cmpS_lt _ _ h]
  have h0 := cmpS_eq0 a.key b.key
  rw [h] at h0
  unfold lessN cmpN orI
  rw [h0]; rfl
theorem lessN_op (a b : Need) (h : (a.key.toList == b.key.toList) = true) (h2 : a.op ≠ b.op) : lessN a b = decide (a.op < b.op) := by
  have h0 := cmpS_eq0 a.key b.key
  rw [h] at h0
  unfold lessN cmpN orI
  rw [h0]
  unfold orI
  rcases cmpI_cases a.op b.op with ⟨e, d⟩ | ⟨e, d⟩ | ⟨e, d⟩
  · exact absurd d h2
  · simp [e, d]
  · simp [e]; omega
theorem lessN_values (a b : Need) (h : (a.key.toList == b.key.toList) = true) (h2 : a.op = b.op) : lessN a b = decide (cmpL a.values b.values < 0) := by
  have h0 := cmpS_eq0 a.key b.key
  rw [h] at h0
  unfold lessN cmpN orI
  rw [h0]
  unfold orI
  have h3 : cmpI a.op b.op = 0 := by rw [h2]; unfold cmpI; simp
  rw [h3]
  unfold orI
  rcases hz : cmpL a.values b.values == 0 with _ | _
  · simp
  · rw [beq_iff_eq] at hz; rw [hz]; simp [orI]

set_option maxHeartbeats 2000000 in
theorem c_spec_NeedLess (a b : Need) (ca cb : List Value) (w : World) (lo lo' : Nat) (ha : C_Need lo w.heap.size w a ca) (hb : C_Need lo' w.heap.size w b cb) :
    Calls Try.prog 77 #[.agg ca.toArray, .agg cb.toArray] w fun e w' => e = .returned (.bool (lessN a b)) ∧ Below w.heap.size w w' := by
  obtain ⟨va, rfl, -, -, a2⟩ := ha
  obtain ⟨vb, rfl, -, -, b2⟩ := hb
  obtain ⟨A, c, rfl, hlc, hcc, hA⟩ := a2
  obtain ⟨B, c', rfl, hlc', hcc', hB⟩ := b2
  rcases hq : (a.key.toList == b.key.toList) with _ | _
  · have Hf := Lib.hid (lessN_key a b hq)
    unfold lessS at Hf
    go_enter Try.func77, Try.ntmps77
    go_wp2_with fail
    go_ret
    exact ⟨ret_bool Hf.out.symm, (by repeat (first | (with_reducible exact Below.refl _ _) | (with_reducible refine ext_alloc ?_) | ((with_reducible refine ext_setCell ?_ ?_); focus (simp; (try omega))) | (with_reducible refine below_drewN ?_ _) | (with_reducible refine Below.drew ?_) | (with_reducible (apply ext_step; assumption))))⟩
  · by_cases ho : a.op = b.op
    · have Hf := Lib.hid (lessN_values a b hq ho)
      have hx : (a.op != b.op) = false := by rw [ho]; simp
      clear ho
      go_enter Try.func77, Try.ntmps77
      go_wp2_with fail
      go_loopw [5] (fun i wr => ∃ k : Nat, k ≤ a.values.length ∧ k ≤ b.values.length ∧ i = .int .i64 k ∧ cmpL a.values b.values = cmpL (a.values.drop k) (b.values.drop k) ∧ ∃ n, wr = ((w.alloc (.cells #[.string a.key, .int .i64 a.op, .slice A a.values.length c] 43)).alloc (.cells #[.string b.key, .int .i64 b.op, .slice B b.values.length c'] 43)).drewN n) (fun i _ => a.values.length - (intOf i).toNat)
      case atStart => exact ⟨0, Nat.zero_le _, Nat.zero_le _, rfl, rfl, 0, rfl⟩
      case round =>
        obtain ⟨k, hk, hkm, rfl, heq, n, rfl⟩ := hrel
        have Heq := Lib.hid heq
        clear heq
        by_cases hlt : k < a.values.length
        · by_cases hlt2 : k < b.values.length
          · obtain ⟨g, o, rfl, -, hg2, hcell⟩ := hA (by omega)
            obtain ⟨d, hd⟩ := exists_at hlt
            obtain ⟨es, -, hcs, rfl, -⟩ := hcell k d hd
            have hc0 := hcs 0 (by omega)
            simp at hc0
            obtain ⟨g', o', rfl, -, hg2', hcell'⟩ := hB (by omega)
            obtain ⟨d', hd'⟩ := exists_at hlt2
            obtain ⟨es', -, hcs', rfl, -⟩ := hcell' k d' hd'
            have hp0 := hcs' 0 (by omega)
            simp at hp0
            clear hcs hcell hA hcs' hcell' hB
            have hk0 : (0 : Int) ≤ k := by omega
            have hk1 : (k : Int) < a.values.length := by omega
            have hk2 : (k : Int) < b.values.length := by omega
            have Ho := Lib.hid (cmpL_drop a.values b.values k d d' hd hd')
            have He := Lib.hid (cmpS_eq0 d d')
            clear hd hd'
            rcases hz : (d.toList == d'.toList) with _ | _
            · have Hg := Lib.hid (show lessN a b = Op.bytesLess d.toList d'.toList by rw [Hf.out, Heq.out, Ho.out, He.out, hz]; exact cmpS_lt d d' hz)
              go_wp2_with fail
              go_quiet (fail)
              go_wp2_with fail
              go_quiet (fail)
              go_wp2_with fail
              go_ret
              exact ⟨ret_bool Hg.out.symm, (by repeat (first | (with_reducible exact Below.refl _ _) | (with_reducible refine ext_alloc ?_) | ((with_reducible refine ext_setCell ?_ ?_); focus (simp; (try omega))) | (with_reducible refine below_drewN ?_ _) | (with_reducible refine Below.drew ?_) | (with_reducible (apply ext_step; assumption))))⟩
            · have Hn := Lib.hid (show cmpL a.values b.values = cmpL (a.values.drop (k + 1)) (b.values.drop (k + 1)) by rw [Heq.out, Ho.out, He.out, hz]; rfl)
              go_wp2_with fail
              go_quiet (fail)
              go_wp2_with fail
              go_roundw
              case rel => exact ⟨k + 1, by omega, by omega, by go_num, Hn.out, _, rfl⟩
              case measure => simp [intOf]; omega
          · have Hg := Lib.hid (show lessN a b = decide (a.values.length < b.values.length) by rw [Hf.out, Heq.out, cmpL_more _ _ k hlt (by omega)]; simp; omega)
            have hge : (b.values.length : Int) ≤ k := by omega
            have hk1 : (k : Int) < a.values.length := by omega
            clear hA hB
            go_wp2_with fail
            go_ret
            exact ⟨ret_bool Hg.out.symm, (by repeat (first | (with_reducible exact Below.refl _ _) | (with_reducible refine ext_alloc ?_) | ((with_reducible refine ext_setCell ?_ ?_); focus (simp; (try omega))) | (with_reducible refine below_drewN ?_ _) | (with_reducible refine Below.drew ?_) | (with_reducible (apply ext_step; assumption))))⟩
        · obtain rfl : k = a.values.length := by omega
          have Hg := Lib.hid (show lessN a b = decide (a.values.length < b.values.length) by rw [Hf.out, Heq.out, cmpL_end _ _ _ (Nat.le_refl _)]; split <;> simp <;> omega)
          clear hA hB
          go_wp2_with fail
          go_ret
          exact ⟨ret_bool Hg.out.symm, (by repeat (first | (with_reducible exact Below.refl _ _) | (with_reducible refine ext_alloc ?_) | ((with_reducible refine ext_setCell ?_ ?_); focus (simp; (try omega))) | (with_reducible refine below_drewN ?_ _) | (with_reducible refine Below.drew ?_) | (with_reducible (apply ext_step; assumption))))⟩
    · have Hf := Lib.hid (lessN_op a b hq ho)
      have hx : (a.op != b.op) = true := by simp [ho]
      clear ho
      go_enter Try.func77, Try.ntmps77
      go_wp2_with fail
      go_ret
      exact ⟨ret_bool Hf.out.symm, (by repeat (first | (with_reducible exact Below.refl _ _) | (with_reducible refine ext_alloc ?_) | ((with_reducible refine ext_setCell ?_ ?_); focus (simp; (try omega))) | (with_reducible refine below_drewN ?_ _) | (with_reducible refine Below.drew ?_) | (with_reducible (apply ext_step; assumption))))⟩
end Go.Proofs.Ytenkdjclecikkaa
