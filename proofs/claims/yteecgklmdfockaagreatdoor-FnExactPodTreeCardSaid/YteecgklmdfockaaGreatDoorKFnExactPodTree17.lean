/- Written by wip/tools/pack.py: the texts that FnExactPodTree needs, without what it does not need. No conditions. -/
import Derived.Test.YteecgklmdfockaaGreatDoorKFnExactPodTree7
import Derived.Test.YteecgklmdfockaaGreatDoorKFnExactPodTree4
import Derived.Test.YteecgklmdfockaaGreatDoorKFnExactPodTree3
import Derived.Test.YteecgklmdfockaaGreatDoorKFnExactPodTree6
namespace Go.Proofs.YteecgklmdfockaaGreatDoor
open Go.RowKit
theorem bless_irrefl : ∀ a : List UInt8, Op.bytesLess a a = false
  | [] => rfl
  | x :: a => by unfold Op.bytesLess; simp [UInt8.lt_irrefl, bless_irrefl a]
theorem lessS_irrefl (a : ByteArray) : lessS a a = false := bless_irrefl _
def cmpL : List ByteArray → List ByteArray → Int
  | [], [] => 0
  | [], _ :: _ => -1
  | _ :: _, [] => 1
  | x :: a, y :: b => if cmpS x y == 0 then cmpL a b else cmpS x y
theorem cmpL_drop (l m : List ByteArray) (k : Nat) (x y : ByteArray) (hx : l[k]? = some x) (hy : m[k]? = some y) : cmpL (l.drop k) (m.drop k) = if cmpS x y == 0 then cmpL (l.drop (k + 1)) (m.drop (k + 1)) else cmpS x y := by
  have h1 : k < l.length := (List.getElem?_eq_some_iff.1 hx).1
  have h2 : k < m.length := (List.getElem?_eq_some_iff.1 hy).1
  rw [List.drop_eq_getElem_cons h1, List.drop_eq_getElem_cons h2]
  have e1 : l[k] = x := by rw [List.getElem?_eq_getElem h1] at hx; exact Option.some.inj hx
  have e2 : m[k] = y := by rw [List.getElem?_eq_getElem h2] at hy; exact Option.some.inj hy
  rw [e1, e2]
  rfl
theorem cmpL_more (l m : List ByteArray) (k : Nat) (h1 : k < l.length) (h2 : m.length ≤ k) : cmpL (l.drop k) (m.drop k) = 1 := by
  rw [List.drop_eq_getElem_cons h1, List.drop_eq_nil_of_le h2]; rfl
theorem cmpL_end (l m : List ByteArray) (k : Nat) (h1 : l.length ≤ k) : cmpL (l.drop k) (m.drop k) = if k < m.length then -1 else 0 := by
  rw [List.drop_eq_nil_of_le h1]
  by_cases h2 : k < m.length
  · rw [List.drop_eq_getElem_cons h2, if_pos h2]; rfl
  · rw [List.drop_eq_nil_of_le (by omega), if_neg h2]; rfl
def cmpN (a b : Need) : Int := orI [cmpS a.key b.key, cmpI a.op b.op, cmpL a.values b.values]
def lessN (a b : Need) : Bool := decide (cmpN a b < 0)
theorem lessN_def (a b : Need) : lessN a b = decide (cmpN a b < 0) := rfl
theorem cmpS_lt (a b : ByteArray) (h : (a.toList == b.toList) = false) : decide (cmpS a b < 0) = lessS a b := by
  rw [beq_toList] at h
  simp at h
  rcases cmpS_cases a b with ⟨e, d⟩ | ⟨e, d, l⟩ | ⟨e, d, l⟩
  · exact absurd d h
  · rw [e, l]; rfl
  · rw [e, l]; rfl
theorem cmpS_eq0 (a b : ByteArray) : (cmpS a b == 0) = (a.toList == b.toList) := by
  rw [beq_toList]
  rcases cmpS_cases a b with ⟨e, d⟩ | ⟨e, d, l⟩ | ⟨e, d, l⟩
  · rw [e]; simp [d]
  · rw [e]; simp [d]
  · rw [e]; simp [d]
theorem lessN_key (a b : Need) (h : (a.key.toList == b.key.toList) = false) : lessN a b = lessS a.key b.key := by
  rw [← cmpS_lt _ _ h]
  have h0 := cmpS_eq0 a.key b.key
  rw [h] at h0
  unfold lessN cmpN orI
  rw [h0]; rfl
theorem lessN_op (a b : Need) (h : (a.key.toList == b.key.toList) = true) (h2 : a.op ≠ b.op) : lessN a b = decide (a.op < b.op) := by
  have h0 := cmpS_eq0 a.key b.key
  rw [h] at h0
  unfold lessN cmpN orI
  rw [h0]
  unfold orI
  rcases cmpI_cases a.op b.op with ⟨e, d⟩ | ⟨e, d⟩ | ⟨e, d⟩
  · exact absurd d h2
  · simp [e, d]
  · simp [e]; omega
theorem lessN_values (a b : Need) (h : (a.key.toList == b.key.toList) = true) (h2 : a.op = b.op) : lessN a b = decide (cmpL a.values b.values < 0) := by
  have h0 := cmpS_eq0 a.key b.key
  rw [h] at h0
  unfold lessN cmpN orI
  rw [h0]
  unfold orI
  have h3 : cmpI a.op b.op = 0 := by rw [h2]; unfold cmpI; simp
  rw [h3]
  unfold orI
  rcases hz : cmpL a.values b.values == 0 with _ | _
  · simp
  · rw [beq_iff_eq] at hz; rw [hz]; simp [orI]
theorem c_cmp_isNaNS (x : ByteArray) (w : World) : Calls Tryz.prog 148 #[.string x] w fun e w' => e = .returned (.bool false) ∧ w = w' := by
  go_enter Tryz.func148, Tryz.ntmps148
  go_wp2_with fail
  go_ret
  exact ⟨ret_bool (by simp), rfl⟩
theorem c_cmp_CompareS (x y : ByteArray) (w : World) : Calls Tryz.prog 142 #[.string x, .string y] w fun e w' => e = .returned (.int .i64 (cmpS x y)) ∧ w = w' := by
  rcases cmpS_cases x y with ⟨e, d⟩ | ⟨e, d, l⟩ | ⟨e, d, l⟩
  · subst d
    have Hf := Lib.hid e
    have h1 : Op.bytesLess x.toList x.toList = false := lessS_irrefl x
    clear e
    go_enter Tryz.func142, Tryz.ntmps142
    go_wp2_with (first | (go_at_call 148; refine (c_cmp_isNaNS _ _).mono ?_; rintro e w1 ⟨rfl, rfl⟩))
    go_ret
    exact ⟨ret_int Hf.out.symm, rfl⟩
  · have Hf := Lib.hid e
    clear e
    unfold lessS at l
    go_enter Tryz.func142, Tryz.ntmps142
    go_wp2_with (first | (go_at_call 148; refine (c_cmp_isNaNS _ _).mono ?_; rintro e w1 ⟨rfl, rfl⟩))
    go_ret
    exact ⟨ret_int Hf.out.symm, rfl⟩
  · have Hf := Lib.hid e
    have h1 : (x.toList == y.toList) = false := by rw [beq_toList]; simp [d]
    clear e
    unfold lessS at l
    go_enter Tryz.func142, Tryz.ntmps142
    go_wp2_with (first | (go_at_call 148; refine (c_cmp_isNaNS _ _).mono ?_; rintro e w1 ⟨rfl, rfl⟩))
    go_ret
    exact ⟨ret_int Hf.out.symm, rfl⟩
theorem c_slices_Compare (l m : List ByteArray) (vl vm : Value) (w : World) (lo lo' : Nat) (hl : Sl_Str lo w.heap.size w l vl) (hm : Sl_Str lo' w.heap.size w m vm) :
    Calls Tryz.prog 138 #[vl, vm] w fun e w' => e = .returned (.int .i64 (cmpL l m)) ∧ w = w' := by
  obtain ⟨A, c, rfl, hlc, hc, hA⟩ := hl
  obtain ⟨B, c', rfl, hlc', hc', hB⟩ := hm
  go_enter Tryz.func138, Tryz.ntmps138
  go_wp2_with fail
  go_loop [11] (fun i => ∃ k : Nat, k ≤ l.length ∧ k ≤ m.length ∧ i = .int .i64 k ∧ cmpL l m = cmpL (l.drop k) (m.drop k)) (fun i => l.length - (intOf i).toNat)
  case atStart => exact ⟨0, Nat.zero_le _, Nat.zero_le _, rfl, rfl⟩
  case round =>
    obtain ⟨k, hk, hkm, rfl, heq⟩ := hrel
    have Heq := Lib.hid heq
    clear heq
    by_cases hlt : k < l.length
    · obtain ⟨b, o, rfl, -, -, hcell⟩ := hA (by omega)
      obtain ⟨d, hd⟩ := exists_at hlt
      obtain ⟨es, -, hcs, rfl, -⟩ := hcell k d hd
      have hc0 := hcs 0 (by omega)
      simp at hc0
      clear hcs hcell hA
      by_cases hlt2 : k < m.length
      · obtain ⟨b', o', rfl, -, -, hcell'⟩ := hB (by omega)
        obtain ⟨d', hd'⟩ := exists_at hlt2
        obtain ⟨es', -, hcs', rfl, -⟩ := hcell' k d' hd'
        have hp0 := hcs' 0 (by omega)
        simp at hp0
        clear hcs' hcell' hB
        have Ho := Lib.hid (cmpL_drop l m k d d' hd hd')
        clear hd hd'
        rcases hz : cmpS d d' == 0 with _ | _
        · have hz2 : (cmpS d d' != 0) = true := by simp [bne, hz]
          have Hf := Lib.hid (show cmpL l m = cmpS d d' by rw [Heq.out, Ho.out, hz]; rfl)
          go_wp2_with (first | (go_at_call 142; refine (c_cmp_CompareS _ _ _).mono ?_; rintro e w1 ⟨rfl, rfl⟩))
          go_ret
          exact ⟨ret_int Hf.out.symm, rfl⟩
        · have hz2 : (cmpS d d' != 0) = false := by simp [bne, hz]
          have Hf := Lib.hid (show cmpL l m = cmpL (l.drop (k + 1)) (m.drop (k + 1)) by rw [Heq.out, Ho.out, hz]; rfl)
          go_wp2_with (first | (go_at_call 142; refine (c_cmp_CompareS _ _ _).mono ?_; rintro e w1 ⟨rfl, rfl⟩))
          go_round
          case rel => exact ⟨k + 1, by omega, by omega, by go_num, Hf.out⟩
          case measure => simp [intOf]; omega
      · have Hf := Lib.hid (show cmpL l m = 1 by rw [Heq.out, cmpL_more l m k hlt (by omega)])
        have hge : (m.length : Int) ≤ k := by omega
        clear hB
        go_wp2_with fail
        go_ret
        exact ⟨ret_int Hf.out.symm, rfl⟩
    · obtain rfl : k = l.length := by omega
      have Hf := Lib.hid (show cmpL l m = if l.length < m.length then -1 else 0 by rw [Heq.out, cmpL_end l m _ (Nat.le_refl _)])
      clear hA hB
      by_cases hlm : l.length < m.length
      · have Hg := Lib.hid (show cmpL l m = -1 by rw [Hf.out, if_pos hlm])
        have hlm2 : (l.length : Int) < m.length := by omega
        go_wp2_with fail
        go_ret
        exact ⟨ret_int Hg.out.symm, rfl⟩
      · have Hg := Lib.hid (show cmpL l m = 0 by rw [Hf.out, if_neg hlm])
        have hlm2 : (m.length : Int) ≤ l.length := by omega
        go_wp2_with fail
        go_ret
        exact ⟨ret_int Hg.out.symm, rfl⟩
theorem c_impl_compareNeeds (a b : Need) (ca cb : List Value) (w : World) (lo lo' : Nat) (ha : C_Need lo w.heap.size w a ca) (hb : C_Need lo' w.heap.size w b cb) :
    Calls Tryz.prog 130 #[.agg ca.toArray, .agg cb.toArray] w fun e w' => e = .returned (.int .i64 (cmpN a b)) ∧ Below w.heap.size w w' := by
  obtain ⟨va, rfl, -, -, a2⟩ := ha
  obtain ⟨vb, rfl, -, -, b2⟩ := hb
  obtain ⟨A, c, rfl⟩ := a2.form
  obtain ⟨B, c', rfl⟩ := b2.form
  have hq : Below w.heap.size w ((w.alloc (.cells #[.string a.key, .int .i64 a.op, .slice A a.values.length c] 84)).alloc (.cells #[.string b.key, .int .i64 b.op, .slice B b.values.length c'] 84)) := bel
  go_enter Tryz.func130, Tryz.ntmps130
  go_wp2_with fail
  go_region_held3 (fun w' => Below ((w.alloc (.cells #[.string a.key, .int .i64 a.op, .slice A a.values.length c] 84)).alloc (.cells #[.string b.key, .int .i64 b.op, .slice B b.values.length c'] 84)).heap.size ((w.alloc (.cells #[.string a.key, .int .i64 a.op, .slice A a.values.length c] 84)).alloc (.cells #[.string b.key, .int .i64 b.op, .slice B b.values.length c'] 84)) w' ∧ (∀ xb xo, xb < ((w.alloc (.cells #[.string a.key, .int .i64 a.op, .slice A a.values.length c] 84)).alloc (.cells #[.string b.key, .int .i64 b.op, .slice B b.values.length c'] 84)).heap.size → w'.cell? ⟨xb, xo, none⟩ = ((w.alloc (.cells #[.string a.key, .int .i64 a.op, .slice A a.values.length c] 84)).alloc (.cells #[.string b.key, .int .i64 b.op, .slice B b.values.length c'] 84)).cell? ⟨xb, xo, none⟩)) (first | exact keep_drew _ | exact keep_ext (by assumption) (by assumption) | exact keep_same (by assumption) | exact keep_alloc (by assumption) _) (first | (go_at_call 127; refine (c_strings_Compare _ _ _).mono ?_; rintro e w9 ⟨rfl, rfl⟩) | (go_at_call 128; refine (c_cmp_Compare _ _ _).mono ?_; rintro e w9 ⟨rfl, rfl⟩) | (go_at_call 138; refine (c_slices_Compare a.values b.values _ _ _ _ _ (a2.now (ext_trans hq (by first | (with_reducible exact Below.refl _ _) | exact (keep_same (by assumption)).1))) (b2.now (ext_trans hq (by first | (with_reducible exact Below.refl _ _) | exact (keep_same (by assumption)).1)))).mono ?_; rintro e w9 ⟨rfl, rfl⟩) | (go_at_call 126; refine (c_cmp_Or3 (cmpS a.key b.key) (cmpI a.op b.op) (cmpL a.values b.values) _ _ 3 ?_).mono ?_; (focus ((try rw [heap_drew]); (try (refine heap_new ?_; simp)); done)); rintro e w9 ⟨rfl, rfl⟩))
  (have hb := held_step (by assumption); (first | (have hcu2 := Cum.join hcu hb; (try clear hcu); (try clear hc); (try clear hfz); (try clear hsz); (try clear hs0); (try clear hs1); (try clear hs2); (try clear hs3); (try clear hs4); ) | have hcu2 := Cum.mk hb); have hcu := hcu2; clear hcu2; obtain ⟨hc, hfz⟩ := bcell hcu.h; have hsz := hcu.h.size; (try simp at hsz); (try have hs0 := lt_of_succ_le hsz); (try (have hs1 := lt_pred hsz; (try (have hs2 := lt_pred hs1; (try (have hs3 := lt_pred hs2; (try have hs4 := lt_pred hs3))))))))
  go_wp2_with fail
  go_ret
  exact ⟨rfl, bel⟩
theorem c_impl_NeedLess (a b : Need) (ca cb : List Value) (w : World) (lo lo' : Nat) (ha : C_Need lo w.heap.size w a ca) (hb : C_Need lo' w.heap.size w b cb) :
    Calls Tryz.prog 121 #[.agg ca.toArray, .agg cb.toArray] w fun e w' => e = .returned (.bool (lessN a b)) ∧ Below w.heap.size w w' := by
  have hca := ha
  have hcb := hb
  obtain ⟨va, rfl, -, -, a2⟩ := ha
  obtain ⟨vb, rfl, -, -, b2⟩ := hb
  obtain ⟨A, c, rfl⟩ := a2.form
  obtain ⟨B, c', rfl⟩ := b2.form
  go_enter Tryz.func121, Tryz.ntmps121
  go_wp2_with (go_at_call 130; refine (c_impl_compareNeeds a b _ _ _ _ _ (hca.now bel) (hcb.now bel)).mono ?_; rintro e w1 ⟨rfl, hb⟩; (first | (have hcu2 := Cum.join hcu hb; (try clear hcu); (try clear hc); (try clear hfz); (try clear hsz); (try clear hs0); (try clear hs1); (try clear hs2); (try clear hs3); (try clear hs4); ) | have hcu2 := Cum.mk hb); have hcu := hcu2; clear hcu2; obtain ⟨hc, hfz⟩ := bcell hcu.h; have hsz := hcu.h.size; (try simp at hsz); (try have hs0 := lt_of_succ_le hsz); (try (have hs1 := lt_pred hsz; (try (have hs2 := lt_pred hs1; (try (have hs3 := lt_pred hs2; (try have hs4 := lt_pred hs3))))))))
  go_ret
  exact ⟨ret_bool (lessN_def a b).symm, bel⟩
set_option maxHeartbeats 2000000 in
theorem c_spec_NeedLess (a b : Need) (ca cb : List Value) (w : World) (lo lo' : Nat) (ha : C_Need lo w.heap.size w a ca) (hb : C_Need lo' w.heap.size w b cb) :
    Calls Tryz.prog 118 #[.agg ca.toArray, .agg cb.toArray] w fun e w' => e = .returned (.bool (lessN a b)) ∧ Below w.heap.size w w' := by
  obtain ⟨va, rfl, -, -, a2⟩ := ha
  obtain ⟨vb, rfl, -, -, b2⟩ := hb
  obtain ⟨A, c, rfl, hlc, hcc, hA⟩ := a2
  obtain ⟨B, c', rfl, hlc', hcc', hB⟩ := b2
  rcases hq : (a.key.toList == b.key.toList) with _ | _
  · have Hf := Lib.hid (lessN_key a b hq)
    unfold lessS at Hf
    go_enter Tryz.func118, Tryz.ntmps118
    go_wp2_with fail
    go_ret
    exact ⟨ret_bool Hf.out.symm, bel⟩
  · by_cases ho : a.op = b.op
    · have Hf := Lib.hid (lessN_values a b hq ho)
      have hx : (a.op != b.op) = false := by rw [ho]; simp
      clear ho
      go_enter Tryz.func118, Tryz.ntmps118
      go_wp2_with fail
      go_loopw [5] (fun i wr => ∃ k : Nat, k ≤ a.values.length ∧ k ≤ b.values.length ∧ i = .int .i64 k ∧ cmpL a.values b.values = cmpL (a.values.drop k) (b.values.drop k) ∧ ∃ n, wr = ((w.alloc (.cells #[.string a.key, .int .i64 a.op, .slice A a.values.length c] 84)).alloc (.cells #[.string b.key, .int .i64 b.op, .slice B b.values.length c'] 84)).drewN n) (fun i _ => a.values.length - (intOf i).toNat)
      case atStart => exact ⟨0, Nat.zero_le _, Nat.zero_le _, rfl, rfl, 0, rfl⟩
      case round =>
        obtain ⟨k, hk, hkm, rfl, heq, n, rfl⟩ := hrel
        have Heq := Lib.hid heq
        clear heq
        by_cases hlt : k < a.values.length
        · by_cases hlt2 : k < b.values.length
          · obtain ⟨g, o, rfl, -, hg2, hcell⟩ := hA (by omega)
            obtain ⟨d, hd⟩ := exists_at hlt
            obtain ⟨es, -, hcs, rfl, -⟩ := hcell k d hd
            have hc0 := hcs 0 (by omega)
            simp at hc0
            obtain ⟨g', o', rfl, -, hg2', hcell'⟩ := hB (by omega)
            obtain ⟨d', hd'⟩ := exists_at hlt2
            obtain ⟨es', -, hcs', rfl, -⟩ := hcell' k d' hd'
            have hp0 := hcs' 0 (by omega)
            simp at hp0
            clear hcs hcell hA hcs' hcell' hB
            have hk0 : (0 : Int) ≤ k := by omega
            have hk1 : (k : Int) < a.values.length := by omega
            have hk2 : (k : Int) < b.values.length := by omega
            have Ho := Lib.hid (cmpL_drop a.values b.values k d d' hd hd')
            have He := Lib.hid (cmpS_eq0 d d')
            clear hd hd'
            rcases hz : (d.toList == d'.toList) with _ | _
            · have Hg := Lib.hid (show lessN a b = Op.bytesLess d.toList d'.toList by rw [Hf.out, Heq.out, Ho.out, He.out, hz]; exact cmpS_lt d d' hz)
              go_wp2_with fail
              go_quiet (fail)
              go_wp2_with fail
              go_quiet (fail)
              go_wp2_with fail
              go_ret
              exact ⟨ret_bool Hg.out.symm, bel⟩
            · have Hn := Lib.hid (show cmpL a.values b.values = cmpL (a.values.drop (k + 1)) (b.values.drop (k + 1)) by rw [Heq.out, Ho.out, He.out, hz]; rfl)
              go_wp2_with fail
              go_quiet (fail)
              go_wp2_with fail
              go_roundw
              case rel => exact ⟨k + 1, by omega, by omega, by go_num, Hn.out, _, rfl⟩
              case measure => simp [intOf]; omega
          · have Hg := Lib.hid (show lessN a b = decide (a.values.length < b.values.length) by rw [Hf.out, Heq.out, cmpL_more _ _ k hlt (by omega)]; simp; omega)
            have hge : (b.values.length : Int) ≤ k := by omega
            have hk1 : (k : Int) < a.values.length := by omega
            clear hA hB
            go_wp2_with fail
            go_ret
            exact ⟨ret_bool Hg.out.symm, bel⟩
        · obtain rfl : k = a.values.length := by omega
          have Hg := Lib.hid (show lessN a b = decide (a.values.length < b.values.length) by rw [Hf.out, Heq.out, cmpL_end _ _ _ (Nat.le_refl _)]; split <;> simp <;> omega)
          clear hA hB
          go_wp2_with fail
          go_ret
          exact ⟨ret_bool Hg.out.symm, bel⟩
    · have Hf := Lib.hid (lessN_op a b hq ho)
      have hx : (a.op != b.op) = true := by simp [ho]
      clear ho
      go_enter Tryz.func118, Tryz.ntmps118
      go_wp2_with fail
      go_ret
      exact ⟨ret_bool Hf.out.symm, bel⟩
end Go.Proofs.YteecgklmdfockaaGreatDoor
