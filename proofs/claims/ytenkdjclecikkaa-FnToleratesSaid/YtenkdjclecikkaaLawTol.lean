/- The walk of the law FnTolerates. No conditions. Written by wip/tools/genfntol.py. -/
import Derived.Test.YtenkdjclecikkaaDrawU
import Derived.Test.YtenkdjclecikkaaUntol
import Derived.Deep.Cut
import Derived.Deep.CutRange
namespace Go.Proofs.Ytenkdjclecikkaa
open Go.RowKit

theorem keep_at {W a : World} (h : Below W.heap.size W a) : Below W.heap.size W a ∧ (∀ b o, b < W.heap.size → a.cell? ⟨b, o, none⟩ = W.cell? ⟨b, o, none⟩) := ⟨h, fun b o hb => h.cell (p := ⟨b, o, none⟩) hb⟩
theorem filter_le {D : Type} {p q : D → Bool} (h : ∀ x, p x = true → q x = true) : ∀ l : List D, (l.filter p).length ≤ (l.filter q).length
  | [] => Nat.le_refl _
  | x :: l => by
    have ih := filter_le h l
    rw [List.filter_cons, List.filter_cons]
    have hx := h x
    cases hp : p x <;> cases hq : q x <;> simp_all <;> omega
/-- One tolerance more lets no more keep one away. -/
theorem untol_more (l : List Tolerance) (t : Tolerance) (xs : List Taint) (e : Int) (k : Nat) : untolN (l ++ [t]) xs e k ≤ untolN l xs e k := by
  unfold untolN
  refine filter_le (fun x hx => ?_) _
  unfold badT anyTol at hx ⊢
  rw [List.take_length] at hx ⊢
  simp only [List.any_append, Bool.and_eq_true, Bool.not_eq_true', Bool.or_eq_false_iff] at hx ⊢
  exact ⟨hx.1, hx.2.1⟩
def zTol : Tolerance := ⟨⟨#[]⟩, false, ⟨#[]⟩, 0⟩
theorem zTol_C : C_Tolerance zTol (encTol zTol) := ⟨rfl, by decide, by decide, (show I64 0 from ⟨by decide, by decide⟩)⟩
theorem empty_toList : (⟨#[]⟩ : ByteArray).toList = [] := by rw [ByteArray.toList_eq]
theorem tol_zero (x : Taint) : tol zTol x = okT x := by
  unfold tol tolsB okT zTol tolB lvB inB
  simp
/-- Who tolerates all is kept away by nothing that is right. -/
theorem untol_all (xs : List Taint) (e : Int) (k : Nat) : untolN [zTol] xs e k ≤ ((xs.take k).filter fun x => !okT x).length := by
  unfold untolN
  refine filter_le (fun x hx => ?_) _
  unfold badT anyTol at hx
  rw [List.take_length] at hx
  simp only [List.any_cons, List.any_nil, Bool.or_false, Bool.and_eq_true, tol_zero] at hx
  exact hx.2
theorem tol_a : tolsB ⟨#[]⟩ false ⟨#[]⟩ 0 ⟨#[97]⟩ ⟨#[]⟩ 1 = true := by kernel_rfl
def nBad (xs : List Taint) (k : Nat) : Nat := ((xs.take k).filter fun x => !okT x).length
theorem nBad_le (xs : List Taint) (k : Nat) : nBad xs k ≤ k := by
  unfold nBad
  exact Nat.le_trans (List.length_filter_le _ _) (by rw [List.length_take]; omega)
theorem nBad_yes {xs : List Taint} {k : Nat} {x : Taint} (h : xs[k]? = some x) (hx : okT x = false) : nBad xs (k + 1) = nBad xs k + 1 := by
  unfold nBad
  rw [List.take_add_one, h]
  simp [List.filter_append, hx]
theorem nBad_no {xs : List Taint} {k : Nat} {x : Taint} (h : xs[k]? = some x) (hx : okT x = true) : nBad xs (k + 1) = nBad xs k := by
  unfold nBad
  rw [List.take_add_one, h]
  simp [List.filter_append, hx]
theorem C_of_sl {D : Type} {C : D → List Value → Prop} {enc : D → List Value} {sz lo hi : Nat} {w : World} {l : List D} {v : Value} (hC : ∀ d es, C d es → es = enc d) (h : SlOf C sz lo hi w l v) : ∀ d ∈ l, C d (enc d) := by
  intro d hd
  obtain ⟨A, c, rfl, -, -, hA⟩ := h
  obtain ⟨i, hi⟩ := List.getElem?_of_mem hd
  obtain ⟨b, o, -, -, -, hc⟩ := hA (by have := (List.getElem?_eq_some_iff.1 hi).1; omega)
  obtain ⟨es, -, -, h1⟩ := hc i d hi
  obtain rfl := hC d es h1
  exact h1
theorem rowOne {w : World} {base g c : Nat} {l : List Tolerance} {t : Tolerance} (h : w.ownsRow base 30 4 (.slice (some ⟨g, 0, none⟩) (l.length + 1) c) (l.length + 1) (flatE encTol l ++ encTol t)) (hl : ∀ d ∈ l, C_Tolerance d (encTol d)) (ht : C_Tolerance t (encTol t)) : Sl_Tolerance base w.heap.size w (l ++ [t]) (.slice (some ⟨g, 0, none⟩) (l.length + 1) c) := by
  have h2 : RowE encTol 4 30 base w (l ++ [t]) (.slice (some ⟨g, 0, none⟩) (l.length + 1) c) := by
    unfold RowE
    rw [flatE_app, List.length_append]
    exact h
  exact RowE.sl encTol_len h2 (AllC.snoc hl ht)
set_option maxHeartbeats 8000000 in
set_option maxRecDepth 20000 in
theorem w_FnTolerates (d0 : List UInt8) (v0 : Value) (w : World) (h0 : R_bytes w d0 v0) :
    Calls Try.prog 3 #[v0] w fun e w' => e = .returned (.bool true) ∧ Below w.heap.size w w' := by
  obtain ⟨i0, hi, hz0, hz1, hz2⟩ := info_parts (show (Try.prog.info? 30).map (fun i => (i.zero, i.size, i.bytes)) = some (some (.agg #[.string ⟨#[]⟩, .bool false, .string ⟨#[]⟩, .int .i64 0]), 4, 48) from by kernel_rfl)
  have H0 := Lib.hid h0
  obtain ⟨A0, c0, rfl, -⟩ := h0
  by_cases hq : d0.length ≤ 1048576
  · go_enter Try.func3, Try.ntmps3
    go_wp2_with fail
    refine (c_laws_big_no d0 A0 c0 _ hq).mono ?_
    rintro e w0 ⟨rfl, rfl⟩
    go_wp2_with fail
    refine (c_spec_DrawUntolerated d0 _ _ _ H0.out hq).mono ?_
    rintro e w1 ⟨l, A, c, xs, B, b, eff, rfl, hL, hX, hl3, hx41, hb1⟩
    have HL := Lib.hid hL
    have HX := Lib.hid hX
    clear hL hX
    go_wp2_with fail
    refine (c_impl_Untolerated l xs eff _ _ _ _ _ HL.out HX.out).mono ?_
    rintro e w2 ⟨rfl, hb2⟩
    obtain ⟨n, hn⟩ : ∃ n, n = untolN l xs eff xs.length := ⟨_, rfl⟩
    have Hn := Lib.hid hn
    rw [← hn]
    clear hn
    go_wp2_with fail
    refine (c_spec_DrawTolerates d0 _ _ _ (SlOf.now H0.out (ext_trans hb1 hb2)) hq).mono ?_
    rintro e w3 ⟨t, x, rfl, hCt, hCx, hb3⟩
    have B3 := ext_trans hb1 (ext_trans hb2 hb3)
    have HCt := Lib.hid hCt
    have HCx := Lib.hid hCx
    have R7 := Lib.hid ((Below.heap_alloc (w3.alloc (.cells #[.string t.key, .bool t.equal, .string t.value, .int .i64 t.effect] 30)) (.cells #[.string x.key, .string x.value, .int .i64 x.effect] 32) w3.heap.size (by simp)).trans (heap_alloc_new w3 (.cells #[.string t.key, .bool t.equal, .string t.value, .int .i64 t.effect] 30)))
    have R8 := Lib.hid (heap_at (w := w3.alloc (.cells #[.string t.key, .bool t.equal, .string t.value, .int .i64 t.effect] 30)) (o := .cells #[.string x.key, .string x.value, .int .i64 x.effect] 32) (b := w3.heap.size + 1) (by simp))
    have B6 : Below w3.heap.size w3 ((w3.alloc (.cells #[.string t.key, .bool t.equal, .string t.value, .int .i64 t.effect] 30)).alloc (.cells #[.string x.key, .string x.value, .int .i64 x.effect] 32)) := (by repeat (first | (with_reducible exact Below.refl _ _) | (with_reducible refine ext_alloc ?_) | ((with_reducible refine ext_setCell ?_ ?_); focus (simp; (try omega))) | (with_reducible refine below_drewN ?_ _) | (with_reducible refine Below.drew ?_) | (with_reducible (apply ext_step; assumption))))
    have h7 : w3.heap.size < ((w3.alloc (.cells #[.string t.key, .bool t.equal, .string t.value, .int .i64 t.effect] 30)).alloc (.cells #[.string x.key, .string x.value, .int .i64 x.effect] 32)).heap.size := by simp; omega
    have h8 : w3.heap.size + 1 < ((w3.alloc (.cells #[.string t.key, .bool t.equal, .string t.value, .int .i64 t.effect] 30)).alloc (.cells #[.string x.key, .string x.value, .int .i64 x.effect] 32)).heap.size := by simp
    clear hCt hCx
    go_upto_region 6 with fail
    generalize (w3.alloc (.cells #[.string t.key, .bool t.equal, .string t.value, .int .i64 t.effect] 30)).alloc (.cells #[.string x.key, .string x.value, .int .i64 x.effect] 32) = W6 at *
    have HB6 := Lib.hid B6
    have L6 := Lib.hid (Sl_Tolerance.now HL.out (ext_trans hb2 (ext_trans hb3 B6)))
    have X6 := Lib.hid (Sl_Taint.now HX.out (ext_trans hb2 (ext_trans hb3 B6)))
    have Bw6 := Lib.hid (ext_trans B3 B6)
    obtain ⟨c70, c71, c72, c73, f7⟩ := row4 R7.out
    obtain ⟨m, hm⟩ : ∃ m, m = untolN (l ++ [t]) xs eff xs.length := ⟨_, rfl⟩
    have Hm := Lib.hid hm
    clear hm hb1 hb2 hb3 B3 B6
    go_cut [9] from 30 to 38 (fun s9 wx => s9 = .int .i64 (m : Nat) ∧ Below W6.heap.size W6 wx)
    case first =>
      go_region_held3 (fun w' => Below W6.heap.size W6 w' ∧ (∀ xb xo, xb < W6.heap.size → w'.cell? ⟨xb, xo, none⟩ = W6.cell? ⟨xb, xo, none⟩)) (first | exact keep_drew _ | exact keep_at (by assumption) | exact keep_same (by assumption) | exact keep_alloc (by assumption) _) (first | (refine step_append_rows rfl (.tmp 30) (.tmp 31) 24 rfl W6.heap.size 30 i0 (.agg #[.string ⟨#[]⟩, .bool false, .string ⟨#[]⟩, .int .i64 0]) 4 48 Try.underlying24 hi hz0 hz1 hz2 rfl (by decide) encTol_len encTol_one encTol_C (.slice (some ⟨_, 0, none⟩) 0 0) 0 [] rfl rfl (by first | exact own_eq (own_empty (w := W6) rfl (Nat.le_refl _)) rfl | exact own_eq ((own_empty (w := W6) rfl (Nat.le_refl _)).alloc (.cells #[.string t.key, .bool t.equal, .string t.value, .int .i64 t.effect] 30)) rfl | exact own_eq (own_empty (w := W6.alloc (.cells #[.string t.key, .bool t.equal, .string t.value, .int .i64 t.effect] 30)) (by simp) (by simp)) rfl) l A l.length c _ _ rfl rfl (Sl_Tolerance.now L6.out (by repeat (first | (with_reducible exact Below.refl _ _) | (with_reducible refine ext_alloc ?_) | ((with_reducible refine ext_setCell ?_ ?_); focus (simp; (try omega))) | (with_reducible refine below_drewN ?_ _) | (with_reducible refine Below.drew ?_) | (with_reducible (apply ext_step; assumption))))) (by unfold maxLen; omega) (by omega) (by simp <;> omega) ?_; intro v3 w9 ho3 hg3 ha3; rw [List.nil_append] at ho3; obtain ⟨E5, e5, he3⟩ := RowE.form ho3; subst he3; have hb3 : Below W6.heap.size W6 w9 := Below.grown ((by repeat (first | (with_reducible exact Below.refl _ _) | (with_reducible refine ext_alloc ?_) | ((with_reducible refine ext_setCell ?_ ?_); focus (simp; (try omega))) | (with_reducible refine below_drewN ?_ _) | (with_reducible refine Below.drew ?_) | (with_reducible (apply ext_step; assumption)))) : Below W6.heap.size W6 _) hg3 (by simp <;> omega) (fun q hq => (by simp [Value.ownBlock] at hq; omega))) | (refine step_append_lies _ rfl (.tmp 32) (.tmp 34) 24 rfl W6.heap.size 30 i0 (.agg #[.string ⟨#[]⟩, .bool false, .string ⟨#[]⟩, .int .i64 0]) 4 48 Try.underlying24 hi hz0 hz1 hz2 rfl (by decide) (.slice E5 l.length e5) l.length (flatE encTol l) rfl (by first | exact ho3 | exact World.ownsRow.alloc ho3 _) _ 1 1 [.string t.key, .bool t.equal, .string t.value, .int .i64 t.effect] rfl rfl (by first | exact World.news_of_block (heap_alloc_new _ _) | exact World.news_of_block ((hg3.block _ (by simp <;> omega) (by simp [Value.ownBlock] <;> omega)).trans (heap_at (by simp))) | exact World.news_of_block ((hg3.block _ (by simp <;> omega) (by simp [Value.ownBlock] <;> omega)).trans ((Below.heap_alloc _ _ _ (by simp)).trans (heap_at (by simp))))) (encTol_one t) (by decide) (by unfold maxLen; omega) (by omega) (by have := hb3.size; simp; omega) _ rfl ?_; intro g5 cap5 w10 ho5 hg5 ha5 hl7; have hb4 : Below W6.heap.size W6 w10 := Below.grown ((by repeat (first | (with_reducible exact Below.refl _ _) | (with_reducible refine ext_alloc ?_) | ((with_reducible refine ext_setCell ?_ ?_); focus (simp; (try omega))) | (with_reducible refine below_drewN ?_ _) | (with_reducible refine Below.drew ?_) | (with_reducible (apply ext_step; assumption)))) : Below W6.heap.size W6 _) hg5 (by have := hb3.size; first | omega | (simp; omega)) (fun q hq => (World.ownsRow.lt ho3 q hq).1)) | (go_at_call 7; refine (c_impl_Untolerated (l ++ [t]) xs eff (.slice (some ⟨g5, 0, none⟩) (l.length + 1) cap5) _ w10 _ _ (rowOne ho5 (C_of_sl encTol_C L6.out) HCt.out) (Sl_Taint.now X6.out hb4)).mono ?_; rintro e9 w11 ⟨rfl, hb9⟩; have hb10 := ext_trans hb4 hb9))
      all_goals (go_wp2_with fail; go_meet; exact ⟨by rw [Hm.out], hb10⟩)
    case rest =>
      obtain ⟨rfl, hbc⟩ := hcut
      have hlx : (xs.length : Int) ≤ 41 := by omega
      clear c70 c71 c72 c73 f7
      go_wp2_with fail
      go_loopw [10, 11] (fun s10 s11 wr => ∃ k : Nat, k ≤ xs.length ∧ s10 = .int .i64 (nBad xs k : Nat) ∧ s11 = .int .i64 k ∧ Below W6.heap.size W6 wr) (fun _ s11 _ => xs.length - (intOf s11).toNat)
      case atStart => exact ⟨0, Nat.zero_le _, rfl, rfl, hbc⟩
      case round =>
        obtain ⟨k, hk, rfl, rfl, hbr⟩ := hrel
        have hnk := nBad_le xs k
        obtain ⟨nb, hnb⟩ : ∃ nb, nb = nBad xs k := ⟨_, rfl⟩
        have Hnb := Lib.hid hnb
        rw [← hnb] at hnk ⊢
        clear hnb
        by_cases hlt : k < xs.length
        · obtain ⟨A9, c9, hv, -, -, hA⟩ := X6.out
          simp only [Value.slice.injEq, true_and] at hv
          obtain ⟨rfl, rfl⟩ := hv
          obtain ⟨g, o, rfl, -, hgl, hcell⟩ := hA (by omega)
          obtain ⟨y, hy⟩ := exists_at hlt
          obtain ⟨es, -, hcs, hCy⟩ := hcell k y hy
          obtain rfl := encT_C y es hCy
          have p0 := (hbr.cell (p := ⟨g, o + k * 3 + 0, none⟩) (by simp; omega)).trans (hcs 0 (by omega))
          have p1 := (hbr.cell (p := ⟨g, o + k * 3 + 1, none⟩) (by simp; omega)).trans (hcs 1 (by omega))
          have p2 := (hbr.cell (p := ⟨g, o + k * 3 + 2, none⟩) (by simp; omega)).trans (hcs 2 (by omega))
          simp [encT] at p0 p1 p2
          have hk0 : (0 : Int) ≤ k := by omega
          have hk1 : (k : Int) < xs.length := by omega
          have Hy := Lib.hid hy
          obtain ⟨-, e1, e2, -⟩ := hCy
          clear hcell hcs hA hy
          go_wp2_with fail
          refine (c_spec_TaintOk y.key y.value y.effect _ e1 e2).mono ?_
          rintro e w9 ⟨rfl, hb⟩
          have Bn := ext_trans hbr hb
          obtain ⟨ok, hok⟩ : ∃ ok, ok = okT y := ⟨_, rfl⟩
          have Hok := Lib.hid hok
          rw [show taintB y.key y.value y.effect = ok from hok.symm]
          clear hok p0 p1 p2
          cases ok
          · have Hn2 := Lib.hid (nBad_yes Hy.out Hok.out.symm)
            go_wp2_with fail
            go_roundw
            case rel => exact ⟨k + 1, by omega, by rw [Hn2.out, ← Hnb.out]; go_num, by go_num, Bn⟩
            case measure => simp [intOf]; omega
          · have Hn2 := Lib.hid (nBad_no Hy.out Hok.out.symm)
            go_wp2_with fail
            go_roundw
            case rel => exact ⟨k + 1, by omega, by rw [Hn2.out, ← Hnb.out], by go_num, Bn⟩
            case measure => simp [intOf]; omega
        · obtain rfl : k = xs.length := by omega
          have Z := Lib.hid (sl_one encTol_len wr zTol zTol_C 30 _ rfl)
          have BZ : Below W6.heap.size W6 (wr.alloc (.cells #[.string ⟨#[]⟩, .bool false, .string ⟨#[]⟩, .int .i64 0] 30)) := (by repeat (first | (with_reducible exact Below.refl _ _) | (with_reducible refine ext_alloc ?_) | ((with_reducible refine ext_setCell ?_ ?_); focus (simp; (try omega))) | (with_reducible refine below_drewN ?_ _) | (with_reducible refine Below.drew ?_) | (with_reducible (apply ext_step; assumption))))
          go_wp2_with fail
          refine (c_impl_Untolerated [zTol] xs eff _ _ (wr.alloc (.cells #[.string ⟨#[]⟩, .bool false, .string ⟨#[]⟩, .int .i64 0] 30)) _ _ Z.out (Sl_Taint.now X6.out BZ)).mono ?_
          rintro e w9 ⟨rfl, hb⟩
          have BX := ext_trans BZ hb
          obtain ⟨al, hal⟩ : ∃ al, al = untolN [zTol] xs eff xs.length := ⟨_, rfl⟩
          have hle1 : m ≤ n := by rw [Hm.out, Hn.out]; exact untol_more l t xs eff _
          have hle2 : al ≤ nb := by rw [hal, Hnb.out]; exact untol_all xs eff _
          rw [← hal]
          clear hal hb BZ hbr hbc
          have i1 : (m : Int) ≤ n := by omega
          have i2 : (al : Int) ≤ nb := by omega
          have d1 : decide (m ≤ n) = true := decide_eq_true hle1
          have d2 : decide (al ≤ nb) = true := decide_eq_true hle2
          have Q7 := (BX.block _ h7).trans R7.out
          have Q8 := (BX.block _ h8).trans R8.out
          obtain ⟨a0, a1, a2, a3, af⟩ := row4 Q7
          obtain ⟨b0, b1, b2, bf⟩ := row3 Q8
          have l7 := row_lt Q7
          have l8 := row_lt Q8
          have L9 := Lib.hid (Sl_Tolerance.now L6.out BX)
          have X9 := Lib.hid (Sl_Taint.now X6.out BX)
          have hta := tol_a
          have hs1 : (⟨#[]⟩ : ByteArray).size ≤ 9223372036854775807 := by decide
          have hs2 : (⟨#[97]⟩ : ByteArray).size ≤ 9223372036854775807 := by decide
          obtain ⟨-, t1, t2, -⟩ := HCt.out
          obtain ⟨-, x1, x2, -⟩ := HCx.out
          clear Q7 Q8
          go_wp2_with fail
          refine wp_region_det 30 (by kernel_rfl) (by kernel_rfl) (by decide) ?_
          apply Exists.intro
          refine And.intro ?_ ?_
          · (intro W hW; (try simp only [Act.put, List.setIfInBounds_toArray, List.set_cons_zero, List.set_cons_succ]); first | (go_wp2_with fail; exact ⟨rfl, rfl, Below.refl _ _⟩))
          apply Exists.intro
          refine And.intro ?_ ?_
          · (intro W hW; (try simp only [Act.put, List.setIfInBounds_toArray, List.set_cons_zero, List.set_cons_succ]); first | (go_wp2_with fail; exact ⟨rfl, rfl, Below.refl _ _⟩))
          apply Exists.intro
          refine And.intro ?_ ?_
          · (intro W hW; (try simp only [Act.put, List.setIfInBounds_toArray, List.set_cons_zero, List.set_cons_succ]); first | (go_wp2_with fail; exact ⟨rfl, rfl, Below.refl _ _⟩))
          apply Exists.intro
          refine And.intro ?_ ?_
          · (intro W hW; (try simp only [Act.put, List.setIfInBounds_toArray, List.set_cons_zero, List.set_cons_succ]); first | (go_wp2_with fail; exact ⟨rfl, rfl, Below.refl _ _⟩))
          apply Exists.intro
          refine And.intro ?_ ?_
          · (intro W hW; (try simp only [Act.put, List.setIfInBounds_toArray, List.set_cons_zero, List.set_cons_succ]); first | (obtain ⟨hcW, hfW⟩ := bcell hW; have hsW := hW.size; (try simp at hsW); (try have hsW0 := lt_of_succ_le hsW); (try (have hsW1 := lt_pred hsW; (try (have hsW2 := lt_pred hsW1)))); go_wp2_with (first | (go_at_call 10; refine (c_spec_Untolerated l xs eff _ _ _ _ _ (Sl_Tolerance.now L9.out (by repeat (first | (with_reducible exact Below.refl _ _) | (with_reducible refine ext_alloc ?_) | ((with_reducible refine ext_setCell ?_ ?_); focus (simp; (try omega))) | (with_reducible refine below_drewN ?_ _) | (with_reducible refine Below.drew ?_) | (with_reducible (apply ext_step; assumption))))) (Sl_Taint.now X9.out (by repeat (first | (with_reducible exact Below.refl _ _) | (with_reducible refine ext_alloc ?_) | ((with_reducible refine ext_setCell ?_ ?_); focus (simp; (try omega))) | (with_reducible refine below_drewN ?_ _) | (with_reducible refine Below.drew ?_) | (with_reducible (apply ext_step; assumption)))))).mono ?_; rintro e w9 ⟨rfl, hb9⟩; rw [← Hn.out]) | (go_at_call 12; refine (c_spec_Tolerates t.key t.equal t.value t.effect x.key x.value x.effect _ t1 t2 x1 x2).mono ?_; rintro e w9 ⟨rfl, hb9⟩) | (go_at_call 11; (with_reducible refine (c_impl_Tolerates t.key t.equal t.value t.effect x.key x.value x.effect _ t1 t2 x1 x2).mono ?_); rintro e w9 ⟨rfl, hb9⟩) | (go_at_call 11; refine (c_impl_Tolerates ⟨#[]⟩ false ⟨#[]⟩ 0 ⟨#[97]⟩ ⟨#[]⟩ 1 _ hs1 hs1 hs2 hs1).mono ?_; rintro e w9 ⟨rfl, hb9⟩; rw [hta])); exact ⟨rfl, rfl, (by repeat (first | (with_reducible exact Below.refl _ _) | (with_reducible refine ext_alloc ?_) | ((with_reducible refine ext_setCell ?_ ?_); focus (simp; (try omega))) | (with_reducible refine below_drewN ?_ _) | (with_reducible refine Below.drew ?_) | (with_reducible (apply ext_step; assumption))))⟩))
          apply Exists.intro
          refine And.intro ?_ ?_
          · (intro W hW; (try simp only [Act.put, List.setIfInBounds_toArray, List.set_cons_zero, List.set_cons_succ]); first | (go_wp2_with fail; exact ⟨rfl, rfl, Below.refl _ _⟩))
          apply Exists.intro
          refine And.intro ?_ ?_
          · (intro W hW; (try simp only [Act.put, List.setIfInBounds_toArray, List.set_cons_zero, List.set_cons_succ]); first | (go_wp2_with fail; exact ⟨rfl, rfl, Below.refl _ _⟩))
          apply Exists.intro
          refine And.intro ?_ ?_
          · (intro W hW; (try simp only [Act.put, List.setIfInBounds_toArray, List.set_cons_zero, List.set_cons_succ]); first | (exact wpList_skip rfl ⟨rfl, rfl, Below.refl _ _⟩) | (go_wp2_with fail; exact ⟨rfl, rfl, Below.refl _ _⟩))
          apply Exists.intro
          refine And.intro ?_ ?_
          · (intro W hW; (try simp only [Act.put, List.setIfInBounds_toArray, List.set_cons_zero, List.set_cons_succ]); first | (exact wpList_skip rfl ⟨rfl, rfl, Below.refl _ _⟩) | (go_wp2_with fail; exact ⟨rfl, rfl, Below.refl _ _⟩))
          apply Exists.intro
          refine And.intro ?_ ?_
          · (intro W hW; (try simp only [Act.put, List.setIfInBounds_toArray, List.set_cons_zero, List.set_cons_succ]); first | (exact wpList_skip rfl ⟨rfl, rfl, Below.refl _ _⟩) | (go_wp2_with fail; exact ⟨rfl, rfl, Below.refl _ _⟩))
          apply Exists.intro
          refine And.intro ?_ ?_
          · (intro W hW; (try simp only [Act.put, List.setIfInBounds_toArray, List.set_cons_zero, List.set_cons_succ]); first | (go_wp2_with fail; exact ⟨rfl, rfl, Below.refl _ _⟩))
          apply Exists.intro
          refine And.intro ?_ ?_
          · (intro W hW; (try simp only [Act.put, List.setIfInBounds_toArray, List.set_cons_zero, List.set_cons_succ]); first | (go_wp2_with fail; exact ⟨rfl, rfl, Below.refl _ _⟩))
          apply Exists.intro
          refine And.intro ?_ ?_
          · (intro W hW; (try simp only [Act.put, List.setIfInBounds_toArray, List.set_cons_zero, List.set_cons_succ]); first | (exact wpList_skip rfl ⟨rfl, rfl, Below.refl _ _⟩) | (go_wp2_with fail; exact ⟨rfl, rfl, Below.refl _ _⟩))
          apply Exists.intro
          refine And.intro ?_ ?_
          · (intro W hW; (try simp only [Act.put, List.setIfInBounds_toArray, List.set_cons_zero, List.set_cons_succ]); first | (exact wpList_skip rfl ⟨rfl, rfl, Below.refl _ _⟩) | (go_wp2_with fail; exact ⟨rfl, rfl, Below.refl _ _⟩))
          apply Exists.intro
          refine And.intro ?_ ?_
          · (intro W hW; (try simp only [Act.put, List.setIfInBounds_toArray, List.set_cons_zero, List.set_cons_succ]); first | (exact wpList_skip rfl ⟨rfl, rfl, Below.refl _ _⟩) | (go_wp2_with fail; exact ⟨rfl, rfl, Below.refl _ _⟩))
          apply Exists.intro
          refine And.intro ?_ ?_
          · (intro W hW; (try simp only [Act.put, List.setIfInBounds_toArray, List.set_cons_zero, List.set_cons_succ]); first | (go_wp2_with fail; exact ⟨rfl, rfl, Below.refl _ _⟩))
          apply Exists.intro
          refine And.intro ?_ ?_
          · (intro W hW; (try simp only [Act.put, List.setIfInBounds_toArray, List.set_cons_zero, List.set_cons_succ]); first | (go_wp2_with fail; exact ⟨rfl, rfl, Below.refl _ _⟩))
          apply Exists.intro
          refine And.intro ?_ ?_
          · (intro W hW; (try simp only [Act.put, List.setIfInBounds_toArray, List.set_cons_zero, List.set_cons_succ]); first | (exact wpList_skip rfl ⟨rfl, rfl, Below.refl _ _⟩) | (obtain ⟨hcW, hfW⟩ := bcell hW; have hsW := hW.size; (try simp at hsW); (try have hsW0 := lt_of_succ_le hsW); (try (have hsW1 := lt_pred hsW; (try (have hsW2 := lt_pred hsW1)))); go_wp2_with fail; exact ⟨rfl, rfl, Below.refl _ _⟩))
          apply Exists.intro
          refine And.intro ?_ ?_
          · (intro W hW; (try simp only [Act.put, List.setIfInBounds_toArray, List.set_cons_zero, List.set_cons_succ]); first | (exact wpList_skip rfl ⟨rfl, rfl, Below.refl _ _⟩) | (obtain ⟨hcW, hfW⟩ := bcell hW; have hsW := hW.size; (try simp at hsW); (try have hsW0 := lt_of_succ_le hsW); (try (have hsW1 := lt_pred hsW; (try (have hsW2 := lt_pred hsW1)))); go_wp2_with fail; exact ⟨rfl, rfl, Below.refl _ _⟩))
          apply Exists.intro
          refine And.intro ?_ ?_
          · (intro W hW; (try simp only [Act.put, List.setIfInBounds_toArray, List.set_cons_zero, List.set_cons_succ]); first | (exact wpList_skip rfl ⟨rfl, rfl, Below.refl _ _⟩) | (obtain ⟨hcW, hfW⟩ := bcell hW; have hsW := hW.size; (try simp at hsW); (try have hsW0 := lt_of_succ_le hsW); (try (have hsW1 := lt_pred hsW; (try (have hsW2 := lt_pred hsW1)))); go_wp2_with (first | (go_at_call 10; refine (c_spec_Untolerated l xs eff _ _ _ _ _ (Sl_Tolerance.now L9.out (by repeat (first | (with_reducible exact Below.refl _ _) | (with_reducible refine ext_alloc ?_) | ((with_reducible refine ext_setCell ?_ ?_); focus (simp; (try omega))) | (with_reducible refine below_drewN ?_ _) | (with_reducible refine Below.drew ?_) | (with_reducible (apply ext_step; assumption))))) (Sl_Taint.now X9.out (by repeat (first | (with_reducible exact Below.refl _ _) | (with_reducible refine ext_alloc ?_) | ((with_reducible refine ext_setCell ?_ ?_); focus (simp; (try omega))) | (with_reducible refine below_drewN ?_ _) | (with_reducible refine Below.drew ?_) | (with_reducible (apply ext_step; assumption)))))).mono ?_; rintro e w9 ⟨rfl, hb9⟩; rw [← Hn.out]) | (go_at_call 12; refine (c_spec_Tolerates t.key t.equal t.value t.effect x.key x.value x.effect _ t1 t2 x1 x2).mono ?_; rintro e w9 ⟨rfl, hb9⟩) | (go_at_call 11; (with_reducible refine (c_impl_Tolerates t.key t.equal t.value t.effect x.key x.value x.effect _ t1 t2 x1 x2).mono ?_); rintro e w9 ⟨rfl, hb9⟩) | (go_at_call 11; refine (c_impl_Tolerates ⟨#[]⟩ false ⟨#[]⟩ 0 ⟨#[97]⟩ ⟨#[]⟩ 1 _ hs1 hs1 hs2 hs1).mono ?_; rintro e w9 ⟨rfl, hb9⟩; rw [hta])); exact ⟨rfl, rfl, (by repeat (first | (with_reducible exact Below.refl _ _) | (with_reducible refine ext_alloc ?_) | ((with_reducible refine ext_setCell ?_ ?_); focus (simp; (try omega))) | (with_reducible refine below_drewN ?_ _) | (with_reducible refine Below.drew ?_) | (with_reducible (apply ext_step; assumption))))⟩))
          apply Exists.intro
          refine And.intro ?_ ?_
          · (intro W hW; (try simp only [Act.put, List.setIfInBounds_toArray, List.set_cons_zero, List.set_cons_succ]); first | (exact wpList_skip rfl ⟨rfl, rfl, Below.refl _ _⟩) | (obtain ⟨hcW, hfW⟩ := bcell hW; have hsW := hW.size; (try simp at hsW); (try have hsW0 := lt_of_succ_le hsW); (try (have hsW1 := lt_pred hsW; (try (have hsW2 := lt_pred hsW1)))); go_wp2_with fail; exact ⟨rfl, rfl, Below.refl _ _⟩))
          apply Exists.intro
          refine And.intro ?_ ?_
          · (intro W hW; (try simp only [Act.put, List.setIfInBounds_toArray, List.set_cons_zero, List.set_cons_succ]); first | (exact wpList_skip rfl ⟨rfl, rfl, Below.refl _ _⟩) | (obtain ⟨hcW, hfW⟩ := bcell hW; have hsW := hW.size; (try simp at hsW); (try have hsW0 := lt_of_succ_le hsW); (try (have hsW1 := lt_pred hsW; (try (have hsW2 := lt_pred hsW1)))); go_wp2_with fail; exact ⟨rfl, rfl, Below.refl _ _⟩))
          apply Exists.intro
          refine And.intro ?_ ?_
          · (intro W hW; (try simp only [Act.put, List.setIfInBounds_toArray, List.set_cons_zero, List.set_cons_succ]); first | (exact wpList_skip rfl ⟨rfl, rfl, Below.refl _ _⟩) | (obtain ⟨hcW, hfW⟩ := bcell hW; have hsW := hW.size; (try simp at hsW); (try have hsW0 := lt_of_succ_le hsW); (try (have hsW1 := lt_pred hsW; (try (have hsW2 := lt_pred hsW1)))); go_wp2_with (first | (go_at_call 10; refine (c_spec_Untolerated l xs eff _ _ _ _ _ (Sl_Tolerance.now L9.out (by repeat (first | (with_reducible exact Below.refl _ _) | (with_reducible refine ext_alloc ?_) | ((with_reducible refine ext_setCell ?_ ?_); focus (simp; (try omega))) | (with_reducible refine below_drewN ?_ _) | (with_reducible refine Below.drew ?_) | (with_reducible (apply ext_step; assumption))))) (Sl_Taint.now X9.out (by repeat (first | (with_reducible exact Below.refl _ _) | (with_reducible refine ext_alloc ?_) | ((with_reducible refine ext_setCell ?_ ?_); focus (simp; (try omega))) | (with_reducible refine below_drewN ?_ _) | (with_reducible refine Below.drew ?_) | (with_reducible (apply ext_step; assumption)))))).mono ?_; rintro e w9 ⟨rfl, hb9⟩; rw [← Hn.out]) | (go_at_call 12; refine (c_spec_Tolerates t.key t.equal t.value t.effect x.key x.value x.effect _ t1 t2 x1 x2).mono ?_; rintro e w9 ⟨rfl, hb9⟩) | (go_at_call 11; (with_reducible refine (c_impl_Tolerates t.key t.equal t.value t.effect x.key x.value x.effect _ t1 t2 x1 x2).mono ?_); rintro e w9 ⟨rfl, hb9⟩) | (go_at_call 11; refine (c_impl_Tolerates ⟨#[]⟩ false ⟨#[]⟩ 0 ⟨#[97]⟩ ⟨#[]⟩ 1 _ hs1 hs1 hs2 hs1).mono ?_; rintro e w9 ⟨rfl, hb9⟩; rw [hta])); exact ⟨rfl, rfl, (by repeat (first | (with_reducible exact Below.refl _ _) | (with_reducible refine ext_alloc ?_) | ((with_reducible refine ext_setCell ?_ ?_); focus (simp; (try omega))) | (with_reducible refine below_drewN ?_ _) | (with_reducible refine Below.drew ?_) | (with_reducible (apply ext_step; assumption))))⟩))
          apply Exists.intro
          refine And.intro ?_ ?_
          · (intro W hW; (try simp only [Act.put, List.setIfInBounds_toArray, List.set_cons_zero, List.set_cons_succ]); first | (exact wpList_skip rfl ⟨rfl, rfl, Below.refl _ _⟩) | (go_wp2_with fail; exact ⟨rfl, rfl, Below.refl _ _⟩))
          apply Exists.intro
          refine And.intro ?_ ?_
          · (intro W hW; (try simp only [Act.put, List.setIfInBounds_toArray, List.set_cons_zero, List.set_cons_succ]); first | (go_wp2_with fail; exact ⟨rfl, rfl, Below.refl _ _⟩))
          apply Exists.intro
          refine And.intro ?_ ?_
          · (intro W hW; (try simp only [Act.put, List.setIfInBounds_toArray, List.set_cons_zero, List.set_cons_succ]); first | (go_wp2_with fail; exact ⟨rfl, rfl, Below.refl _ _⟩))
          apply Exists.intro
          refine And.intro ?_ ?_
          · (intro W hW; (try simp only [Act.put, List.setIfInBounds_toArray, List.set_cons_zero, List.set_cons_succ]); first | (exact wpList_skip rfl ⟨rfl, rfl, Below.refl _ _⟩) | (go_wp2_with fail; exact ⟨rfl, rfl, Below.refl _ _⟩))
          apply Exists.intro
          refine And.intro ?_ ?_
          · (intro W hW; (try simp only [Act.put, List.setIfInBounds_toArray, List.set_cons_zero, List.set_cons_succ]); first | (exact wpList_skip rfl ⟨rfl, rfl, Below.refl _ _⟩) | (go_wp2_with fail; exact ⟨rfl, rfl, Below.refl _ _⟩))
          apply Exists.intro
          refine And.intro ?_ ?_
          · (intro W hW; (try simp only [Act.put, List.setIfInBounds_toArray, List.set_cons_zero, List.set_cons_succ]); first | (exact wpList_skip rfl ⟨rfl, rfl, Below.refl _ _⟩) | (obtain ⟨hcW, hfW⟩ := bcell hW; have hsW := hW.size; (try simp at hsW); (try have hsW0 := lt_of_succ_le hsW); (try (have hsW1 := lt_pred hsW; (try (have hsW2 := lt_pred hsW1)))); go_wp2_with (first | (go_at_call 10; refine (c_spec_Untolerated l xs eff _ _ _ _ _ (Sl_Tolerance.now L9.out (by repeat (first | (with_reducible exact Below.refl _ _) | (with_reducible refine ext_alloc ?_) | ((with_reducible refine ext_setCell ?_ ?_); focus (simp; (try omega))) | (with_reducible refine below_drewN ?_ _) | (with_reducible refine Below.drew ?_) | (with_reducible (apply ext_step; assumption))))) (Sl_Taint.now X9.out (by repeat (first | (with_reducible exact Below.refl _ _) | (with_reducible refine ext_alloc ?_) | ((with_reducible refine ext_setCell ?_ ?_); focus (simp; (try omega))) | (with_reducible refine below_drewN ?_ _) | (with_reducible refine Below.drew ?_) | (with_reducible (apply ext_step; assumption)))))).mono ?_; rintro e w9 ⟨rfl, hb9⟩; rw [← Hn.out]) | (go_at_call 12; refine (c_spec_Tolerates t.key t.equal t.value t.effect x.key x.value x.effect _ t1 t2 x1 x2).mono ?_; rintro e w9 ⟨rfl, hb9⟩) | (go_at_call 11; (with_reducible refine (c_impl_Tolerates t.key t.equal t.value t.effect x.key x.value x.effect _ t1 t2 x1 x2).mono ?_); rintro e w9 ⟨rfl, hb9⟩) | (go_at_call 11; refine (c_impl_Tolerates ⟨#[]⟩ false ⟨#[]⟩ 0 ⟨#[97]⟩ ⟨#[]⟩ 1 _ hs1 hs1 hs2 hs1).mono ?_; rintro e w9 ⟨rfl, hb9⟩; rw [hta])); exact ⟨rfl, rfl, (by repeat (first | (with_reducible exact Below.refl _ _) | (with_reducible refine ext_alloc ?_) | ((with_reducible refine ext_setCell ?_ ?_); focus (simp; (try omega))) | (with_reducible refine below_drewN ?_ _) | (with_reducible refine Below.drew ?_) | (with_reducible (apply ext_step; assumption))))⟩))
          apply Exists.intro
          refine And.intro ?_ ?_
          · (intro W hW; (try simp only [Act.put, List.setIfInBounds_toArray, List.set_cons_zero, List.set_cons_succ]); first | (go_wp2_with fail; exact ⟨rfl, rfl, Below.refl _ _⟩))
          intro w1 hb
          (first | (have hcu2 := Cum.join hcu hb; (try clear hcu); (try clear hc); (try clear hfz); (try clear hsz); (try clear hs0); (try clear hs1); (try clear hs2); (try clear hs3); (try clear hs4); ) | have hcu2 := Cum.mk hb); have hcu := hcu2; clear hcu2; obtain ⟨hc, hfz⟩ := bcell hcu.h; have hsz := hcu.h.size; (try simp at hsz); (try have hs0 := lt_of_succ_le hsz); (try (have hs1 := lt_pred hsz; (try (have hs2 := lt_pred hs1; (try (have hs3 := lt_pred hs2; (try have hs4 := lt_pred hs3)))))))
          (try simp only [Act.put, List.setIfInBounds_toArray, List.set_cons_zero, List.set_cons_succ])
          (try simp only [List.drop_succ_cons, List.drop_zero])
          have BF := ext_trans BX hb
          go_wp2_with fail
          go_ret
          exact ⟨rfl, ext_trans Bw6.out BF⟩
  · go_enter Try.func3, Try.ntmps3
    go_wp2_with fail
    refine (c_laws_big_yes d0 A0 c0 _ hq).mono ?_
    rintro e w0 ⟨rfl, rfl⟩
    go_wp2_with fail
    go_ret
    exact ⟨rfl, Below.refl _ _⟩
end Go.Proofs.Ytenkdjclecikkaa
