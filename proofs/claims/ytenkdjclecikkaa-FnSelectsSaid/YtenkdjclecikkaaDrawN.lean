/- The laws' own draws of labels and of requirements. No conditions. Written by wip/tools/gendrawn.py. -/
import Derived.Test.YtenkdjclecikkaaDrawE
import Derived.Test.YtenkdjclecikkaaSortL
import Derived.Test.YtenkdjclecikkaaSortN
import Derived.Test.YtenkdjclecikkaaDec
namespace Go.Proofs.Ytenkdjclecikkaa
open Go.RowKit

theorem OwnN.dr {base : Nat} {w w' : World} {x : NeedV} {code : List UInt8} {p : Nat} (h : OwnN base w x) (k : Dr code p w w') (hp : p < base) : OwnN base w' x :=
  ⟨h.1, h.2.1, h.2.2.1, h.2.2.2.dr k hp⟩
theorem AllN.dr {base : Nat} {w w' : World} {L : List NeedV} {code : List UInt8} {p : Nat} (h : AllN base w L) (k : Dr code p w w') (hp : p < base) : AllN base w' L := fun x hx => (h x hx).dr k hp
theorem rowLen {D : Type} {enc : D → List Value} {sz ty base n c : Nat} {w : World} {l : List D} {A : Option Addr} (h : RowE enc sz ty base w l (.slice A n c)) (e : l.length = n) : RowE enc sz ty base w l (.slice A l.length c) := by
  subst e
  exact h
def SmallN (L : List NeedV) : Prop := ∀ x ∈ L, x.d.values.length ≤ 1000
theorem SmallN.snoc {L : List NeedV} {x : NeedV} (h : SmallN L) (hx : x.d.values.length ≤ 1000) : SmallN (L ++ [x]) := by
  intro y hy
  rcases List.mem_append.1 hy with h1 | h1
  · exact h y h1
  · rw [List.mem_singleton] at h1
    subst h1
    exact hx

theorem sortLB_all {l : List Label} : (sortLB l).1.length = l.length ∧ ∀ d ∈ (sortLB l).1, d ∈ l := by
  unfold sortLB
  split
  · exact ⟨rfl, fun d hd => hd⟩
  · split
    · exact ⟨(stL_all l).1, fun d hd => (stL_all l).2 d |>.1 hd⟩
    · exact ⟨rfl, fun d hd => hd⟩
set_option maxHeartbeats 2000000 in
set_option maxRecDepth 10000 in
theorem c_l14List (code : List UInt8) (p : Nat) (w : World) (h : CurAt code p w) :
    Calls Try.prog 36 #[.pointer (some ⟨p, 0, none⟩)] w fun e w' => ∃ (l : List Label) (A : Option Addr) (c : Nat), e = .returned (.slice A l.length c) ∧ RowE encL 2 79 w.heap.size w' l (.slice A l.length c) ∧ AllC C_Label encL l ∧ l.length ≤ 4 ∧ Dr code p w w' := by
  obtain ⟨i0, hi, hz0, hz1, hz2⟩ := info_parts (show (Try.prog.info? 79).map (fun i => (i.zero, i.size, i.bytes)) = some (some (.agg #[.string ⟨#[]⟩, .string ⟨#[]⟩]), 2, 32) from by kernel_rfl)
  have hpl := h.lt
  have H := Lib.hid h
  clear h
  go_enter Try.func36, Try.ntmps36
  go_wp2_with fail
  go_loopw [3, 4] (fun s3 s4 wr => ∃ (k : Nat) (l : List Label) (A : Option Addr) (c : Nat), k ≤ 4 ∧ s4 = .int .i64 k ∧ s3 = .slice A l.length c ∧ RowE encL 2 79 w.heap.size wr l (.slice A l.length c) ∧ AllC C_Label encL l ∧ l.length ≤ k ∧ Dr code p w wr) (fun _ s4 _ => 4 - (intOf s4).toNat)
  case atStart => exact ⟨0, [], _, _, by omega, rfl, rfl, own_empty rfl (Nat.le_refl _), fun d hd => by simp at hd, Nat.le_refl _, (Dr.refl H.out).alloc _⟩
  case round =>
    obtain ⟨k, l, A, c, hk, rfl, rfl, hR, hC, hlk, hD⟩ := hrel
    have HR := Lib.hid hR
    have HC := Lib.hid hC
    have HD := Lib.hid hD
    have hsz := hD.size
    clear hR hC hD
    go_wp2_with fail
    refine (c_l01Below code p 4 _ HD.out.cur (by decide)).mono ?_
    rintro e w1 ⟨x, rfl, hx0, hx1, -, hd⟩
    have hx2 := hx1 (by decide)
    have hsz1 := hd.size
    have HR1 := Lib.hid (HR.out.dr hd hpl)
    have HD1 := Lib.hid (HD.out.trans hd)
    clear hd hx1
    by_cases hlt : (k : Int) < x
    · have hp1 : p < w1.heap.size := by omega
      have hown : RowE encL 2 79 w1.heap.size (w1.alloc (.cells #[] 79)) [] (.slice (some ⟨w1.heap.size, 0, none⟩) 0 0) := own_empty rfl (Nat.le_refl _)
      have hb0 : Below w1.heap.size w1 (w1.alloc (.cells #[] 79)) := (by repeat (first | (with_reducible exact Below.refl _ _) | (with_reducible refine ext_alloc ?_) | ((with_reducible refine ext_setCell ?_ ?_); focus (simp; (try omega))) | (with_reducible refine below_drewN ?_ _) | (with_reducible refine Below.drew ?_) | (with_reducible (apply ext_step; assumption))))
      obtain ⟨v2, w2, hr2, hR2, hg2, -⟩ := run_append_rows (P := Try.prog) (enc := encL) (C := C_Label) (w1.alloc (.cells #[] 79)) 38 38 w1.heap.size 79 i0 (.agg #[.string ⟨#[]⟩, .string ⟨#[]⟩]) 2 32 Try.underlying38 hi hz0 hz1 hz2 rfl (by decide) encL_len encL_one encL_C _ 0 [] rfl hown l A l.length c _ _ rfl (Sl_Label.now (RowE.sl encL_len HR1.out HC.out) hb0) (by unfold maxLen; omega) (by omega) (by simp)
      rw [List.nil_append] at hR2
      obtain ⟨A2, c2, rfl⟩ := hR2.form
      have hb2 : Below w1.heap.size w1 w2 := Below.grown hb0 hg2 (by simp) (fun q hq => by simp [Value.ownBlock] at hq; omega)
      have HD2 := Lib.hid ((Dr.refl HD1.out.cur).low hb2 hp1)
      have HR2 := Lib.hid hR2
      clear hR2 hg2 hown hb0 hb2
      go_wp2_with (at_builtin; refine wpList_append_of rfl (.tmp 15) (.tmp 16) 38 rfl _ _ _ w2 rfl rfl hr2 ?_)
      clear hr2
      refine (c_l14Key code p _ HD2.out.cur).mono ?_
      rintro e w3 ⟨s1, rfl, hs1, hd⟩
      have HD3 := Lib.hid (HD2.out.trans hd)
      have HR3 := Lib.hid (HR2.out.dr hd hp1)
      clear hd
      go_wp2_with fail
      refine (c_l14Value code p _ HD3.out.cur).mono ?_
      rintro e w4 ⟨s2, rfl, hs2, hd⟩
      have HD4 := Lib.hid (HD3.out.trans hd)
      have hR4 := HR3.out.dr hd hp1
      have hsz4 := HD4.out.size
      have hCd : C_Label ⟨s1, s2⟩ (encL ⟨s1, s2⟩) := ⟨rfl, hs1, hs2⟩
      have hb0 : Below w4.heap.size w4 (w4.alloc (.cells #[.string s1, .string s2] 79)) := (by repeat (first | (with_reducible exact Below.refl _ _) | (with_reducible refine ext_alloc ?_) | ((with_reducible refine ext_setCell ?_ ?_); focus (simp; (try omega))) | (with_reducible refine below_drewN ?_ _) | (with_reducible refine Below.drew ?_) | (with_reducible (apply ext_step; assumption))))
      obtain ⟨v5, w5, hr5, hR5, hg5, -⟩ := run_append_rows (P := Try.prog) (enc := encL) (C := C_Label) (w4.alloc (.cells #[.string s1, .string s2] 79)) 38 38 w1.heap.size 79 i0 (.agg #[.string ⟨#[]⟩, .string ⟨#[]⟩]) 2 32 Try.underlying38 hi hz0 hz1 hz2 rfl (by decide) encL_len encL_one encL_C _ l.length l rfl (hR4.below hb0) [⟨s1, s2⟩] (some ⟨w4.heap.size, 0, none⟩) 1 1 _ _ rfl (sl_one encL_len w4 (⟨s1, s2⟩ : Label) hCd 79 _ rfl) (by unfold maxLen; omega) (by omega) (by simp; omega)
      obtain ⟨A5, c5, rfl⟩ := hR5.form
      have hb5 : Below w1.heap.size w4 w5 := Below.grown (hb0.mono hsz4) hg5 (by simp; omega) (fun q hq => (World.ownsRow.lt hR4 q hq).1)
      have HD5 := Lib.hid (HD4.out.low hb5 hp1)
      have hlen : (l ++ [(⟨s1, s2⟩ : Label)]).length = l.length + 1 := by simp
      have HS5 := Lib.hid (RowE.sl encL_len hR5 (HC.out.snoc hCd))
      have HCs := Lib.hid (HC.out.snoc hCd)
      have HX := Lib.hid (HD1.out.trans HD5.out)
      have HRo := Lib.hid (HR1.out.dr HD5.out hpl)
      have hln : (l ++ [(⟨s1, s2⟩ : Label)]).length ≤ 1048576 := by omega
      have HL := Lib.hid hlen
      have HN := Lib.hid hln
      have hsz5 := HX.out.size
      rw [hlen] at HS5 hr5
      clear hR5 hg5 hR4 hb0 hb5 hCd hd hlen hln
      go_wp2_with (at_builtin; refine wpList_append_of rfl (.tmp 17) (.tmp 23) 38 rfl _ _ _ w5 rfl rfl hr5 ?_)
      clear hr5
      refine (c_spec_SortLabels (l ++ [⟨s1, s2⟩]) _ _ _ HS5.out HN.out).mono ?_
      rintro e w6 ⟨A6, c6, rfl, hR6, hb6⟩
      have HX6 := Lib.hid (HX.out.step hb6)
      have HRo6 := Lib.hid (HRo.out.below hb6)
      have HR6 := Lib.hid (hR6.less hsz5)
      obtain ⟨L6, hL6⟩ : ∃ L, L = (sortLB (l ++ [(⟨s1, s2⟩ : Label)])).1 := ⟨_, rfl⟩
      obtain ⟨B6, hB6⟩ : ∃ B, B = (sortLB (l ++ [(⟨s1, s2⟩ : Label)])).2 := ⟨_, rfl⟩
      have hall := sortLB_all (l := l ++ [(⟨s1, s2⟩ : Label)])
      have hl6 : L6.length ≤ l.length + 1 := by rw [hL6, ← HL.out]; exact Nat.le_of_eq hall.1
      have HC6 := Lib.hid (show AllC C_Label encL L6 by rw [hL6]; exact fun d hd => HCs.out d (hall.2 d hd))
      rw [← hL6] at HR6 ⊢
      rw [← hB6]
      clear hL6 hB6 hR6 hb6 hall
      cases B6
      · go_wp2_with fail
        go_roundw
        case rel => exact ⟨k + 1, l, A, c, by omega, by go_num, rfl, HRo6.out, HC.out, by omega, HX6.out⟩
        case measure => simp [intOf]; omega
      · go_wp2_with fail
        go_roundw
        case rel => exact ⟨k + 1, L6, A6, c6, by omega, by go_num, rfl, HR6.out, HC6.out, by omega, HX6.out⟩
        case measure => simp [intOf]; omega
    · go_wp2_with fail
      go_ret
      exact ⟨l, A, c, rfl, HR1.out, HC.out, by omega, HD1.out⟩
set_option maxHeartbeats 2000000 in
set_option maxRecDepth 10000 in
theorem c_l15Need (code : List UInt8) (p : Nat) (w : World) (h : CurAt code p w) :
    Calls Try.prog 56 #[.pointer (some ⟨p, 0, none⟩)] w fun e w' => ∃ x : NeedV, e = .returned (.agg #[.string x.d.key, .int .i64 x.d.op, .slice x.A x.d.values.length x.c]) ∧ OwnN w.heap.size w' x ∧ x.d.values.length ≤ 3 ∧ Dr code p w w' := by
  obtain ⟨j0, hj, jz0, jz1, jz2⟩ := info_parts (show (Try.prog.info? 9).map (fun i => (i.zero, i.size, i.bytes)) = some (some (.string ⟨#[]⟩), 1, 16) from by kernel_rfl)
  have hpl := h.lt
  go_enter Try.func56, Try.ntmps56
  go_wp2_with fail
  refine (c_l14Key code p (w.alloc (.cells #[.string ⟨#[]⟩, .int .i64 0, .slice none 0 0] 43)) (h.below (ext_alloc (Below.refl _ _)))).mono ?_
  rintro e w1 ⟨s1, rfl, hs1, hd⟩
  have HD := Lib.hid hd
  clear hd
  go_wp2_with fail
  refine (c_l01Below code p 4 _ HD.out.cur (by decide)).mono ?_
  rintro e w2 ⟨x, rfl, hx0, hx1, -, hd⟩
  have HD2 := Lib.hid (HD.out.trans hd)
  have hx2 := hx1 (by decide)
  clear hd hx1
  have hq : w.heap.size < w2.heap.size := by have := HD2.out.size; simp at this; omega
  have R0 := Lib.hid ((HD2.out.block (g := w.heap.size) (by simp) (by omega)).trans (heap_alloc_new _ _))
  have HW := Lib.hid (Dr.cut HD2.out)
  have hpw : w.heap.size ≤ w2.heap.size := by omega
  have hne : ¬ w.heap.size = w2.heap.size := by omega
  have hne2 : ¬ w2.heap.size = w.heap.size := by omega
  have hI : I64 (1 + x) := ⟨by omega, by omega⟩
  have HI := Lib.hid hI
  clear hI
  by_cases hop : 1 + x < 3
  · have HWa := Lib.hid (HW.out.alloc (.cells #[.string s1, .int .i64 (1 + x), .slice none 0 0] 43))
    have S0 := Lib.hid ((Below.heap_alloc w2 (.cells #[.string s1, .int .i64 (1 + x), .slice none 0 0] 43) _ hq).trans R0.out)
    have S1 := Lib.hid (heap_alloc_new w2 (.cells #[.string s1, .int .i64 (1 + x), .slice none 0 0] 43))
    have hz3 : w2.heap.size < (w2.alloc (.cells #[.string s1, .int .i64 (1 + x), .slice none 0 0] 43)).heap.size := by simp
    go_wp2_with fail
    go_loopw [4, 5] (fun s4 s5 wr => ∃ (k : Nat) (l : List ByteArray) (A : Option Addr) (c : Nat), k ≤ 3 ∧ s5 = .int .i64 k ∧ s4 = .slice A l.length c ∧ RowE encS 1 9 (w2.heap.size + 1) wr l (.slice A l.length c) ∧ AllC C_Str encS l ∧ l.length ≤ k ∧ wr.heap[w.heap.size]? = some (.cells #[.string ⟨#[]⟩, .int .i64 0, .slice none 0 0] 43 (0, 0)) ∧ wr.heap[w2.heap.size]? = some (.cells #[.string s1, .int .i64 (1 + x), .slice none 0 0] 43 (0, 0)) ∧ Dr code p w wr) (fun _ s5 _ => 3 - (intOf s5).toNat)
    case atStart => exact ⟨0, [], _, _, by omega, rfl, rfl, own_empty (by simp) (by simp), fun d hd => by simp at hd, Nat.le_refl _, (Below.heap_alloc _ _ _ (by simp; omega)).trans S0.out, (Below.heap_alloc _ _ _ (by simp)).trans S1.out, HWa.out.alloc _⟩
    case round =>
      obtain ⟨k, l, A, c, hk, rfl, rfl, hR, hC, hlk, hT0, hT1, hD⟩ := hrel
      have HR := Lib.hid hR
      have HC := Lib.hid hC
      have HD3 := Lib.hid hD
      have HT0 := Lib.hid hT0
      have HT1 := Lib.hid hT1
      have hsz := hD.size
      have hl1 := row_lt hT1
      clear hR hC hD hT0 hT1
      go_wp2_with fail
      refine (c_l01Below code p 3 _ HD3.out.cur (by decide)).mono ?_
      rintro e w4 ⟨y, rfl, hy0, hy1, -, hd⟩
      have hy2 := hy1 (by decide)
      have hsz4 := hd.size
      have HR4 := Lib.hid (HR.out.dr hd (by omega))
      have HD4 := Lib.hid (HD3.out.trans hd)
      have HT04 := Lib.hid ((hd.block (g := w.heap.size) (by omega) (by omega)).trans HT0.out)
      have HT14 := Lib.hid ((hd.block (g := w2.heap.size) (by omega) (by omega)).trans HT1.out)
      clear hd hy1
      by_cases hlt : (k : Int) < 1 + y
      · go_wp2_with fail
        refine (c_l14Value code p _ HD4.out.cur).mono ?_
        rintro e w5 ⟨s, rfl, hs, hd⟩
        have HD5 := Lib.hid (HD4.out.trans hd)
        have hR5 := HR4.out.dr hd (by omega)
        have hsz5 := HD5.out.size
        have hsz45 := hd.size
        have hT05 := (hd.block (g := w.heap.size) (by omega) (by omega)).trans HT04.out
        have hT15 := (hd.block (g := w2.heap.size) (by omega) (by omega)).trans HT14.out
        have hb0 : Below w5.heap.size w5 (w5.alloc (.cells #[.string s] 9)) := (by repeat (first | (with_reducible exact Below.refl _ _) | (with_reducible refine ext_alloc ?_) | ((with_reducible refine ext_setCell ?_ ?_); focus (simp; (try omega))) | (with_reducible refine below_drewN ?_ _) | (with_reducible refine Below.drew ?_) | (with_reducible (apply ext_step; assumption))))
        obtain ⟨v6, w6, hr6, hR6, hg6, -⟩ := run_append_rows (P := Try.prog) (enc := encS) (C := C_Str) (w5.alloc (.cells #[.string s] 9)) 41 41 (w2.heap.size + 1) 9 j0 (.string ⟨#[]⟩) 1 16 Try.underlying41 hj jz0 jz1 jz2 rfl (by decide) encS_len encS_one encS_C _ l.length l rfl (hR5.below hb0) [s] (some ⟨w5.heap.size, 0, none⟩) 1 1 _ _ rfl (sl_one encS_len w5 s ⟨rfl, hs⟩ 9 _ rfl) (by unfold maxLen; omega) (by omega) (by simp; omega)
        obtain ⟨A6, c6, rfl⟩ := hR6.form
        have hb6 : Below (w2.heap.size + 1) w5 w6 := Below.grown (hb0.mono (by omega)) hg6 (by simp; omega) (fun q hq => (World.ownsRow.lt hR5 q hq).1)
        have HD6 := Lib.hid (HD5.out.low (hb6.mono (by omega)) hpl)
        have HC6 := Lib.hid (HC.out.snoc (C := C_Str) (enc := encS) ⟨rfl, hs⟩)
        have HT06 := Lib.hid ((hb6.block w.heap.size (by omega)).trans hT05)
        have HT16 := Lib.hid ((hb6.block w2.heap.size (by omega)).trans hT15)
        have HR6 := Lib.hid hR6
        have hlen : (l ++ [s]).length = l.length + 1 := by simp
        have HL := Lib.hid hlen
        clear hR6 hg6 hR5 hb0 hb6 hd hlen hT05 hT15
        go_wp2_with (at_builtin; refine wpList_append_of rfl (.tmp 23) (.tmp 26) 41 rfl _ _ _ w6 rfl rfl hr6 ?_)
        clear hr6
        go_roundw
        case rel => exact ⟨k + 1, l ++ [s], A6, c6, by omega, by go_num, by rw [HL.out], HR6.out, HC6.out, by rw [HL.out]; omega, HT06.out, HT16.out, HD6.out⟩
        case measure => simp [intOf]; omega
      · have HSl := Lib.hid (RowE.sl encS_len HR4.out HC.out)
        go_wp2_with fail
        refine (c_l15Values l _ _ _ HSl.out (by omega)).mono ?_
        rintro e w7 ⟨A7, c7, rfl, hR7, hb7⟩
        have HD7 := Lib.hid (HD4.out.step hb7)
        have T0 := (hb7.block w.heap.size (by omega)).trans HT04.out
        have T1 := (hb7.block w2.heap.size (by omega)).trans HT14.out
        have hvl : (valsB l).length ≤ 3 := by have := ordB_len lessS eqS l; unfold valsB; omega
        have hvs := Lib.hid (show ∀ s ∈ valsB l, s.size ≤ 9223372036854775807 from fun s hs => (HC.out s ((ordB_all tot_S l).2 s |>.1 hs)).2)
        obtain ⟨vs, hvsE⟩ : ∃ vs, vs = valsB l := ⟨_, rfl⟩
        rw [← hvsE] at hvl hvs hR7 ⊢
        have hX := (hR7.less (show w.heap.size ≤ w4.heap.size by omega)).carry (w' := ((((w7.setCell ⟨w2.heap.size, 2, none⟩ (.slice A7 vs.length c7)).setCell ⟨w.heap.size, 0, none⟩ (.string s1)).setCell ⟨w.heap.size, 1, none⟩ (.int .i64 (1 + x))).setCell ⟨w.heap.size, 2, none⟩ (.slice A7 vs.length c7))) (fun q hq => by
          have h9 := (World.ownsRow.lt hR7 q hq).1
          rw [Below.heap_setCell _ ⟨w.heap.size, 2, none⟩ _ q (by simp; omega), Below.heap_setCell _ ⟨w.heap.size, 1, none⟩ _ q (by simp; omega), Below.heap_setCell _ ⟨w.heap.size, 0, none⟩ _ q (by simp; omega), Below.heap_setCell _ ⟨w2.heap.size, 2, none⟩ _ q (by simp; omega)])
        have HX := Lib.hid hX
        have hl0 := row_lt T0
        have hl2 := row_lt T1
        obtain ⟨a0, a1, a2, af⟩ := row3 T0
        obtain ⟨b0, b1, b2, bf⟩ := row3 T1
        clear T0 T1 hb7 hR7 hvsE hX
        go_wp2_with fail
        exact bodyPost_ret (v := .agg #[.string s1, .int .i64 (1 + x), .slice A7 vs.length c7]) (by simp only [results, Try.results56]; go_simp) rfl ⟨⟨⟨s1, 1 + x, vs⟩, A7, c7⟩, rfl, ⟨hs1, HI.out, hvs.out, HX.out⟩, hvl, (((HD7.out.set hpl hpw _).set hpl (Nat.le_refl _) _).set hpl (Nat.le_refl _) _).set hpl (Nat.le_refl _) _⟩
  · obtain ⟨a0, a1, a2, af⟩ := row3 R0.out
    have hl0 := row_lt R0.out
    go_wp2_with fail
    exact bodyPost_ret (v := .agg #[.string s1, .int .i64 (1 + x), .slice none 0 0]) (by simp only [results, Try.results56]; go_simp) rfl ⟨⟨⟨s1, 1 + x, []⟩, none, 0⟩, rfl, ⟨hs1, HI.out, fun s hs => by simp at hs, RowE.nil⟩, by simp, ((((HW.out.set hpl (Nat.le_refl _) _).set hpl (Nat.le_refl _) _).set hpl (Nat.le_refl _) _).alloc _)⟩
theorem step_call_of {P : Program} {w : World} {ops : Array Oper} {o : Oper} {a : Act} {K : Act → World → Prop} {Q : Exit → Act → World → Prop} {E : Prop} (hgd : o.guard = none) (h : Oper.wp P o a w K Q) : if Region.wanted o (yielded ops a.tmps) = true then Oper.wp P o a w K Q else E := by
  have hw : Region.wanted o (yielded ops a.tmps) = true := by simp [Region.wanted, hgd]
  rw [if_pos hw]
  exact h
set_option maxHeartbeats 4000000 in
set_option maxRecDepth 10000 in
theorem c_l15AnyNeed (code : List UInt8) (p : Nat) (w : World) (h : CurAt code p w) :
    Calls Try.prog 37 #[.pointer (some ⟨p, 0, none⟩)] w fun e w' => ∃ x : NeedV, e = .returned (.agg #[.string x.d.key, .int .i64 x.d.op, .slice x.A x.d.values.length x.c]) ∧ OwnN w.heap.size w' x ∧ x.d.values.length ≤ 4 ∧ Dr code p w w' := by
  obtain ⟨j0, hj, jz0, jz1, jz2⟩ := info_parts (show (Try.prog.info? 9).map (fun i => (i.zero, i.size, i.bytes)) = some (some (.string ⟨#[]⟩), 1, 16) from by kernel_rfl)
  have hpl := h.lt
  go_enter Try.func37, Try.ntmps37
  go_wp2_with fail
  refine (c_l15Need code p (w.alloc (.cells #[.string ⟨#[]⟩, .int .i64 0, .slice none 0 0] 43)) (h.below (ext_alloc (Below.refl _ _)))).mono ?_
  rintro e w1 ⟨x, rfl, hX, hx3, hd⟩
  have hq : w.heap.size < w1.heap.size := by have := hd.size; simp at this; omega
  have R0 := Lib.hid ((hd.block (g := w.heap.size) (by simp) (by omega)).trans (heap_alloc_new _ _))
  have HW := Lib.hid (Dr.cut hd)
  have HX := Lib.hid hX
  clear hd hX
  go_wp2_with fail
  refine (c_l01Below code p 10 (w1.alloc (.cells #[.string x.d.key, .int .i64 x.d.op, .slice x.A x.d.values.length x.c] 43)) (HW.out.cur.below (ext_alloc (Below.refl _ _))) (by decide)).mono ?_
  rintro e w3 ⟨y, rfl, -, -, -, hd⟩
  have HD3 := Lib.hid (HW.out.trans hd.cut)
  have hz3 : w1.heap.size < w3.heap.size := by have := hd.size; simp at this; omega
  have S0 := Lib.hid ((hd.block (g := w.heap.size) (by simp; omega) (by omega)).trans ((Below.heap_alloc _ _ _ hq).trans R0.out))
  have S1 := Lib.hid ((hd.block (g := w1.heap.size) (by simp) (by omega)).trans (heap_alloc_new _ _))
  have HX3 := Lib.hid (((HX.out.below (ext_alloc (Below.refl _ _))).dr hd (by simp; omega)).less (show w.heap.size ≤ (w.alloc (.cells #[.string ⟨#[]⟩, .int .i64 0, .slice none 0 0] 43)).heap.size by simp))
  have HXb := Lib.hid (show ∀ q, (Value.slice x.A x.d.values.length x.c).ownBlock = some q → w.heap.size < q ∧ q < w1.heap.size from fun q hq => by have := World.ownsRow.lt HX.out.2.2.2 q hq; simp at this; omega)
  clear hd
  have hpw : w.heap.size ≤ w1.heap.size := by omega
  have hne : ¬ w.heap.size = w1.heap.size := by omega
  have hne2 : ¬ w1.heap.size = w.heap.size := by omega
  by_cases e0 : y = 0
  · subst e0
    go_wp2_with fail
    refine (c_l01Below code p 7 _ HD3.out.cur (by decide)).mono ?_
    rintro e w4 ⟨z, rfl, hz0, hz1, -, hd⟩
    have hz2 := hz1 (by decide)
    have HD4 := Lib.hid (HD3.out.trans hd)
    have hz4 := hd.size
    have T0 := (hd.block (g := w.heap.size) (by omega) (by omega)).trans S0.out
    have T1 := (hd.block (g := w1.heap.size) (by omega) (by omega)).trans S1.out
    have HX4 := Lib.hid (HX3.out.dr hd hpl)
    clear hd hz1
    obtain ⟨a0, a1, a2, af⟩ := row3 T0
    obtain ⟨b0, b1, b2, bf⟩ := row3 T1
    have hl0 := row_lt T0
    have hl1 := row_lt T1
    clear T0 T1
    go_wp2_with fail
    exact bodyPost_ret (v := .agg #[.string x.d.key, .int .i64 (z - 1), .slice x.A x.d.values.length x.c]) (by simp only [results, Try.results37]; go_simp) rfl ⟨⟨⟨x.d.key, z - 1, x.d.values⟩, x.A, x.c⟩, rfl, ⟨HX4.out.1, (show I64 (z - 1) from ⟨by omega, by omega⟩), HX4.out.2.2.1, HX4.out.2.2.2.carry (fun q hq => by
      have h9 := HXb.out q hq
      rw [Below.heap_setCell _ ⟨w.heap.size, 2, none⟩ _ q (by simp; omega), Below.heap_setCell _ ⟨w.heap.size, 1, none⟩ _ q (by simp; omega), Below.heap_setCell _ ⟨w.heap.size, 0, none⟩ _ q (by simp; omega), Below.heap_setCell _ ⟨w1.heap.size, 1, none⟩ _ q (by simp; omega)])⟩, by show x.d.values.length ≤ 4; omega, (((HD4.out.set hpl hpw _).set hpl (Nat.le_refl _) _).set hpl (Nat.le_refl _) _).set hpl (Nat.le_refl _) _⟩
  · have e0' : (y == 0) = false := beq_eq_false_iff_ne.2 e0
    clear e0
    by_cases e1 : y = 1
    · subst e1
      have HL := Lib.hid (show ∀ s ∈ ([⟨#[97]⟩, ⟨#[122, 122]⟩, ⟨#[45]⟩, ⟨#[]⟩] : List ByteArray), s.size ≤ 9223372036854775807 by decide)
      clear e0'
      obtain ⟨b0, b1, b2, bf⟩ := row3 S1.out
      have hl1 := row_lt S1.out
      have hn3 : x.d.values.length ≤ 3 := hx3
      go_wp2_with fail
      go_region_law (first | (refine step_append_lies _ rfl (.tmp 17) (.tmp 21) 41 rfl w.heap.size 9 j0 (.string ⟨#[]⟩) 1 16 Try.underlying41 hj jz0 jz1 jz2 rfl (by decide) (.slice x.A x.d.values.length x.c) x.d.values.length (flatE encS x.d.values) rfl (by first | exact World.ownsRow.alloc HX5.out.2.2.2 _ | exact HX5.out.2.2.2) _ 1 1 [.string s] rfl rfl (World.news_of_block (heap_alloc_new _ _)) (encS_one s) (by decide) (by unfold maxLen; omega) (by omega) (by simp; omega) _ rfl ?_; intro g5 cap5 w6 ho5 hg5 ha5 hl7; have T6 := (hg5.block w1.heap.size (by simp; omega) (fun e => by have := (HXb.out _ e.symm).2; omega)).trans ((Below.heap_alloc _ _ _ (by omega)).trans T5.out); have T7 := (hg5.block w.heap.size (by simp; omega) (fun e => by have := (HXb.out _ e.symm).1; omega)).trans ((Below.heap_alloc _ _ _ (by omega)).trans T4.out); obtain ⟨f0, f1, f2, ff⟩ := row3 T6; have hl6 := row_lt T6) | (refine step_call_of rfl ?_; go_simp; go_at_call 57; refine (c_l01Pick code p [⟨#[97]⟩, ⟨#[122, 122]⟩, ⟨#[45]⟩, ⟨#[]⟩] _ w3.heap.size ((w3.alloc (.cells #[.string ⟨#[97]⟩, .string ⟨#[122, 122]⟩, .string ⟨#[45]⟩, .string ⟨#[]⟩] 9)).drew) (HD3.out.cur.below (by repeat (first | (with_reducible exact Below.refl _ _) | (with_reducible refine ext_alloc ?_) | ((with_reducible refine ext_setCell ?_ ?_); focus (simp; (try omega))) | (with_reducible refine below_drewN ?_ _) | (with_reducible refine Below.drew ?_) | (with_reducible (apply ext_step; assumption))))) (SlOf.keep (sl_lit w3 [⟨#[97]⟩, ⟨#[122, 122]⟩, ⟨#[45]⟩, ⟨#[]⟩] HL.out (by decide) 9 _ rfl) (fun _ _ _ _ => rfl) (Nat.le_refl _) (Nat.le_refl _) (fun _ _ _ h => h)) (by omega) (by decide) (by decide)).mono ?_; rintro e w5 ⟨s, rfl, hs, hd⟩; have HD5 : Dr code p w3 w5 := Dr.pre (Aside.of_below (by repeat (first | (with_reducible exact Below.refl _ _) | (with_reducible refine ext_alloc ?_) | ((with_reducible refine ext_setCell ?_ ?_); focus (simp; (try omega))) | (with_reducible refine below_drewN ?_ _) | (with_reducible refine Below.drew ?_) | (with_reducible (apply ext_step; assumption))))) hd; have hz5 := HD5.size; have t5 := (HD5.block (g := w1.heap.size) (by omega) (by omega)).trans S1.out; have T4 := Lib.hid ((HD5.block (g := w.heap.size) (by omega) (by omega)).trans S0.out); obtain ⟨d0, d1, d2, df⟩ := row3 t5; have hl5 := row_lt t5; have T5 := Lib.hid t5; have HX5 := Lib.hid (HX3.out.dr HD5 hpl); have hs2 := HL.out s hs; have HD5h := Lib.hid HD5; clear hs hd t5 HD5))
      all_goals
        have hlV := Lib.hid (show (x.d.values ++ [s]).length = x.d.values.length + 1 by simp)
        have hb5 : Below w5.heap.size w5 (w5.alloc (.cells #[.string s] 9)) := (by repeat (first | (with_reducible exact Below.refl _ _) | (with_reducible refine ext_alloc ?_) | ((with_reducible refine ext_setCell ?_ ?_); focus (simp; (try omega))) | (with_reducible refine below_drewN ?_ _) | (with_reducible refine Below.drew ?_) | (with_reducible (apply ext_step; assumption))))
        have hb6 : Below (w.heap.size + 1) w5 w6 := Below.grown (hb5.mono (by omega)) hg5 (by simp; omega) (fun q hq => (HXb.out q hq).1)
        have HD6 := Lib.hid ((HD3.out.trans HD5h.out).low (hb6.mono (Nat.le_succ _)) hpl)
        have hgb : w.heap.size < g5 ∧ g5 ≠ w1.heap.size := by
          rcases ha5 with h | h
          · have := HXb.out g5 h; exact ⟨this.1, by omega⟩
          · simp at h; exact ⟨by omega, by omega⟩
        have HR6 := Lib.hid (rowSnoc (enc := encS) (x := s) ho5 rfl)
        have hX := HR6.out.carry (w' := ((((w6.setCell ⟨w1.heap.size, 2, none⟩ (.slice (some ⟨g5, 0, none⟩) (x.d.values.length + 1) cap5)).setCell ⟨w.heap.size, 0, none⟩ (.string x.d.key)).setCell ⟨w.heap.size, 1, none⟩ (.int .i64 x.d.op)).setCell ⟨w.heap.size, 2, none⟩ (.slice (some ⟨g5, 0, none⟩) (x.d.values.length + 1) cap5))) (fun q hq => by
          have h9 : g5 = q := by simpa [Value.ownBlock] using hq
          rw [Below.heap_setCell _ ⟨w.heap.size, 2, none⟩ _ q (by simp; omega), Below.heap_setCell _ ⟨w.heap.size, 1, none⟩ _ q (by simp; omega), Below.heap_setCell _ ⟨w.heap.size, 0, none⟩ _ q (by simp; omega), Below.heap_setCell _ ⟨w1.heap.size, 2, none⟩ _ q (by simp; omega)])
        have HXX := Lib.hid hX
        obtain ⟨a0, a1, a2, af⟩ := row3 T7
        have hl0 := row_lt T7
        clear hb5 hb6 hX ho5 hg5 ha5 T6 T7
        go_wp2_with fail
        exact bodyPost_ret (v := .agg #[.string x.d.key, .int .i64 x.d.op, .slice (some ⟨g5, 0, none⟩) (x.d.values.length + 1) cap5]) (by simp only [results, Try.results37]; go_simp) rfl ⟨⟨⟨x.d.key, x.d.op, x.d.values ++ [s]⟩, some ⟨g5, 0, none⟩, cap5⟩, by rw [hlV.out], ⟨HX5.out.1, HX5.out.2.1, fun t ht => (List.mem_append.1 ht).elim (HX5.out.2.2.1 t) (fun h => by rw [List.mem_singleton.1 h]; exact hs2), rowLen HXX.out hlV.out⟩, by show (x.d.values ++ [s]).length ≤ 4; rw [hlV.out]; omega, (((HD6.out.set hpl hpw _).set hpl (Nat.le_refl _) _).set hpl (Nat.le_refl _) _).set hpl (Nat.le_refl _) _⟩
    · have e1' : (y == 1) = false := beq_eq_false_iff_ne.2 e1
      clear e1
      by_cases e2 : y = 2
      · subst e2
        have HL := Lib.hid (show ∀ s ∈ ([⟨#[]⟩, ⟨#[45]⟩] : List ByteArray), s.size ≤ 9223372036854775807 by decide)
        clear e0' e1'
        go_wp2_with fail
        refine (c_l01Pick code p [⟨#[]⟩, ⟨#[45]⟩] _ w3.heap.size (w3.alloc (.cells #[.string ⟨#[]⟩, .string ⟨#[45]⟩] 9)) (HD3.out.cur.below (ext_alloc (Below.refl _ _))) (sl_lit w3 [⟨#[]⟩, ⟨#[45]⟩] HL.out (by decide) 9 _ rfl) (by omega) (by decide) (by decide)).mono ?_
        rintro e w4 ⟨s, rfl, hs, hd⟩
        have hs2 := HL.out s hs
        have HD4 := Lib.hid (HD3.out.trans hd.cut)
        have hz4 := hd.size
        simp at hz4
        have T0 := (hd.block (g := w.heap.size) (by simp; omega) (by omega)).trans ((Below.heap_alloc _ _ _ (by omega)).trans S0.out)
        have T1 := (hd.block (g := w1.heap.size) (by simp; omega) (by omega)).trans ((Below.heap_alloc _ _ _ (by omega)).trans S1.out)
        have HX4 := Lib.hid ((HX3.out.below (ext_alloc (Below.refl _ _))).dr hd hpl)
        clear hd
        obtain ⟨a0, a1, a2, af⟩ := row3 T0
        obtain ⟨b0, b1, b2, bf⟩ := row3 T1
        have hl0 := row_lt T0
        have hl1 := row_lt T1
        clear T0 T1 hs
        go_wp2_with fail
        exact bodyPost_ret (v := .agg #[.string s, .int .i64 x.d.op, .slice x.A x.d.values.length x.c]) (by simp only [results, Try.results37]; go_simp) rfl ⟨⟨⟨s, x.d.op, x.d.values⟩, x.A, x.c⟩, rfl, ⟨hs2, HX4.out.2.1, HX4.out.2.2.1, HX4.out.2.2.2.carry (fun q hq => by
          have h9 := HXb.out q hq
          rw [Below.heap_setCell _ ⟨w.heap.size, 2, none⟩ _ q (by simp; omega), Below.heap_setCell _ ⟨w.heap.size, 1, none⟩ _ q (by simp; omega), Below.heap_setCell _ ⟨w.heap.size, 0, none⟩ _ q (by simp; omega), Below.heap_setCell _ ⟨w1.heap.size, 0, none⟩ _ q (by simp; omega)])⟩, by show x.d.values.length ≤ 4; omega, (((HD4.out.set hpl hpw _).set hpl (Nat.le_refl _) _).set hpl (Nat.le_refl _) _).set hpl (Nat.le_refl _) _⟩
      · have e2' : (y == 2) = false := beq_eq_false_iff_ne.2 e2
        clear e2
        obtain ⟨a0, a1, a2, af⟩ := row3 S0.out
        obtain ⟨b0, b1, b2, bf⟩ := row3 S1.out
        have hl0 := row_lt S0.out
        have hl1 := row_lt S1.out
        go_wp2_with fail
        exact bodyPost_ret (v := .agg #[.string x.d.key, .int .i64 x.d.op, .slice x.A x.d.values.length x.c]) (by simp only [results, Try.results37]; go_simp) rfl ⟨x, rfl, ⟨HX3.out.1, HX3.out.2.1, HX3.out.2.2.1, HX3.out.2.2.2.carry (fun q hq => by
          have h9 := HXb.out q hq
          rw [Below.heap_setCell _ ⟨w.heap.size, 2, none⟩ _ q (by simp; omega), Below.heap_setCell _ ⟨w.heap.size, 1, none⟩ _ q (by simp; omega), Below.heap_setCell _ ⟨w.heap.size, 0, none⟩ _ q (by simp; omega)])⟩, by omega, ((HD3.out.set hpl (Nat.le_refl _) _).set hpl (Nat.le_refl _) _).set hpl (Nat.le_refl _) _⟩
end Go.Proofs.Ytenkdjclecikkaa
