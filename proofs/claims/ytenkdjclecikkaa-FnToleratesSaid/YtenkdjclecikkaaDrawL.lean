/- The laws' own draws of lists of taints and of tolerances. No conditions. Written by wip/tools/gendrawl.py. -/
import Derived.Test.YtenkdjclecikkaaDrawT
import Derived.Test.YtenkdjclecikkaaOrdT
import Derived.Test.YtenkdjclecikkaaOrdTol
namespace Go.Proofs.Ytenkdjclecikkaa
open Go.RowKit

theorem RowE.dr {D : Type} {enc : D → List Value} {sz ty base : Nat} {w w' : World} {l : List D} {v : Value} {code : List UInt8} {p : Nat} (h : RowE enc sz ty base w l v) (k : Dr code p w w') (hp : p < base) : RowE enc sz ty base w' l v :=
  h.carry (fun q hq => k.block (World.ownsRow.lt h q hq).2 (by have := (World.ownsRow.lt h q hq).1; omega))
theorem Dr.low {code : List UInt8} {p : Nat} {a b c : World} (h : Dr code p a b) (k : Below a.heap.size b c) (hp : p < a.heap.size) : Dr code p a c :=
  ⟨⟨k.os.trans h.aside.os, k.tape.trans h.aside.tape, k.output.trans h.aside.output, Nat.le_trans h.aside.size k.size, fun i hi hn => (k.block i hi).trans (h.aside.block i hi hn)⟩, h.cur.keep (fun i hle => k.block i (Nat.lt_of_le_of_lt hle hp))⟩
/-- One member in a row of its own. -/
theorem sl_one {D : Type} {C : D → List Value → Prop} {enc : D → List Value} {sz : Nat} (hk : ∀ d, (enc d).length = sz) (w : World) (d : D) (hC : C d (enc d)) (ty : TypeId) (cs : Array Value) (hc : cs = (enc d).toArray) :
    SlOf C sz w.heap.size (w.alloc (.cells cs ty)).heap.size (w.alloc (.cells cs ty)) [d] (.slice (some ⟨w.heap.size, 0, none⟩) 1 1) := by
  subst hc
  refine ⟨_, _, rfl, Nat.le_refl _, by decide, fun _ => ⟨w.heap.size, 0, rfl, Nat.le_refl _, by simp, fun i d' hd => ⟨enc d, hk d, fun j hj => ?_, ?_⟩⟩⟩
  · have hi : i = 0 := by
      have := (List.getElem?_eq_some_iff.1 hd).1
      simp at this
      exact this
    subst hi
    rw [cell_of_row _ _ _ _ _ _ (heap_alloc_new w _)]
    simp
  · have hi : i = 0 := by
      have := (List.getElem?_eq_some_iff.1 hd).1
      simp at this
      exact this
    subst hi
    simp at hd
    subst hd
    exact hC
def AllC {D : Type} (C : D → List Value → Prop) (enc : D → List Value) (l : List D) : Prop := ∀ d ∈ l, C d (enc d)
theorem AllC.snoc {D : Type} {C : D → List Value → Prop} {enc : D → List Value} {l : List D} {d : D} (h : AllC C enc l) (hd : C d (enc d)) : AllC C enc (l ++ [d]) := by
  intro x hx
  rcases List.mem_append.1 hx with h1 | h1
  · exact h x h1
  · rw [List.mem_singleton] at h1
    subst h1
    exact hd
def lenOf : Value → Nat
  | .slice _ n _ => n
  | _ => 0

set_option maxHeartbeats 2000000 in
set_option maxRecDepth 10000 in
theorem c_l16Taints (code : List UInt8) (p : Nat) (w : World) (h : CurAt code p w) :
    Calls Try.prog 46 #[.pointer (some ⟨p, 0, none⟩)] w fun e w' => ∃ (l : List Taint) (A : Option Addr) (c : Nat), e = .returned (.slice A l.length c) ∧ RowE encT 3 32 w.heap.size w' l (.slice A l.length c) ∧ AllC C_Taint encT l ∧ l.length ≤ 3 ∧ Dr code p w w' := by
  obtain ⟨i0, hi, hz0, hz1, hz2⟩ := info_parts (show (Try.prog.info? 32).map (fun i => (i.zero, i.size, i.bytes)) = some (some (.agg #[.string ⟨#[]⟩, .string ⟨#[]⟩, .int .i64 0]), 3, 40) from by kernel_rfl)
  have hpl := h.lt
  have H := Lib.hid h
  clear h
  go_enter Try.func46, Try.ntmps46
  go_wp2_with fail
  go_loopw [3, 4] (fun s3 s4 wr => ∃ (k : Nat) (l : List Taint) (A : Option Addr) (c : Nat), k ≤ 3 ∧ s4 = .int .i64 k ∧ s3 = .slice A l.length c ∧ RowE encT 3 32 w.heap.size wr l (.slice A l.length c) ∧ AllC C_Taint encT l ∧ l.length ≤ k ∧ Dr code p w wr) (fun _ s4 _ => 3 - (intOf s4).toNat)
  case atStart => exact ⟨0, [], _, _, by omega, rfl, rfl, own_empty rfl (Nat.le_refl _), fun d hd => by simp at hd, Nat.le_refl _, (Dr.refl H.out).alloc _⟩
  case round =>
    obtain ⟨k, l, A, c, hk, rfl, rfl, hR, hC, hlk, hD⟩ := hrel
    have HR := Lib.hid hR
    have HC := Lib.hid hC
    have HD := Lib.hid hD
    have hsz := hD.size
    clear hR hC hD
    go_wp2_with fail
    refine (c_l01Below code p 3 _ HD.out.cur (by decide)).mono ?_
    rintro e w1 ⟨x, rfl, hx0, hx1, -, hd⟩
    have hx2 := hx1 (by decide)
    have hsz1 := hd.size
    have HR1 := Lib.hid (HR.out.dr hd hpl)
    have HD1 := Lib.hid (HD.out.trans hd)
    clear hd hx1
    by_cases hlt : (k : Int) < x
    · have hp1 : p < w1.heap.size := by omega
      have hown : RowE encT 3 32 w1.heap.size (w1.alloc (.cells #[] 32)) [] (.slice (some ⟨w1.heap.size, 0, none⟩) 0 0) := own_empty rfl (Nat.le_refl _)
      have hb0 : Below w1.heap.size w1 (w1.alloc (.cells #[] 32)) := (by repeat (first | (with_reducible exact Below.refl _ _) | (with_reducible refine ext_alloc ?_) | ((with_reducible refine ext_setCell ?_ ?_); focus (simp; (try omega))) | (with_reducible refine below_drewN ?_ _) | (with_reducible refine Below.drew ?_) | (with_reducible (apply ext_step; assumption))))
      obtain ⟨v2, w2, hr2, hR2, hg2, -⟩ := run_append_rows (P := Try.prog) (enc := encT) (C := C_Taint) (w1.alloc (.cells #[] 32)) 25 25 w1.heap.size 32 i0 (.agg #[.string ⟨#[]⟩, .string ⟨#[]⟩, .int .i64 0]) 3 40 Try.underlying25 hi hz0 hz1 hz2 rfl (by decide) encT_len encT_one encT_C _ 0 [] rfl hown l A l.length c _ _ rfl (Sl_Taint.now (RowE.sl encT_len HR1.out HC.out) hb0) (by unfold maxLen; omega) (by omega) (by simp)
      rw [List.nil_append] at hR2
      obtain ⟨A2, c2, rfl⟩ := hR2.form
      have hb2 : Below w1.heap.size w1 w2 := Below.grown hb0 hg2 (by simp) (fun q hq => by simp [Value.ownBlock] at hq; omega)
      have HD2 := Lib.hid ((Dr.refl HD1.out.cur).low hb2 hp1)
      have HR2 := Lib.hid hR2
      clear hR2 hg2 hown hb0 hb2
      go_wp2_with (at_builtin; refine wpList_append_of rfl (.tmp 15) (.tmp 16) 25 rfl _ _ _ w2 rfl rfl hr2 ?_)
      clear hr2
      refine (c_l16Taint code p _ HD2.out.cur).mono ?_
      rintro e w3 ⟨d, rfl, hCd, hd⟩
      have HD3 := Lib.hid (HD2.out.trans hd)
      have hR3 := HR2.out.dr hd hp1
      have hsz3 := HD3.out.size
      have hCd2 := Lib.hid hCd
      have hb0 : Below w3.heap.size w3 (w3.alloc (.cells #[.string d.key, .string d.value, .int .i64 d.effect] 32)) := (by repeat (first | (with_reducible exact Below.refl _ _) | (with_reducible refine ext_alloc ?_) | ((with_reducible refine ext_setCell ?_ ?_); focus (simp; (try omega))) | (with_reducible refine below_drewN ?_ _) | (with_reducible refine Below.drew ?_) | (with_reducible (apply ext_step; assumption))))
      obtain ⟨v4, w4, hr4, hR4, hg4, -⟩ := run_append_rows (P := Try.prog) (enc := encT) (C := C_Taint) (w3.alloc (.cells #[.string d.key, .string d.value, .int .i64 d.effect] 32)) 25 25 w1.heap.size 32 i0 (.agg #[.string ⟨#[]⟩, .string ⟨#[]⟩, .int .i64 0]) 3 40 Try.underlying25 hi hz0 hz1 hz2 rfl (by decide) encT_len encT_one encT_C _ l.length l rfl (hR3.below hb0) [d] (some ⟨w3.heap.size, 0, none⟩) 1 1 _ _ rfl (sl_one encT_len w3 d hCd 32 _ rfl) (by unfold maxLen; omega) (by omega) (by simp; omega)
      obtain ⟨A4, c4, rfl⟩ := hR4.form
      have hb4 : Below w1.heap.size w3 w4 := Below.grown (hb0.mono hsz3) hg4 (by simp; omega) (fun q hq => (World.ownsRow.lt hR3 q hq).1)
      have HD4 := Lib.hid (HD3.out.low hb4 hp1)
      have HS4 := Lib.hid (RowE.sl encT_len hR4 (HC.out.snoc hCd))
      have HR4 := Lib.hid (HR1.out.dr HD4.out hpl)
      have HC4 := Lib.hid (sortTB_all (HC.out.snoc hCd))
      have HX := Lib.hid (HD1.out.trans HD4.out)
      have hlen : (l ++ [d]).length = l.length + 1 := by simp
      have hln : (l ++ [d]).length ≤ 1048576 := by omega
      have HL := Lib.hid hlen
      have HN := Lib.hid hln
      have hsz4 := HX.out.size
      rw [hlen] at HS4 hr4
      clear hR4 hg4 hR3 hb0 hb4 hCd hd hlen hln
      go_wp2_with (at_builtin; refine wpList_append_of rfl (.tmp 17) (.tmp 20) 25 rfl _ _ _ w4 rfl rfl hr4 ?_)
      clear hr4
      refine (c_spec_SortTaints (l ++ [d]) _ _ _ HS4.out HN.out).mono ?_
      rintro e w5 ⟨A5, c5, rfl, hR5, hb5⟩
      have HX5 := Lib.hid (HX.out.step hb5)
      have HRo := Lib.hid (HR4.out.below hb5)
      have HR5 := Lib.hid (hR5.less hsz4)
      obtain ⟨L5, hL5⟩ : ∃ L, L = (sortTB (l ++ [d])).1 := ⟨_, rfl⟩
      obtain ⟨B5, hB5⟩ : ∃ B, B = (sortTB (l ++ [d])).2 := ⟨_, rfl⟩
      have hl5 : L5.length ≤ l.length + 1 := by rw [hL5, ← HL.out]; exact HC4.out.1
      have HC5 := Lib.hid (show AllC C_Taint encT L5 by rw [hL5]; exact HC4.out.2)
      rw [← hL5] at HR5 ⊢
      rw [← hB5]
      clear hL5 hB5 hR5 hb5
      cases B5
      · go_wp2_with fail
        go_roundw
        case rel => exact ⟨k + 1, l, A, c, by omega, by go_num, rfl, HRo.out, HC.out, by omega, HX5.out⟩
        case measure => simp [intOf]; omega
      · go_wp2_with fail
        go_roundw
        case rel => exact ⟨k + 1, L5, A5, c5, by omega, by go_num, rfl, HR5.out, HC5.out, by omega, HX5.out⟩
        case measure => simp [intOf]; omega
    · go_wp2_with fail
      go_ret
      exact ⟨l, A, c, rfl, HR1.out, HC.out, by omega, HD1.out⟩
set_option maxHeartbeats 2000000 in
set_option maxRecDepth 10000 in
theorem c_l16AnyTaints (code : List UInt8) (p : Nat) (w : World) (h : CurAt code p w) :
    Calls Try.prog 22 #[.pointer (some ⟨p, 0, none⟩)] w fun e w' => ∃ (l : List Taint) (A : Option Addr) (c : Nat), e = .returned (.slice A l.length c) ∧ RowE encT 3 32 w.heap.size w' l (.slice A l.length c) ∧ AllC C_Taint encT l ∧ l.length ≤ 41 ∧ Dr code p w w' := by
  obtain ⟨i0, hi, hz0, hz1, hz2⟩ := info_parts (show (Try.prog.info? 32).map (fun i => (i.zero, i.size, i.bytes)) = some (some (.agg #[.string ⟨#[]⟩, .string ⟨#[]⟩, .int .i64 0]), 3, 40) from by kernel_rfl)
  have hpl := h.lt
  have H := Lib.hid h
  clear h
  go_enter Try.func22, Try.ntmps22
  go_wp2_with fail
  refine (c_l16Taints code p _ H.out).mono ?_
  rintro e w0 ⟨l0, A0, c0, rfl, hR0, hC0, hl0, hD0⟩
  have HR0 := Lib.hid hR0
  have HC0 := Lib.hid hC0
  have HD0 := Lib.hid hD0
  clear hR0 hC0 hD0
  go_wp2_with fail
  go_loopw [3, 4] (fun s3 s4 wr => ∃ (k : Nat) (l : List Taint) (A : Option Addr) (c : Nat), k ≤ 4 ∧ s4 = .int .i64 k ∧ s3 = .slice A l.length c ∧ RowE encT 3 32 w.heap.size wr l (.slice A l.length c) ∧ AllC C_Taint encT l ∧ l.length ≤ 3 + k ∧ Dr code p w wr) (fun _ s4 _ => 4 - (intOf s4).toNat)
  case atStart => exact ⟨0, l0, A0, c0, by omega, rfl, rfl, HR0.out, HC0.out, by omega, HD0.out⟩
  case round =>
    obtain ⟨k, l, A, c, hk, rfl, rfl, hR, hC, hlk, hD⟩ := hrel
    have HR := Lib.hid hR
    have HC := Lib.hid hC
    have HD := Lib.hid hD
    have hsz := hD.size
    clear hR hC hD
    go_wp2_with fail
    refine (c_l01Below code p 4 _ HD.out.cur (by decide)).mono ?_
    rintro e w1 ⟨x, rfl, hx0, hx1, -, hd⟩
    have hx2 := hx1 (by decide)
    have hsz1 := hd.size
    have HR1 := Lib.hid (HR.out.dr hd hpl)
    have HD1 := Lib.hid (HD.out.trans hd)
    clear hd hx1
    by_cases hlt : (k : Int) < x
    · go_wp2_with fail
      refine (c_l16AnyTaint code p _ HD1.out.cur).mono ?_
      rintro e w3 ⟨d, rfl, hCd, hd⟩
      have HD3 := Lib.hid (HD1.out.trans hd)
      have hR3 := HR1.out.dr hd hpl
      have hsz3 := HD3.out.size
      have hb0 : Below w3.heap.size w3 (w3.alloc (.cells #[.string d.key, .string d.value, .int .i64 d.effect] 32)) := (by repeat (first | (with_reducible exact Below.refl _ _) | (with_reducible refine ext_alloc ?_) | ((with_reducible refine ext_setCell ?_ ?_); focus (simp; (try omega))) | (with_reducible refine below_drewN ?_ _) | (with_reducible refine Below.drew ?_) | (with_reducible (apply ext_step; assumption))))
      obtain ⟨v4, w4, hr4, hR4, hg4, -⟩ := run_append_rows (P := Try.prog) (enc := encT) (C := C_Taint) (w3.alloc (.cells #[.string d.key, .string d.value, .int .i64 d.effect] 32)) 25 25 w.heap.size 32 i0 (.agg #[.string ⟨#[]⟩, .string ⟨#[]⟩, .int .i64 0]) 3 40 Try.underlying25 hi hz0 hz1 hz2 rfl (by decide) encT_len encT_one encT_C _ l.length l rfl (hR3.below hb0) [d] (some ⟨w3.heap.size, 0, none⟩) 1 1 _ _ rfl (sl_one encT_len w3 d hCd 32 _ rfl) (by unfold maxLen; omega) (by omega) (by simp; omega)
      obtain ⟨A4, c4, rfl⟩ := hR4.form
      have hb4 : Below w.heap.size w3 w4 := Below.grown (hb0.mono hsz3) hg4 (by simp; omega) (fun q hq => (World.ownsRow.lt hR3 q hq).1)
      have HD4 := Lib.hid (HD3.out.low hb4 hpl)
      have HC4 := Lib.hid (HC.out.snoc hCd)
      have HR4 := Lib.hid hR4
      have hlen : (l ++ [d]).length = l.length + 1 := by simp
      have HL := Lib.hid hlen
      clear hR4 hg4 hR3 hb0 hb4 hCd hd hlen
      go_wp2_with (at_builtin; refine wpList_append_of rfl (.tmp 13) (.tmp 16) 25 rfl _ _ _ w4 rfl rfl hr4 ?_)
      clear hr4
      go_roundw
      case rel => exact ⟨k + 1, l ++ [d], A4, c4, by omega, by go_num, by rw [HL.out], HR4.out, HC4.out, by rw [HL.out]; omega, HD4.out⟩
      case measure => simp [intOf]; omega
    · go_wp2_with fail
      refine (c_l01Once code p 20 _ HD1.out.cur (by decide)).mono ?_
      rintro e w2 ⟨b, rfl, hd⟩
      have HR2 := Lib.hid (HR1.out.dr hd hpl)
      have HD2 := Lib.hid (HD1.out.trans hd)
      clear hd
      cases b
      · go_wp2_with fail
        go_ret
        exact ⟨l, A, c, rfl, HR2.out, HC.out, by omega, HD2.out⟩
      · have HC0 := HC
        have hl41 : l.length ≤ 41 := by omega
        clear HR HR1 HD HD1 hlk hlt hx0 hx2
        go_wp2_with fail
        go_loopw [3] (fun s3 wr => ∃ (l : List Taint) (A : Option Addr) (c : Nat), s3 = .slice A l.length c ∧ RowE encT 3 32 w.heap.size wr l (.slice A l.length c) ∧ AllC C_Taint encT l ∧ l.length ≤ 41 ∧ Dr code p w wr) (fun s3 _ => 41 - lenOf s3)
        case atStart => exact ⟨l, A, c, rfl, HR2.out, HC0.out, hl41, HD2.out⟩
        case round =>
          obtain ⟨l, A, c, rfl, hR, hC, hlk, hD⟩ := hrel
          have HR := Lib.hid hR
          have HC := Lib.hid hC
          have HD := Lib.hid hD
          have hsz := hD.size
          clear hR hC hD
          go_wp2_with fail
          refine (c_l01Below code p 2 _ HD.out.cur (by decide)).mono ?_
          rintro e w3 ⟨x, rfl, hx0, hx1, -, hd⟩
          have hx2 := hx1 (by decide)
          have hR3 := HR.out.dr hd hpl
          have HD3 := Lib.hid (HD.out.trans hd)
          have hsz3 := HD3.out.size
          clear hd hx1
          by_cases hlt : (l.length : Int) < 40 + x
          · have hb0 : Below w3.heap.size w3 (w3.alloc (.cells #[.string ⟨#[97]⟩, .string ⟨#[]⟩, .int .i64 1] 32)) := (by repeat (first | (with_reducible exact Below.refl _ _) | (with_reducible refine ext_alloc ?_) | ((with_reducible refine ext_setCell ?_ ?_); focus (simp; (try omega))) | (with_reducible refine below_drewN ?_ _) | (with_reducible refine Below.drew ?_) | (with_reducible (apply ext_step; assumption))))
            have hCd : C_Taint (⟨⟨#[97]⟩, ⟨#[]⟩, 1⟩ : Taint) (encT (⟨⟨#[97]⟩, ⟨#[]⟩, 1⟩ : Taint)) := ⟨rfl, by decide, by decide, (show I64 1 from ⟨by decide, by decide⟩)⟩
            obtain ⟨v4, w4, hr4, hR4, hg4, -⟩ := run_append_rows (P := Try.prog) (enc := encT) (C := C_Taint) (w3.alloc (.cells #[.string ⟨#[97]⟩, .string ⟨#[]⟩, .int .i64 1] 32)) 25 25 w.heap.size 32 i0 (.agg #[.string ⟨#[]⟩, .string ⟨#[]⟩, .int .i64 0]) 3 40 Try.underlying25 hi hz0 hz1 hz2 rfl (by decide) encT_len encT_one encT_C _ l.length l rfl (hR3.below hb0) [(⟨⟨#[97]⟩, ⟨#[]⟩, 1⟩ : Taint)] (some ⟨w3.heap.size, 0, none⟩) 1 1 _ _ rfl (sl_one encT_len w3 (⟨⟨#[97]⟩, ⟨#[]⟩, 1⟩ : Taint) hCd 32 _ rfl) (by unfold maxLen; omega) (by omega) (by simp; omega)
            obtain ⟨A4, c4, rfl⟩ := hR4.form
            have hb4 : Below w.heap.size w3 w4 := Below.grown (hb0.mono hsz3) hg4 (by simp; omega) (fun q hq => (World.ownsRow.lt hR3 q hq).1)
            have HD4 := Lib.hid (HD3.out.low hb4 hpl)
            have HC4 := Lib.hid (HC.out.snoc hCd)
            have HR4 := Lib.hid hR4
            have hlen : (l ++ [(⟨⟨#[97]⟩, ⟨#[]⟩, 1⟩ : Taint)]).length = l.length + 1 := by simp
            have HL := Lib.hid hlen
            clear hR4 hg4 hR3 hb0 hb4 hCd hlen
            go_wp2_with (at_builtin; refine wpList_append_of rfl (.tmp 26) (.tmp 28) 25 rfl _ _ _ w4 rfl rfl hr4 ?_)
            clear hr4
            go_roundw
            case rel => exact ⟨l ++ [(⟨⟨#[97]⟩, ⟨#[]⟩, 1⟩ : Taint)], A4, c4, by rw [HL.out], HR4.out, HC4.out, by rw [HL.out]; omega, HD4.out⟩
            case measure => simp [lenOf]; omega
          · have HR3 := Lib.hid hR3
            clear hR3
            go_wp2_with fail
            go_ret
            exact ⟨l, A, c, rfl, HR3.out, HC.out, hlk, HD3.out⟩
set_option maxHeartbeats 2000000 in
set_option maxRecDepth 10000 in
theorem c_l16Tolerances (code : List UInt8) (p : Nat) (w : World) (h : CurAt code p w) :
    Calls Try.prog 21 #[.pointer (some ⟨p, 0, none⟩)] w fun e w' => ∃ (l : List Tolerance) (A : Option Addr) (c : Nat), e = .returned (.slice A l.length c) ∧ RowE encTol 4 30 w.heap.size w' l (.slice A l.length c) ∧ AllC C_Tolerance encTol l ∧ l.length ≤ 3 ∧ Dr code p w w' := by
  obtain ⟨i0, hi, hz0, hz1, hz2⟩ := info_parts (show (Try.prog.info? 30).map (fun i => (i.zero, i.size, i.bytes)) = some (some (.agg #[.string ⟨#[]⟩, .bool false, .string ⟨#[]⟩, .int .i64 0]), 4, 48) from by kernel_rfl)
  have hpl := h.lt
  have H := Lib.hid h
  clear h
  go_enter Try.func21, Try.ntmps21
  go_wp2_with fail
  go_loopw [3, 4] (fun s3 s4 wr => ∃ (k : Nat) (l : List Tolerance) (A : Option Addr) (c : Nat), k ≤ 3 ∧ s4 = .int .i64 k ∧ s3 = .slice A l.length c ∧ RowE encTol 4 30 w.heap.size wr l (.slice A l.length c) ∧ AllC C_Tolerance encTol l ∧ l.length ≤ k ∧ Dr code p w wr) (fun _ s4 _ => 3 - (intOf s4).toNat)
  case atStart => exact ⟨0, [], _, _, by omega, rfl, rfl, own_empty rfl (Nat.le_refl _), fun d hd => by simp at hd, Nat.le_refl _, (Dr.refl H.out).alloc _⟩
  case round =>
    obtain ⟨k, l, A, c, hk, rfl, rfl, hR, hC, hlk, hD⟩ := hrel
    have HR := Lib.hid hR
    have HC := Lib.hid hC
    have HD := Lib.hid hD
    have hsz := hD.size
    clear hR hC hD
    go_wp2_with fail
    refine (c_l01Below code p 3 _ HD.out.cur (by decide)).mono ?_
    rintro e w1 ⟨x, rfl, hx0, hx1, -, hd⟩
    have hx2 := hx1 (by decide)
    have hsz1 := hd.size
    have HR1 := Lib.hid (HR.out.dr hd hpl)
    have HD1 := Lib.hid (HD.out.trans hd)
    clear hd hx1
    by_cases hlt : (k : Int) < x
    · have hp1 : p < w1.heap.size := by omega
      have hown : RowE encTol 4 30 w1.heap.size (w1.alloc (.cells #[] 30)) [] (.slice (some ⟨w1.heap.size, 0, none⟩) 0 0) := own_empty rfl (Nat.le_refl _)
      have hb0 : Below w1.heap.size w1 (w1.alloc (.cells #[] 30)) := (by repeat (first | (with_reducible exact Below.refl _ _) | (with_reducible refine ext_alloc ?_) | ((with_reducible refine ext_setCell ?_ ?_); focus (simp; (try omega))) | (with_reducible refine below_drewN ?_ _) | (with_reducible refine Below.drew ?_) | (with_reducible (apply ext_step; assumption))))
      obtain ⟨v2, w2, hr2, hR2, hg2, -⟩ := run_append_rows (P := Try.prog) (enc := encTol) (C := C_Tolerance) (w1.alloc (.cells #[] 30)) 24 24 w1.heap.size 30 i0 (.agg #[.string ⟨#[]⟩, .bool false, .string ⟨#[]⟩, .int .i64 0]) 4 48 Try.underlying24 hi hz0 hz1 hz2 rfl (by decide) encTol_len encTol_one encTol_C _ 0 [] rfl hown l A l.length c _ _ rfl (Sl_Tolerance.now (RowE.sl encTol_len HR1.out HC.out) hb0) (by unfold maxLen; omega) (by omega) (by simp)
      rw [List.nil_append] at hR2
      obtain ⟨A2, c2, rfl⟩ := hR2.form
      have hb2 : Below w1.heap.size w1 w2 := Below.grown hb0 hg2 (by simp) (fun q hq => by simp [Value.ownBlock] at hq; omega)
      have HD2 := Lib.hid ((Dr.refl HD1.out.cur).low hb2 hp1)
      have HR2 := Lib.hid hR2
      clear hR2 hg2 hown hb0 hb2
      go_wp2_with (at_builtin; refine wpList_append_of rfl (.tmp 15) (.tmp 16) 24 rfl _ _ _ w2 rfl rfl hr2 ?_)
      clear hr2
      refine (c_l16Tolerance code p _ HD2.out.cur).mono ?_
      rintro e w3 ⟨d, rfl, hCd, hd⟩
      have HD3 := Lib.hid (HD2.out.trans hd)
      have hR3 := HR2.out.dr hd hp1
      have hsz3 := HD3.out.size
      have hCd2 := Lib.hid hCd
      have hb0 : Below w3.heap.size w3 (w3.alloc (.cells #[.string d.key, .bool d.equal, .string d.value, .int .i64 d.effect] 30)) := (by repeat (first | (with_reducible exact Below.refl _ _) | (with_reducible refine ext_alloc ?_) | ((with_reducible refine ext_setCell ?_ ?_); focus (simp; (try omega))) | (with_reducible refine below_drewN ?_ _) | (with_reducible refine Below.drew ?_) | (with_reducible (apply ext_step; assumption))))
      obtain ⟨v4, w4, hr4, hR4, hg4, -⟩ := run_append_rows (P := Try.prog) (enc := encTol) (C := C_Tolerance) (w3.alloc (.cells #[.string d.key, .bool d.equal, .string d.value, .int .i64 d.effect] 30)) 24 24 w1.heap.size 30 i0 (.agg #[.string ⟨#[]⟩, .bool false, .string ⟨#[]⟩, .int .i64 0]) 4 48 Try.underlying24 hi hz0 hz1 hz2 rfl (by decide) encTol_len encTol_one encTol_C _ l.length l rfl (hR3.below hb0) [d] (some ⟨w3.heap.size, 0, none⟩) 1 1 _ _ rfl (sl_one encTol_len w3 d hCd 30 _ rfl) (by unfold maxLen; omega) (by omega) (by simp; omega)
      obtain ⟨A4, c4, rfl⟩ := hR4.form
      have hb4 : Below w1.heap.size w3 w4 := Below.grown (hb0.mono hsz3) hg4 (by simp; omega) (fun q hq => (World.ownsRow.lt hR3 q hq).1)
      have HD4 := Lib.hid (HD3.out.low hb4 hp1)
      have HS4 := Lib.hid (RowE.sl encTol_len hR4 (HC.out.snoc hCd))
      have HR4 := Lib.hid (HR1.out.dr HD4.out hpl)
      have HC4 := Lib.hid (sortTolB_all (HC.out.snoc hCd))
      have HX := Lib.hid (HD1.out.trans HD4.out)
      have hlen : (l ++ [d]).length = l.length + 1 := by simp
      have hln : (l ++ [d]).length ≤ 1048576 := by omega
      have HL := Lib.hid hlen
      have HN := Lib.hid hln
      have hsz4 := HX.out.size
      rw [hlen] at HS4 hr4
      clear hR4 hg4 hR3 hb0 hb4 hCd hd hlen hln
      go_wp2_with (at_builtin; refine wpList_append_of rfl (.tmp 17) (.tmp 20) 24 rfl _ _ _ w4 rfl rfl hr4 ?_)
      clear hr4
      refine (c_spec_SortTolerances (l ++ [d]) _ _ _ HS4.out HN.out).mono ?_
      rintro e w5 ⟨A5, c5, rfl, hR5, hb5⟩
      have HX5 := Lib.hid (HX.out.step hb5)
      have HRo := Lib.hid (HR4.out.below hb5)
      have HR5 := Lib.hid (hR5.less hsz4)
      obtain ⟨L5, hL5⟩ : ∃ L, L = (sortTolB (l ++ [d])).1 := ⟨_, rfl⟩
      obtain ⟨B5, hB5⟩ : ∃ B, B = (sortTolB (l ++ [d])).2 := ⟨_, rfl⟩
      have hl5 : L5.length ≤ l.length + 1 := by rw [hL5, ← HL.out]; exact HC4.out.1
      have HC5 := Lib.hid (show AllC C_Tolerance encTol L5 by rw [hL5]; exact HC4.out.2)
      rw [← hL5] at HR5 ⊢
      rw [← hB5]
      clear hL5 hB5 hR5 hb5
      cases B5
      · go_wp2_with fail
        go_roundw
        case rel => exact ⟨k + 1, l, A, c, by omega, by go_num, rfl, HRo.out, HC.out, by omega, HX5.out⟩
        case measure => simp [intOf]; omega
      · go_wp2_with fail
        go_roundw
        case rel => exact ⟨k + 1, L5, A5, c5, by omega, by go_num, rfl, HR5.out, HC5.out, by omega, HX5.out⟩
        case measure => simp [intOf]; omega
    · go_wp2_with fail
      go_ret
      exact ⟨l, A, c, rfl, HR1.out, HC.out, by omega, HD1.out⟩
end Go.Proofs.Ytenkdjclecikkaa
