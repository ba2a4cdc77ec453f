/- The laws' own draws of rows of requirements. No conditions. Written by wip/tools/gendrawn2.py. -/
import Derived.Test.YtenkdjclecikkaaDrawN
namespace Go.Proofs.Ytenkdjclecikkaa
open Go.RowKit

theorem insB_mem {D : Type} {lt eq : D → D → Bool} {l : List D} {x y : D} (h : y ∈ insB lt eq l x) : y ∈ l ∨ y = x := by
  unfold insB at h
  split at h
  · rcases List.mem_append.1 h with h1 | h1
    · exact .inl h1
    · exact .inr (List.mem_singleton.1 h1)
  · split at h
    · exact .inl h
    · rw [List.mem_append, List.mem_append] at h
      rcases h with (h1 | h1) | h1
      · exact .inl (List.mem_of_mem_take h1)
      · exact .inr (List.mem_singleton.1 h1)
      · exact .inl (List.mem_of_mem_drop h1)
theorem ordB_mem {D : Type} {lt eq : D → D → Bool} {l : List D} {y : D} (h : y ∈ ordB lt eq l) : y ∈ l := by
  have H : ∀ (l acc : List D), y ∈ l.foldl (insB lt eq) acc → y ∈ acc ∨ y ∈ l := by
    intro l
    induction l with
    | nil => intro acc h; exact .inl h
    | cons x xs ih =>
      intro acc h
      rcases ih _ h with h1 | h1
      · rcases insB_mem h1 with h2 | h2
        · exact .inl h2
        · exact .inr (by simp [h2])
      · exact .inr (List.mem_cons_of_mem _ h1)
  rcases H l [] h with h1 | h1
  · simp at h1
  · exact h1
theorem sortNB_all (l : List Need) (n : Nat) (h : ∀ d ∈ l, d.values.length ≤ n) : (sortNB l).1.length ≤ l.length ∧ ∀ d ∈ (sortNB l).1, d.values.length ≤ n := by
  unfold sortNB
  split
  · exact ⟨Nat.le_refl _, h⟩
  · split
    · exact ⟨Nat.le_refl _, h⟩
    · split
      · refine ⟨ordN_len l, fun d hd => ?_⟩
        have h1 := ordB_mem hd
        obtain ⟨d0, h2, rfl⟩ := List.mem_map.1 h1
        have h3 := ordB_len lessS eqS d0.values
        have h4 := h d0 h2
        show (valsB d0.values).length ≤ n
        unfold valsB
        omega
      · exact ⟨Nat.le_refl _, h⟩
theorem SmallN.map {L : List NeedV} (h : SmallN L) : ∀ d ∈ L.map (·.d), d.values.length ≤ 1000 := by
  intro d hd
  obtain ⟨x, hx, rfl⟩ := List.mem_map.1 hd
  exact h x hx
theorem SmallN.of {L : List NeedV} (h : ∀ d ∈ L.map (·.d), d.values.length ≤ 1000) : SmallN L := fun x hx => h _ (List.mem_map.2 ⟨x, hx, rfl⟩)
theorem mem_le {L : List NeedV} (h : SmallN L) : ∀ d ∈ L.map (·.d), d.values.length ≤ 1048576 := fun d hd => Nat.le_trans (h.map d hd) (by decide)
set_option maxHeartbeats 2000000 in
set_option maxRecDepth 10000 in
theorem c_l15List (code : List UInt8) (p : Nat) (w : World) (h : CurAt code p w) :
    Calls Try.prog 51 #[.pointer (some ⟨p, 0, none⟩)] w fun e w' => ∃ (L : List NeedV) (A : Option Addr) (c : Nat), e = .returned (.slice A L.length c) ∧ RowE encN 3 43 w.heap.size w' L (.slice A L.length c) ∧ AllN w.heap.size w' L ∧ SmallN L ∧ L.length ≤ 3 ∧ Dr code p w w' := by
  obtain ⟨i0, hi, hz0, hz1, hz2⟩ := info_parts (show (Try.prog.info? 43).map (fun i => (i.zero, i.size, i.bytes)) = some (some (.agg #[.string ⟨#[]⟩, .int .i64 0, .slice none 0 0]), 3, 48) from by kernel_rfl)
  have hpl := h.lt
  have H := Lib.hid h
  clear h
  go_enter Try.func51, Try.ntmps51
  go_wp2_with fail
  go_loopw [3, 4] (fun s3 s4 wr => ∃ (k : Nat) (L : List NeedV) (A : Option Addr) (c : Nat), k ≤ 3 ∧ s4 = .int .i64 k ∧ s3 = .slice A L.length c ∧ RowE encN 3 43 w.heap.size wr L (.slice A L.length c) ∧ AllN w.heap.size wr L ∧ SmallN L ∧ L.length ≤ k ∧ Dr code p w wr) (fun _ s4 _ => 3 - (intOf s4).toNat)
  case atStart => exact ⟨0, [], _, _, by omega, rfl, rfl, own_empty rfl (Nat.le_refl _), fun x hx => by simp at hx, fun x hx => by simp at hx, Nat.le_refl _, (Dr.refl H.out).alloc _⟩
  case round =>
    obtain ⟨k, L, A, c, hk, rfl, rfl, hR, hN, hS, hlk, hD⟩ := hrel
    have HR := Lib.hid hR
    have HN := Lib.hid hN
    have HS := Lib.hid hS
    have HD := Lib.hid hD
    have hsz := hD.size
    clear hR hN hS hD
    go_wp2_with fail
    refine (c_l01Below code p 3 _ HD.out.cur (by decide)).mono ?_
    rintro e w1 ⟨x, rfl, hx0, hx1, -, hd⟩
    have hx2 := hx1 (by decide)
    have hsz1 := hd.size
    have HR1 := Lib.hid (HR.out.dr hd hpl)
    have HN1 := Lib.hid (HN.out.dr hd hpl)
    have HD1 := Lib.hid (HD.out.trans hd)
    clear hd hx1
    by_cases hlt : (k : Int) < x
    · have hp1 : p < w1.heap.size := by omega
      have hml : (L.map (·.d)).length ≤ 1048576 := by rw [List.length_map]; omega
      have hSl := row_needs HR1.out HN1.out
      obtain ⟨l0, hl0⟩ : ∃ l0, l0 = L.map (·.d) := ⟨_, rfl⟩
      have hl0l : l0.length = L.length := by rw [hl0, List.length_map]
      have HL0 := Lib.hid hl0
      have HL0l := Lib.hid hl0l
      have hmv := mem_le HS.out
      rw [← hl0] at hSl hml hmv
      rw [← hl0l]
      clear hl0
      have HSl := Lib.hid hSl
      have HMv := Lib.hid hmv
      clear hSl hl0l hmv
      go_wp2_with fail
      refine (c_l15Copy l0 _ _ _ (by have := HSl.out; rw [← HL0l.out] at this; exact this) hml HMv.out).mono ?_
      rintro e w2 ⟨L2, A2, c2, rfl, hL2, hR2, hN2, hb2⟩
      have hll : L2.length = L.length := by have := congrArg List.length hL2; rw [List.length_map, HL0l.out] at this; exact this
      have HL2 := Lib.hid hL2
      have HLL := Lib.hid hll
      have HR2 := Lib.hid (show RowE encN 3 43 w1.heap.size w2 L2 (.slice A2 L2.length c2) by rw [hll, ← HL0l.out]; exact hR2)
      have HN2 := Lib.hid hN2
      rw [show l0.length = L2.length by rw [hll]; exact HL0l.out]
      have hsz2 := hb2.size
      have HD2 := Lib.hid ((Dr.refl HD1.out.cur).step hb2)
      clear hL2 hll hR2 hN2 hb2
      go_wp2_with fail
      refine (c_l15Need code p _ HD2.out.cur).mono ?_
      rintro e w3 ⟨y, rfl, hY, hy3, hd⟩
      have HD3 := Lib.hid (HD2.out.trans hd)
      have hsz3 := hd.size
      have hR3 := HR2.out.dr hd hp1
      have hN3 := HN2.out.dr hd hp1
      have hb0 : Below w3.heap.size w3 (w3.alloc (.cells #[.string y.d.key, .int .i64 y.d.op, .slice y.A y.d.values.length y.c] 43)) := (by repeat (first | (with_reducible exact Below.refl _ _) | (with_reducible refine ext_alloc ?_) | ((with_reducible refine ext_setCell ?_ ?_); focus (simp; (try omega))) | (with_reducible refine below_drewN ?_ _) | (with_reducible refine Below.drew ?_) | (with_reducible (apply ext_step; assumption))))
      have hlen2 : L2.length ≤ 3 := by rw [HLL.out]; omega
      obtain ⟨v5, w5, hr5, hR5, hg5, -⟩ := run_append_rows (P := Try.prog) (enc := encN) (C := C_E) (w3.alloc (.cells #[.string y.d.key, .int .i64 y.d.op, .slice y.A y.d.values.length y.c] 43)) 37 37 w1.heap.size 43 i0 (.agg #[.string ⟨#[]⟩, .int .i64 0, .slice none 0 0]) 3 48 Try.underlying37 hi hz0 hz1 hz2 rfl (by decide) encN_len encN_one encN_C _ L2.length L2 rfl (hR3.below hb0) [y] (some ⟨w3.heap.size, 0, none⟩) 1 1 _ _ rfl (sl_one encN_len w3 y rfl 43 _ rfl) (by unfold maxLen; omega) (by omega) (by simp; omega)
      obtain ⟨A5, c5, rfl⟩ := hR5.form
      have hN5 := ((hN3.below hb0).snoc ((hY.less hsz2).below hb0)).grown (hR3.below hb0) hg5 (by decide)
      have hb5 : Below w1.heap.size w3 w5 := Below.grown (hb0.mono (Nat.le_trans hsz2 hsz3)) hg5 (by simp; omega) (fun q hq => (World.ownsRow.lt hR3 q hq).1)
      have HD5 := Lib.hid (HD3.out.low hb5 hp1)
      have hSm5 : SmallN (L2 ++ [y]) := SmallN.snoc (SmallN.of (by rw [HL2.out, HL0.out]; exact HS.out.map)) (by omega)
      have hlen : (L2 ++ [y]).length = L2.length + 1 := by simp
      obtain ⟨L5, hL5⟩ : ∃ L5, L5 = L2 ++ [y] := ⟨_, rfl⟩
      rw [← hL5] at hR5 hr5 hN5 hSm5 hlen
      have HSl5 := Lib.hid (row_needs hR5 hN5)
      have HMv5 := Lib.hid (mem_le hSm5)
      have HSm5 := Lib.hid hSm5
      have hml5 : (L5.map (·.d)).length ≤ 1048576 := by rw [List.length_map]; omega
      obtain ⟨l5, hl5⟩ : ∃ l5, l5 = L5.map (·.d) := ⟨_, rfl⟩
      have hl5l : L5.length = l5.length := by rw [hl5, List.length_map]
      have hl54 : l5.length ≤ L.length + 1 := by rw [← hl5l, hlen, HLL.out]; omega
      have HL5 := Lib.hid hl5
      rw [← hl5] at HSl5 HMv5 hml5
      rw [hl5l] at hr5 HSl5
      have HR9 := Lib.hid (HR1.out.dr HD5.out hpl)
      have HN9 := Lib.hid (HN1.out.dr HD5.out hpl)
      have HX := Lib.hid (HD1.out.trans HD5.out)
      have hsz5 := HX.out.size
      have hs15 := HD5.out.size
      rw [show w3.alloc (.cells #[.string y.d.key, .int .i64 y.d.op, .slice y.A y.d.values.length y.c] 43) = w3.alloc (.cells #[.string y.d.key, .int .i64 y.d.op, .slice y.A y.d.values.length y.c] 43) from rfl] at hr5
      clear hR3 hN3 hb0 hR5 hN5 hb5 hSm5 hlen hL5 hl5 hl5l hg5 hd hY
      go_wp2_with (at_builtin; refine wpList_append_of rfl (.tmp 16) (.tmp 19) 37 rfl _ _ _ w5 rfl rfl hr5 ?_)
      clear hr5
      refine (c_spec_SortNeeds l5 _ _ _ HSl5.out hml5 HMv5.out).mono ?_
      rintro e w6 ⟨L6, A6, c6, rfl, hL6, hR6, hN6, hb6⟩
      have hall := sortNB_all l5 1000 (by rw [HL5.out]; exact HSm5.out.map)
      have hl6 : (sortNB l5).1.length = L6.length := by rw [← hL6, List.length_map]
      have HR6 := Lib.hid (show RowE encN 3 43 w.heap.size w6 L6 (.slice A6 L6.length c6) by rw [← hl6]; exact hR6.less hsz5)
      have HN6 := Lib.hid (hN6.less hsz5)
      have HS6 := Lib.hid (show SmallN L6 from SmallN.of (by rw [hL6]; exact hall.2))
      have HX6 := Lib.hid (HX.out.step hb6)
      have HR10 := Lib.hid (HR9.out.below hb6)
      have HN10 := Lib.hid (HN9.out.below hb6)
      have hl63 : L6.length ≤ k + 1 := by have := hall.1; omega
      rw [hl6]
      obtain ⟨B6, hB6⟩ : ∃ B, B = (sortNB l5).2 := ⟨_, rfl⟩
      rw [← hB6]
      clear hB6 hl6 hall hL6 hR6 hN6 hb6
      cases B6
      · go_wp2_with fail
        go_roundw
        case rel => exact ⟨k + 1, L, A, c, by omega, by go_num, by rw [HLL.out], HR10.out, HN10.out, HS.out, by omega, HX6.out⟩
        case measure => simp [intOf]; omega
      · go_wp2_with fail
        go_roundw
        case rel => exact ⟨k + 1, L6, A6, c6, by omega, by go_num, rfl, HR6.out, HN6.out, HS6.out, by omega, HX6.out⟩
        case measure => simp [intOf]; omega
    · go_wp2_with fail
      go_ret
      exact ⟨L, A, c, rfl, HR1.out, HN1.out, HS.out, by omega, HD1.out⟩
set_option maxHeartbeats 2000000 in
set_option maxRecDepth 10000 in
theorem c_l15Any (code : List UInt8) (p : Nat) (w : World) (h : CurAt code p w) :
    Calls Try.prog 35 #[.pointer (some ⟨p, 0, none⟩)] w fun e w' => ∃ (L : List NeedV) (A : Option Addr) (c : Nat), e = .returned (.slice A L.length c) ∧ RowE encN 3 43 w.heap.size w' L (.slice A L.length c) ∧ AllN w.heap.size w' L ∧ SmallN L ∧ L.length ≤ 9 ∧ Dr code p w w' := by
  obtain ⟨i0, hi, hz0, hz1, hz2⟩ := info_parts (show (Try.prog.info? 43).map (fun i => (i.zero, i.size, i.bytes)) = some (some (.agg #[.string ⟨#[]⟩, .int .i64 0, .slice none 0 0]), 3, 48) from by kernel_rfl)
  have hpl := h.lt
  have H := Lib.hid h
  clear h
  go_enter Try.func35, Try.ntmps35
  go_wp2_with fail
  refine (c_l15List code p _ H.out).mono ?_
  rintro e w0 ⟨L0, A0, c0, rfl, hR, hN, hS, hl3, hD⟩
  have HR0 := Lib.hid hR
  have HN0 := Lib.hid hN
  have HS0 := Lib.hid hS
  have HD0 := Lib.hid hD
  clear hR hN hS hD
  go_wp2_with fail
  refine (c_l01Once code p 5 _ HD0.out.cur (by decide)).mono ?_
  rintro e w7 ⟨b7, rfl, hd⟩
  have HR7 := Lib.hid (HR0.out.dr hd hpl)
  have HN7 := Lib.hid (HN0.out.dr hd hpl)
  have HD7 := Lib.hid (HD0.out.trans hd)
  clear hd
  cases b7
  · obtain ⟨L, A, c, hL4, HRX, HNX, HSX, HDX, rfl, rfl, rfl⟩ : ∃ (L : List NeedV) (A : Option Addr) (c : Nat), L.length ≤ 4 ∧ Hid (RowE encN 3 43 w.heap.size w7 L (.slice A L.length c)) ∧ Hid (AllN w.heap.size w7 L) ∧ Hid (SmallN L) ∧ Hid (Dr code p w w7) ∧ L = L0 ∧ A = A0 ∧ c = c0 := ⟨L0, A0, c0, by omega, HR7, HN7, HS0, HD7, rfl, rfl, rfl⟩
    clear HR0 HN0 HD0 HR7 HN7 HS0 HD7
    go_wp2_with fail
    refine (c_l01Once code p 10 _ HDX.out.cur (by decide)).mono ?_
    rintro e w9 ⟨b9, rfl, hd⟩
    have HRt := Lib.hid (HRX.out.dr hd hpl)
    have HNt := Lib.hid (HNX.out.dr hd hpl)
    have HDt := Lib.hid (HDX.out.trans hd)
    clear hd
    cases b9
    · go_wp2_with fail
      go_ret
      exact ⟨L, A, c, rfl, HRt.out, HNt.out, HSX.out, by omega, HDt.out⟩
    · go_wp2_with fail
      go_loopw [3, 4] (fun s3 s4 wr => ∃ (k : Nat) (L : List NeedV) (A : Option Addr) (c : Nat), k ≤ 5 ∧ s4 = .int .i64 k ∧ s3 = .slice A L.length c ∧ RowE encN 3 43 w.heap.size wr L (.slice A L.length c) ∧ AllN w.heap.size wr L ∧ SmallN L ∧ L.length ≤ 4 + k ∧ Dr code p w wr) (fun _ s4 _ => 5 - (intOf s4).toNat)
      case atStart => exact ⟨0, L, A, c, by omega, rfl, rfl, HRt.out, HNt.out, HSX.out, by omega, HDt.out⟩
      case round =>
        obtain ⟨k, L1, A1, c1, hk, rfl, rfl, hR, hN, hS, hlk, hD⟩ := hrel
        have HR := Lib.hid hR
        have HN := Lib.hid hN
        have HS := Lib.hid hS
        have HD := Lib.hid hD
        have hsz := hD.size
        clear hR hN hS hD
        go_wp2_with fail
        refine (c_l01Below code p 3 _ HD.out.cur (by decide)).mono ?_
        rintro e w1 ⟨x, rfl, hx0, hx1, -, hd⟩
        have hx2 := hx1 (by decide)
        have hsz1 := hd.size
        have HR1 := Lib.hid (HR.out.dr hd hpl)
        have HN1 := Lib.hid (HN.out.dr hd hpl)
        have HD1 := Lib.hid (HD.out.trans hd)
        clear hd hx1
        by_cases hlt : (k : Int) < 3 + x
        · have hdk := decS_size (k : Int) (by omega)
          have hdz : ((⟨#[122, 122]⟩ : ByteArray) ++ decS k).size ≤ 22 := by rw [ByteArray.size_append]; simp only [show (⟨#[122, 122]⟩ : ByteArray).size = 2 from rfl]; omega
          go_wp2_with fail
          refine (c_spec_Decimal (k : Int) _ (by omega)).mono ?_
          rintro e w2 ⟨rfl, hb⟩
          have hsz2 := hb.size
          have hR2 := HR1.out.below hb
          have hN2 := HN1.out.below hb
          have hD2 := HD1.out.step hb
          obtain ⟨y, hy⟩ : ∃ y : NeedV, y = ⟨⟨(⟨#[122, 122]⟩ : ByteArray) ++ decS k, 3, []⟩, none, 0⟩ := ⟨_, rfl⟩
          have hyO : ∀ W : World, OwnN w.heap.size W y := fun W => by subst hy; exact ⟨(show ((⟨#[122, 122]⟩ : ByteArray) ++ decS k).size ≤ 9223372036854775807 by omega), (show I64 3 from ⟨by decide, by decide⟩), fun s hs => by simp at hs, RowE.nil⟩
          have hb0 : Below w2.heap.size w2 (w2.alloc (.cells #[.string ((⟨#[122, 122]⟩ : ByteArray) ++ decS k), .int .i64 3, .slice none 0 0] 43)) := (by repeat (first | (with_reducible exact Below.refl _ _) | (with_reducible refine ext_alloc ?_) | ((with_reducible refine ext_setCell ?_ ?_); focus (simp; (try omega))) | (with_reducible refine below_drewN ?_ _) | (with_reducible refine Below.drew ?_) | (with_reducible (apply ext_step; assumption))))
          obtain ⟨v5, w5, hr5, hR5, hg5, -⟩ := run_append_rows (P := Try.prog) (enc := encN) (C := C_E) (w2.alloc (.cells #[.string ((⟨#[122, 122]⟩ : ByteArray) ++ decS k), .int .i64 3, .slice none 0 0] 43)) 37 37 w.heap.size 43 i0 (.agg #[.string ⟨#[]⟩, .int .i64 0, .slice none 0 0]) 3 48 Try.underlying37 hi hz0 hz1 hz2 rfl (by decide) encN_len encN_one encN_C _ L1.length L1 rfl (hR2.below hb0) [y] (some ⟨w2.heap.size, 0, none⟩) 1 1 _ _ rfl (sl_one encN_len w2 y rfl 43 _ (by subst hy; rfl)) (by unfold maxLen; omega) (by omega) (by simp; omega)
          obtain ⟨A5, c5, rfl⟩ := hR5.form
          have hN5 := Lib.hid (((hN2.below hb0).snoc (hyO _)).grown (hR2.below hb0) hg5 (by decide))
          have hb5 : Below w.heap.size w2 w5 := Below.grown (hb0.mono (by omega)) hg5 (by simp; omega) (fun q hq => (World.ownsRow.lt hR2 q hq).1)
          have HD5 := Lib.hid (hD2.low hb5 hpl)
          have HS5 := Lib.hid (HS.out.snoc (x := y) (by rw [hy]; simp))
          have HR5 := Lib.hid hR5
          have hlen : (L1 ++ [y]).length = L1.length + 1 := by simp
          have HL5 := Lib.hid hlen
          clear hR5 hg5 hb0 hb5 hR2 hN2 hD2 hlen hyO hy hb
          go_wp2_with (at_builtin; refine wpList_append_of rfl (.tmp 23) (.tmp 28) 37 rfl _ _ _ w5 rfl rfl hr5 ?_)
          clear hr5
          go_roundw
          case rel => exact ⟨k + 1, _, A5, c5, by omega, by go_num, by rw [HL5.out], HR5.out, hN5.out, HS5.out, by rw [HL5.out]; omega, HD5.out⟩
          case measure => simp [intOf]; omega
        · go_wp2_with fail
          go_ret
          exact ⟨L1, A1, c1, rfl, HR1.out, HN1.out, HS.out, by omega, HD1.out⟩
  · go_wp2_with fail
    refine (c_l15AnyNeed code p _ HD7.out.cur).mono ?_
    rintro e w3 ⟨y, rfl, hY, hy3, hd⟩
    have hsz3 := hd.size
    have hsz7 := HD7.out.size
    have hR3 := HR7.out.dr hd hpl
    have hN3 := HN7.out.dr hd hpl
    have hD3 := HD7.out.trans hd
    have hb0 : Below w3.heap.size w3 (w3.alloc (.cells #[.string y.d.key, .int .i64 y.d.op, .slice y.A y.d.values.length y.c] 43)) := (by repeat (first | (with_reducible exact Below.refl _ _) | (with_reducible refine ext_alloc ?_) | ((with_reducible refine ext_setCell ?_ ?_); focus (simp; (try omega))) | (with_reducible refine below_drewN ?_ _) | (with_reducible refine Below.drew ?_) | (with_reducible (apply ext_step; assumption))))
    obtain ⟨v5, w5, hr5, hR5, hg5, -⟩ := run_append_rows (P := Try.prog) (enc := encN) (C := C_E) (w3.alloc (.cells #[.string y.d.key, .int .i64 y.d.op, .slice y.A y.d.values.length y.c] 43)) 37 37 w.heap.size 43 i0 (.agg #[.string ⟨#[]⟩, .int .i64 0, .slice none 0 0]) 3 48 Try.underlying37 hi hz0 hz1 hz2 rfl (by decide) encN_len encN_one encN_C _ L0.length L0 rfl (hR3.below hb0) [y] (some ⟨w3.heap.size, 0, none⟩) 1 1 _ _ rfl (sl_one encN_len w3 y rfl 43 _ rfl) (by unfold maxLen; omega) (by omega) (by simp; omega)
    obtain ⟨A5, c5, rfl⟩ := hR5.form
    have HNX := Lib.hid (((hN3.below hb0).snoc ((hY.less hsz7).below hb0)).grown (hR3.below hb0) hg5 (by decide))
    have hb5 : Below w.heap.size w3 w5 := Below.grown (hb0.mono (by omega)) hg5 (by simp; omega) (fun q hq => (World.ownsRow.lt hR3 q hq).1)
    have HDX := Lib.hid (hD3.low hb5 hpl)
    have HSX := Lib.hid (HS0.out.snoc (x := y) (by omega))
    have HRX := Lib.hid hR5
    have hL4 : (L0 ++ [y]).length ≤ 4 := by simp; omega
    clear hR5 hg5 hb0 hb5 hR3 hN3 hD3 hd hY HR0 HN0 HD0 HR7 HN7 HD7
    go_wp2_with (at_builtin; refine wpList_append_of rfl (.tmp 9) (.tmp 12) 37 rfl _ _ _ w5 rfl rfl hr5 ?_)
    clear hr5
    obtain ⟨L, hLe⟩ : ∃ L, L = L0 ++ [y] := ⟨_, rfl⟩
    have hLn : L.length = L0.length + 1 := by rw [hLe]; simp
    rw [← hLe] at HRX HNX HSX hL4
    rw [← hLn]
    obtain ⟨A, hA⟩ : ∃ A, A = A5 := ⟨_, rfl⟩
    obtain ⟨c, hc⟩ : ∃ c, c = c5 := ⟨_, rfl⟩
    rw [← hA, ← hc] at HRX ⊢
    clear hLe hA hc HS0 hLn
    go_wp2_with fail
    refine (c_l01Once code p 10 _ HDX.out.cur (by decide)).mono ?_
    rintro e w9 ⟨b9, rfl, hd⟩
    have HRt := Lib.hid (HRX.out.dr hd hpl)
    have HNt := Lib.hid (HNX.out.dr hd hpl)
    have HDt := Lib.hid (HDX.out.trans hd)
    clear hd
    cases b9
    · go_wp2_with fail
      go_ret
      exact ⟨L, A, c, rfl, HRt.out, HNt.out, HSX.out, by omega, HDt.out⟩
    · go_wp2_with fail
      go_loopw [3, 4] (fun s3 s4 wr => ∃ (k : Nat) (L : List NeedV) (A : Option Addr) (c : Nat), k ≤ 5 ∧ s4 = .int .i64 k ∧ s3 = .slice A L.length c ∧ RowE encN 3 43 w.heap.size wr L (.slice A L.length c) ∧ AllN w.heap.size wr L ∧ SmallN L ∧ L.length ≤ 4 + k ∧ Dr code p w wr) (fun _ s4 _ => 5 - (intOf s4).toNat)
      case atStart => exact ⟨0, L, A, c, by omega, rfl, rfl, HRt.out, HNt.out, HSX.out, by omega, HDt.out⟩
      case round =>
        obtain ⟨k, L1, A1, c1, hk, rfl, rfl, hR, hN, hS, hlk, hD⟩ := hrel
        have HR := Lib.hid hR
        have HN := Lib.hid hN
        have HS := Lib.hid hS
        have HD := Lib.hid hD
        have hsz := hD.size
        clear hR hN hS hD
        go_wp2_with fail
        refine (c_l01Below code p 3 _ HD.out.cur (by decide)).mono ?_
        rintro e w1 ⟨x, rfl, hx0, hx1, -, hd⟩
        have hx2 := hx1 (by decide)
        have hsz1 := hd.size
        have HR1 := Lib.hid (HR.out.dr hd hpl)
        have HN1 := Lib.hid (HN.out.dr hd hpl)
        have HD1 := Lib.hid (HD.out.trans hd)
        clear hd hx1
        by_cases hlt : (k : Int) < 3 + x
        · have hdk := decS_size (k : Int) (by omega)
          have hdz : ((⟨#[122, 122]⟩ : ByteArray) ++ decS k).size ≤ 22 := by rw [ByteArray.size_append]; simp only [show (⟨#[122, 122]⟩ : ByteArray).size = 2 from rfl]; omega
          go_wp2_with fail
          refine (c_spec_Decimal (k : Int) _ (by omega)).mono ?_
          rintro e w2 ⟨rfl, hb⟩
          have hsz2 := hb.size
          have hR2 := HR1.out.below hb
          have hN2 := HN1.out.below hb
          have hD2 := HD1.out.step hb
          obtain ⟨y, hy⟩ : ∃ y : NeedV, y = ⟨⟨(⟨#[122, 122]⟩ : ByteArray) ++ decS k, 3, []⟩, none, 0⟩ := ⟨_, rfl⟩
          have hyO : ∀ W : World, OwnN w.heap.size W y := fun W => by subst hy; exact ⟨(show ((⟨#[122, 122]⟩ : ByteArray) ++ decS k).size ≤ 9223372036854775807 by omega), (show I64 3 from ⟨by decide, by decide⟩), fun s hs => by simp at hs, RowE.nil⟩
          have hb0 : Below w2.heap.size w2 (w2.alloc (.cells #[.string ((⟨#[122, 122]⟩ : ByteArray) ++ decS k), .int .i64 3, .slice none 0 0] 43)) := (by repeat (first | (with_reducible exact Below.refl _ _) | (with_reducible refine ext_alloc ?_) | ((with_reducible refine ext_setCell ?_ ?_); focus (simp; (try omega))) | (with_reducible refine below_drewN ?_ _) | (with_reducible refine Below.drew ?_) | (with_reducible (apply ext_step; assumption))))
          obtain ⟨v5, w5, hr5, hR5, hg5, -⟩ := run_append_rows (P := Try.prog) (enc := encN) (C := C_E) (w2.alloc (.cells #[.string ((⟨#[122, 122]⟩ : ByteArray) ++ decS k), .int .i64 3, .slice none 0 0] 43)) 37 37 w.heap.size 43 i0 (.agg #[.string ⟨#[]⟩, .int .i64 0, .slice none 0 0]) 3 48 Try.underlying37 hi hz0 hz1 hz2 rfl (by decide) encN_len encN_one encN_C _ L1.length L1 rfl (hR2.below hb0) [y] (some ⟨w2.heap.size, 0, none⟩) 1 1 _ _ rfl (sl_one encN_len w2 y rfl 43 _ (by subst hy; rfl)) (by unfold maxLen; omega) (by omega) (by simp; omega)
          obtain ⟨A5, c5, rfl⟩ := hR5.form
          have hN5 := Lib.hid (((hN2.below hb0).snoc (hyO _)).grown (hR2.below hb0) hg5 (by decide))
          have hb5 : Below w.heap.size w2 w5 := Below.grown (hb0.mono (by omega)) hg5 (by simp; omega) (fun q hq => (World.ownsRow.lt hR2 q hq).1)
          have HD5 := Lib.hid (hD2.low hb5 hpl)
          have HS5 := Lib.hid (HS.out.snoc (x := y) (by rw [hy]; simp))
          have HR5 := Lib.hid hR5
          have hlen : (L1 ++ [y]).length = L1.length + 1 := by simp
          have HL5 := Lib.hid hlen
          clear hR5 hg5 hb0 hb5 hR2 hN2 hD2 hlen hyO hy hb
          go_wp2_with (at_builtin; refine wpList_append_of rfl (.tmp 23) (.tmp 28) 37 rfl _ _ _ w5 rfl rfl hr5 ?_)
          clear hr5
          go_roundw
          case rel => exact ⟨k + 1, _, A5, c5, by omega, by go_num, by rw [HL5.out], HR5.out, hN5.out, HS5.out, by rw [HL5.out]; omega, HD5.out⟩
          case measure => simp [intOf]; omega
        · go_wp2_with fail
          go_ret
          exact ⟨L1, A1, c1, rfl, HR1.out, HN1.out, HS.out, by omega, HD1.out⟩
set_option maxHeartbeats 1000000 in
theorem c_spec_DrawSelects (code : List UInt8) (v : Value) (lo : Nat) (w : World) (hs : SlOf C_Byte 1 lo w.heap.size w code v) (hn : code.length ≤ 1048576) :
    Calls Try.prog 13 #[v] w fun e w' => ∃ (L : List NeedV) (A : Option Addr) (c : Nat) (xs : List Label) (B : Option Addr) (b : Nat), e = .returned (.tuple #[.slice A L.length c, .slice B xs.length b]) ∧ Hid (RowE encN 3 43 w.heap.size w' L (.slice A L.length c)) ∧ Hid (AllN w.heap.size w' L) ∧ Sl_Label w.heap.size w'.heap.size w' xs (.slice B xs.length b) ∧ Hid (SmallN L) ∧ L.length ≤ 9 ∧ xs.length ≤ 4 ∧ Below w.heap.size w w' := by
  go_enter Try.func13, Try.ntmps13
  go_wp2_with fail
  refine (c_l01New code v lo _ hs hn).mono ?_
  rintro e w1 ⟨p, rfl, hp, hC, hb⟩
  have hsz := hb.size
  have hpl := hC.lt
  go_wp2_with fail
  refine (c_l15Any code p _ hC).mono ?_
  rintro e w2 ⟨L, A, c, rfl, hR, hN, hS, hl, hd⟩
  have HR := Lib.hid hR
  have HN := Lib.hid hN
  have HS := Lib.hid hS
  have HD := Lib.hid hd
  have hsz2 := hd.size
  clear hR hN hS hd
  go_wp2_with fail
  refine (c_l14List code p _ HD.out.cur).mono ?_
  rintro e w3 ⟨xs, B, b, rfl, hR, hA, hl2, hd⟩
  have S1 := Lib.hid ((HR.out.dr hd hpl).less hsz)
  have S2 := Lib.hid ((HN.out.dr hd hpl).less hsz)
  have S3 := Lib.hid (RowE.sl encL_len ((hR.less hsz2).less hsz) hA)
  have B4 := hb.trans ((HD.out.trans hd).below hsz hp)
  clear hd hR hA
  go_wp2_with fail
  go_ret2
  exact ⟨L, A, c, xs, B, b, rfl, S1, S2, S3.out, HS, hl, hl2, B4⟩
set_option maxHeartbeats 1000000 in
set_option maxRecDepth 10000 in
theorem c_spec_DrawNeedMet (code : List UInt8) (v : Value) (lo : Nat) (w : World) (hs : SlOf C_Byte 1 lo w.heap.size w code v) (hn : code.length ≤ 1048576) :
    Calls Try.prog 14 #[v] w fun e w' => ∃ (xs : List Label) (B : Option Addr) (b : Nat) (y : NeedV), e = .returned (.tuple #[.slice B xs.length b, .agg #[.string y.d.key, .int .i64 y.d.op, .slice y.A y.d.values.length y.c]]) ∧ Sl_Label w.heap.size w'.heap.size w' xs (.slice B xs.length b) ∧ Hid (OwnN w.heap.size w' y) ∧ xs.length ≤ 4 ∧ y.d.values.length ≤ 4 ∧ Below w.heap.size w w' := by
  go_enter Try.func14, Try.ntmps14
  go_wp2_with fail
  refine (c_l01New code v lo (w.alloc (.cells #[.string ⟨#[]⟩, .int .i64 0, .slice none 0 0] 43)) (SlOf.now hs (ext_alloc (Below.refl _ _))) hn).mono ?_
  rintro e w1 ⟨p, rfl, hp, hC, hb⟩
  have hsz := hb.size
  simp at hsz hp
  have Q0 := Lib.hid ((hb.block w.heap.size (by simp)).trans (heap_alloc_new w _))
  have hpl := hC.lt
  have B1 : Below w.heap.size w w1 := ((Below.refl _ _).alloc (Nat.le_refl _) _).trans (hb.mono (by simp))
  clear hb
  go_wp2_with fail
  refine (c_l14List code p _ hC).mono ?_
  rintro e w2 ⟨xs, B, b, rfl, hR, hA, hl2, hd⟩
  have HR := Lib.hid hR
  have HA := Lib.hid hA
  have HD := Lib.hid hd
  have Q0a := Lib.hid ((hd.block (g := w.heap.size) (by omega) (by omega)).trans Q0.out)
  have hsz2 := hd.size
  clear hR hA hd
  go_wp2_with fail
  refine (c_l15AnyNeed code p _ HD.out.cur).mono ?_
  rintro e w3 ⟨y, rfl, hY, hy4, hd⟩
  have HR3 := Lib.hid (((HR.out.dr hd hpl).less (show w.heap.size + 1 ≤ w1.heap.size by omega)))
  have HY3 := Lib.hid (hY.less (show w.heap.size + 1 ≤ w2.heap.size by omega))
  have B3 : Below w.heap.size w w3 := B1.trans ((HD.out.trans hd).below (by omega) (by omega))
  have Q0b := (hd.block (g := w.heap.size) (by omega) (by omega)).trans Q0a.out
  obtain ⟨a0, a1, a2, af⟩ := row3 Q0b
  have l0 := row_lt Q0b
  clear hd Q0b
  have HX := Lib.hid (show RowE encL 2 79 (w.heap.size + 1) (((w3.setCell ⟨w.heap.size, 0, none⟩ (.string y.d.key)).setCell ⟨w.heap.size, 1, none⟩ (.int .i64 y.d.op)).setCell ⟨w.heap.size, 2, none⟩ (.slice y.A y.d.values.length y.c)) xs (.slice B xs.length b) from HR3.out.carry (fun q hq => by
    have h9 := (World.ownsRow.lt HR3.out q hq).1
    rw [Below.heap_setCell _ ⟨w.heap.size, 2, none⟩ _ q (by simp; omega), Below.heap_setCell _ ⟨w.heap.size, 1, none⟩ _ q (by simp; omega), Below.heap_setCell _ ⟨w.heap.size, 0, none⟩ _ q (by simp; omega)]))
  have HZ := Lib.hid (show OwnN (w.heap.size + 1) (((w3.setCell ⟨w.heap.size, 0, none⟩ (.string y.d.key)).setCell ⟨w.heap.size, 1, none⟩ (.int .i64 y.d.op)).setCell ⟨w.heap.size, 2, none⟩ (.slice y.A y.d.values.length y.c)) y from HY3.out.carry (fun q hq => by
    have h9 := (World.ownsRow.lt HY3.out.2.2.2 q hq).1
    rw [Below.heap_setCell _ ⟨w.heap.size, 2, none⟩ _ q (by simp; omega), Below.heap_setCell _ ⟨w.heap.size, 1, none⟩ _ q (by simp; omega), Below.heap_setCell _ ⟨w.heap.size, 0, none⟩ _ q (by simp; omega)]))
  have HS := Lib.hid (RowE.sl encL_len (HX.out.less (Nat.le_succ _)) HA.out)
  have BF := Lib.hid (((B3.setCell (p := ⟨w.heap.size, 0, none⟩) (Nat.le_refl _) (.string y.d.key)).setCell (p := ⟨w.heap.size, 1, none⟩) (Nat.le_refl _) (.int .i64 y.d.op)).setCell (p := ⟨w.heap.size, 2, none⟩) (Nat.le_refl _) (.slice y.A y.d.values.length y.c))
  go_wp2_with fail
  exact bodyPost_ret (v := .tuple #[.slice B xs.length b, .agg #[.string y.d.key, .int .i64 y.d.op, .slice y.A y.d.values.length y.c]]) (by simp only [results, Try.results14]; go_simp) rfl ⟨xs, B, b, y, rfl, HS.out, Lib.hid (HZ.out.less (Nat.le_succ _)), hl2, hy4, BF.out⟩
end Go.Proofs.Ytenkdjclecikkaa
