/- Written by wip/tools/pack.py: the texts that FnExactBracedNormal needs, without what it does not need. No conditions. -/
import Derived.Test.YtffelpdefjkeaaaGreatDoorKBrN9
import Derived.Test.YtffelpdefjkeaaaGreatDoorKBrN20
import Derived.Test.YtffelpdefjkeaaaGreatDoorKBrN18
import Derived.Test.YtffelpdefjkeaaaGreatDoorKBrN19
import Derived.Test.YtffelpdefjkeaaaGreatDoorKBrN4
import Derived.Test.YtffelpdefjkeaaaGreatDoorKBrN6
import Derived.Lib.MapLaws
import Derived.Test.YtffelpdefjkeaaaGreatDoorKBrN8
namespace Go.Proofs.YtffelpdefjkeaaaGreatDoor
open Go.RowKit Go.Lib
theorem row_aside {B : Nat} {w w' : World} {L : List SignD} {v : Value} (h : SignsE (B + 1) w L v) (hF : Aside (fun b => b = B) w w') : SignsE B w' L v :=
  (h.less (Nat.le_succ _)).carry (fun q hq => hF.block q (World.ownsRow.lt h q hq).2 (by have := (World.ownsRow.lt h q hq).1; omega))
theorem signsF_long {s : ByteArray} (h : 20000 < s.size) : signsF s = ([], ⟨1, 0, ⟨#[]⟩⟩) := by
  have e : textF s = ⟨1, 0, ⟨#[]⟩⟩ := by unfold textF; rw [if_pos h]
  unfold signsF
  rw [e, if_neg (by decide)]
theorem signsF_bad {s : ByteArray} (h : ¬ 20000 < s.size) (hb : 0 ≤ badAt s 0) : signsF s = ([], ⟨2, badAt s 0, ⟨#[]⟩⟩) := by
  have e : textF s = ⟨2, badAt s 0, ⟨#[]⟩⟩ := by unfold textF; rw [if_neg h, if_pos hb]
  unfold signsF
  rw [e, if_neg (by simp)]
theorem signsF_go {s : ByteArray} (h : ¬ 20000 < s.size) (hb : ¬ 0 ≤ badAt s 0) : signsF s = signsG s 0 [] := by
  have e : textF s = flt0 := by unfold textF; rw [if_neg h, if_neg hb]
  unfold signsF
  rw [e]
  exact if_pos rfl
set_option maxHeartbeats 8000000 in
set_option maxRecDepth 20000 in
theorem c_spec_SignsOf (s : ByteArray) (w : World) (hs : s.size ≤ 1048576) :
    Calls Tryz.prog 30 #[.string s] w fun e w' => ∃ (A : Option Addr) (c : Nat), e = .returned (.tuple #[.slice A (signsF s).1.length c, .agg (fltC (signsF s).2)]) ∧ SignsE w.heap.size w' (signsF s).1 (.slice A (signsF s).1.length c) ∧ Below w.heap.size w w' := by
  obtain ⟨i0, hi, hz0, hz1, hz2⟩ := info_parts (show (Tryz.prog.info? 54).map (fun i => (i.zero, i.size, i.bytes)) = some (some (.agg #[.int .i64 0, .string ⟨#[]⟩, .int .i64 0, .int .i64 0]), 4, 40) from by kernel_rfl)
  by_cases hl : (20000 : Int) < s.size
  · have HF := Lib.hid (show signsF s = ([], ⟨1, 0, ⟨#[]⟩⟩) from signsF_long (by omega))
    go_enter Tryz.func30, Tryz.ntmps30
    go_wp2_with fail
    exact bodyPost_ret (v := .tuple #[.slice (some ⟨w.heap.size + 1, 0, none⟩) 0 0, .agg #[.int .i64 1, .int .i64 0, .string ⟨#[]⟩]]) (by simp only [results, Tryz.results30]; go_simp) rfl ⟨some ⟨w.heap.size + 1, 0, none⟩, 0, by rw [HF.out]; rfl, by rw [HF.out]; exact own_empty (by simp) (by simp), bel⟩
  · have hl2 : s.size ≤ 20000 := by omega
    have hl3 : decide ((20000 : Int) < s.size) = false := decide_eq_false hl
    clear hl
    obtain ⟨y, hy⟩ : ∃ y, y = badAt s 0 := ⟨_, rfl⟩
    have HY := Lib.hid hy
    by_cases y0 : 0 ≤ y
    · have HF := Lib.hid (show signsF s = ([], ⟨2, y, ⟨#[]⟩⟩) by rw [hy]; exact signsF_bad (by omega) (by rw [← hy]; exact y0))
      clear hy
      go_enter Tryz.func30, Tryz.ntmps30
      go_wp2_with fail
      refine (c_l09Runes s _ hs).mono ?_
      rintro e w1 ⟨rfl, hb⟩
      rw [← HY.out]
      have hbox : w1.heap[w.heap.size]? = some (.cells #[.int .i64 0, .int .i64 0, .string ⟨#[]⟩] 29 (0, 0)) := (hb.block w.heap.size (by simp; omega)).trans ((Below.heap_alloc _ _ _ (by simp)).trans (heap_at (by simp)))
      have l1 := row_lt hbox
      have hB1 : Below w.heap.size w w1 := bel
      have HNo := Lib.hid (RowE.below (show SignsE (w.heap.size + 1) ((w.alloc (.cells #[.int .i64 0, .int .i64 0, .string ⟨#[]⟩] 29)).alloc (.cells #[] 54)) [] (.slice (some ⟨w.heap.size + 1, 0, none⟩) 0 0) from own_empty (by simp) (by simp)) hb)
      obtain ⟨a0, a1, a2, af⟩ := row3 hbox
      clear hbox
      go_wp2_with fail
      exact bodyPost_ret (v := .tuple #[.slice (some ⟨w.heap.size + 1, 0, none⟩) 0 0, .agg #[.int .i64 2, .int .i64 y, .string ⟨#[]⟩]]) (by simp only [results, Tryz.results30]; go_simp) rfl ⟨some ⟨w.heap.size + 1, 0, none⟩, 0, by rw [HF.out]; rfl, by rw [HF.out]; exact row_aside HNo.out (by repeat (first | (with_reducible exact Aside.refl _ _) | ((with_reducible refine aside_set ?_ ?_); (focus (simp; done))) | (with_reducible refine aside_alloc ?_))), bel⟩
    · have HF := Lib.hid (show signsF s = signsG s 0 [] from signsF_go (by omega) (by rw [← hy]; exact y0))
      have y1 : decide (0 ≤ y) = false := decide_eq_false y0
      clear hy y0
      go_enter Tryz.func30, Tryz.ntmps30
      go_wp2_with fail
      refine (c_l09Runes s _ hs).mono ?_
      rintro e w1 ⟨rfl, hb⟩
      rw [← HY.out]
      have hbox : w1.heap[w.heap.size]? = some (.cells #[.int .i64 0, .int .i64 0, .string ⟨#[]⟩] 29 (0, 0)) := (hb.block w.heap.size (by simp; omega)).trans ((Below.heap_alloc _ _ _ (by simp)).trans (heap_at (by simp)))
      have l1 := row_lt hbox
      have HBox1 := Lib.hid hbox
      have hB1 : Below w.heap.size w w1 := bel
      have HNo1 := Lib.hid (RowE.below (show SignsE (w.heap.size + 1) ((w.alloc (.cells #[.int .i64 0, .int .i64 0, .string ⟨#[]⟩] 29)).alloc (.cells #[] 54)) [] (.slice (some ⟨w.heap.size + 1, 0, none⟩) 0 0) from own_empty (by simp) (by simp)) hb)
      have lno1 := (World.ownsRow.lt HNo1.out (w.heap.size + 1) rfl).2
      clear hbox
      go_wp2_with fail
      go_loopw [6, 7] (fun s5 s6 wr => ∃ (i n : Nat) (L : List SignD) (A : Option Addr) (c : Nat), i ≤ s.size ∧ s6 = .int .i64 i ∧ n = L.length ∧ s5 = .slice A n c ∧ n ≤ i ∧ signsF s = signsG s i L ∧ SignsE (w.heap.size + 2) wr L (.slice A n c) ∧ SignsE (w.heap.size + 1) wr [] (.slice (some ⟨w.heap.size + 1, 0, none⟩) 0 0) ∧ wr.heap[w.heap.size]? = some (.cells #[.int .i64 0, .int .i64 0, .string ⟨#[]⟩] 29 (0, 0)) ∧ Below w.heap.size w wr) (fun _ s6 _ => s.size - (Lib.intOf s6).toNat)
      case atStart => exact ⟨0, 0, [], _, _, by omega, rfl, rfl, rfl, by omega, HF.out, own_empty (by first | rfl | simp) (by first | omega | (simp; omega)), HNo1.out.below bel, ((bel : Below w1.heap.size w1 _).block w.heap.size l1).trans HBox1.out, bel⟩
      case round =>
        obtain ⟨i, n, L, A, c, hil, rfl, hn, rfl, hni, hq, hR, hNo, hbox, hbr⟩ := hrel
        have HR := Lib.hid hR
        have HG := Lib.hid hq
        have HBox := Lib.hid hbox
        have HBr := Lib.hid hbr
        have HNo := Lib.hid hNo
        have HN := Lib.hid hn
        have lb := row_lt hbox
        clear hR hq hbox hn hNo
        by_cases hlt : (i : Int) < s.size
        · have hii : i < s.size := by omega
          have h1 : decide ((s.size : Int) ≤ i) = false := decide_eq_false (by omega)
          have h2 : decide (s.size ≤ i) = false := decide_eq_false (by omega)
          have h3 : decide ((i : Int) < 0) = false := decide_eq_false (by omega)
          have hzi : (0 : Int) ≤ i := by omega
          obtain ⟨b, hb⟩ : ∃ b : Nat, b = (s.get! i).toNat := ⟨_, rfl⟩
          have hx : (s[i]'hii).toNat = b := by rw [hb]; exact get_byte s i hii
          have hby : byteI s i = b := by unfold byteI; rw [hb]
          have hb2 : b < 256 := by have := (s.get! i).toNat_lt; omega
          have HBy := Lib.hid hby
          clear hb hby
          by_cases hbl : blankI (b : Int) = true
          · have HE := Lib.hid (show signsF s = signsG s (i + 1) L by rw [HG.out, signsG_blank hii (by rw [HBy.out]; exact hbl)])
            have h4 : b = 32 ∨ b = 9 ∨ b = 10 ∨ b = 13 := by unfold blankI at hbl; rw [decide_eq_true_iff] at hbl; omega
            clear hbl HBy
            rcases h4 with rfl | rfl | rfl | rfl
            all_goals
              go_wp2_with fail
              go_roundw
              case rel => exact ⟨i + 1, n, L, A, c, by omega, by go_num, HN.out, rfl, by omega, HE.out, HR.out, HNo.out, HBox.out, HBr.out⟩
              case measure => simp [Lib.intOf]; omega
          · have hnb : ¬ blankI (byteI s i) = true := by rw [HBy.out]; exact hbl
            have h4 : ¬ (b : Int) = 32 ∧ ¬ (b : Int) = 9 ∧ ¬ (b : Int) = 10 ∧ ¬ (b : Int) = 13 := by unfold blankI at hbl; rw [decide_eq_true_iff] at hbl; omega
            obtain ⟨m1, m2, m3, m4⟩ := h4
            have n1 : ((b : Int) == 32) = false := beq_eq_false_iff_ne.2 m1
            have n2 : ((b : Int) == 9) = false := beq_eq_false_iff_ne.2 m2
            have n3 : ((b : Int) == 10) = false := beq_eq_false_iff_ne.2 m3
            have n4 : ((b : Int) == 13) = false := beq_eq_false_iff_ne.2 m4
            clear hbl HBy m1 m2 m3 m4
            obtain ⟨x, hxx⟩ : ∃ x, x = (signB s i).1 := ⟨_, rfl⟩
            obtain ⟨q, hqq⟩ : ∃ q, q = (signB s i).2 := ⟨_, rfl⟩
            have hqn := signB_next s i
            rw [← hqq] at hqn
            obtain ⟨xk, xt, xn, xp⟩ := x
            have HXQ := Lib.hid (And.intro hxx hqq)
            by_cases q0 : q < 0
            · have HE := Lib.hid (show signsF s = ([], ⟨3, i, ⟨#[]⟩⟩) by rw [HG.out, signsG_bad hii hnb (by rw [← hqq]; exact q0)])
              clear hxx hqq hqn hnb
              go_wp2_with fail
              refine (c_spec_SignAt s i _ hs (by omega)).mono ?_
              rintro e w2 ⟨rfl, hb2'⟩
              rw [← HXQ.out.1, ← HXQ.out.2]
              simp only [signC]
              have B2 : Below w.heap.size w w2 := HBr.out.trans (hb2'.mono HBr.out.size)
              have hbox2 := (hb2'.block _ lb).trans HBox.out
              obtain ⟨a0, a1, a2, af⟩ := row3 hbox2
              have l2 := row_lt hbox2
              clear hbox2
              have HNo2 := Lib.hid (HNo.out.below hb2')
              go_wp2_with fail
              exact bodyPost_ret (v := .tuple #[.slice (some ⟨w.heap.size + 1, 0, none⟩) 0 0, .agg #[.int .i64 3, .int .i64 i, .string ⟨#[]⟩]]) (by simp only [results, Tryz.results30]; go_simp) rfl ⟨some ⟨w.heap.size + 1, 0, none⟩, 0, by rw [HE.out]; rfl, by rw [HE.out]; exact row_aside HNo2.out (by repeat (first | (with_reducible exact Aside.refl _ _) | ((with_reducible refine aside_set ?_ ?_); (focus (simp; done))) | (with_reducible refine aside_alloc ?_))), bel⟩
            · have HE := Lib.hid (show signsF s = signsG s q.toNat (L ++ [⟨xk, xt, xn, xp⟩]) by rw [HG.out, signsG_sign hii hnb (by rw [← hqq]; exact q0), hxx, hqq])
              obtain ⟨p, rfl⟩ : ∃ p : Nat, q = p := ⟨q.toNat, by omega⟩
              have d0 : decide ((p : Int) < 0) = false := decide_eq_false q0
              have hip : i < p := by omega
              have hps : p ≤ s.size := by omega
              rw [Int.toNat_natCast] at HE
              clear hxx hqq hqn hnb q0
              go_wp2_with fail
              refine (c_spec_SignAt s i _ hs (by omega)).mono ?_
              rintro e w2 ⟨rfl, hb2'⟩
              rw [← HXQ.out.1, ← HXQ.out.2]
              simp only [signC]
              have B2 : Below w.heap.size w w2 := HBr.out.trans (hb2'.mono HBr.out.size)
              have lno := (World.ownsRow.lt HNo.out (w.heap.size + 1) rfl).2
              have l2 : w.heap.size + 1 < w2.heap.size := Nat.lt_of_lt_of_le lno hb2'.size
              have hR2 := HR.out.below hb2'
              have HR2 := Lib.hid hR2
              clear hR2
              go_wp2_with (at_builtin; go_loud (refine wpList_append_rows (C := C_Sg) rfl (.tmp 59) (.tmp 61) 45 rfl (w.heap.size + 2) 54 i0 (.agg #[.int .i64 0, .string ⟨#[]⟩, .int .i64 0, .int .i64 0]) 4 40 Tryz.underlying45 hi hz0 hz1 hz2 rfl (by decide) encSg_len encSg_one encSg_C _ n L rfl HN.out.symm (HR2.out.below bel) [⟨xk, xt, xn, xp⟩] (some ⟨_, 0, none⟩) 1 1 _ _ rfl rfl (sl_oneG encSg_len _ _ rfl 54 _ rfl (by simp)) (by unfold maxLen; omega) (by omega) (by simp; omega) ?_))
              intro v' w3 hR3 hg3 ha3
              obtain ⟨A3, c3, rfl⟩ := hR3.form
              have hb3 : Below (w.heap.size + 2) w2 w3 := Below.grown ((bel : Below w2.heap.size w2 _).mono l2) hg3 (by simp; omega) (fun q hq => (World.ownsRow.lt HR2.out q hq).1)
              have Hb3 := Lib.hid hb3
              have HR3 := Lib.hid hR3
              have hln : (L ++ [(⟨xk, xt, xn, xp⟩ : SignD)]).length = n + 1 := by rw [List.length_append, ← HN.out]; rfl
              have HL := Lib.hid hln
              clear hR3 hg3 ha3 hb3 hln
              go_wp2_with fail
              go_roundw
              case rel => exact ⟨p, n + 1, L ++ [⟨xk, xt, xn, xp⟩], A3, c3, hps, rfl, HL.out.symm, by rw [HL.out], by omega, HE.out, by rw [← HL.out]; exact HR3.out, (HNo.out.below hb2').carry (fun q hq => Hb3.out.block q (by simp [Value.ownBlock] at hq; omega)), ((Hb3.out.block w.heap.size (by omega)).trans (hb2'.block _ lb)).trans HBox.out, B2.trans (Hb3.out.mono (by omega))⟩
              case measure => simp [Lib.intOf]; omega
        · have HE := Lib.hid (show signsF s = (L, flt0) by rw [HG.out, signsG_end (by omega)])
          obtain ⟨a0, a1, a2, af⟩ := row3 HBox.out
          go_wp2_with fail
          exact bodyPost_ret (v := .tuple #[.slice A n c, .agg #[.int .i64 0, .int .i64 0, .string ⟨#[]⟩]]) (by simp only [results, Tryz.results30]; go_simp) rfl ⟨A, c, by rw [HE.out, HN.out]; rfl, by
            rw [HE.out]
            show SignsE _ _ L (.slice A L.length c)
            rw [← HN.out]
            exact row_aside (HR.out.less (Nat.le_succ _)) (by repeat (first | (with_reducible exact Aside.refl _ _) | ((with_reducible refine aside_set ?_ ?_); (focus (simp; done))) | (with_reducible refine aside_alloc ?_))), bel⟩
end Go.Proofs.YtffelpdefjkeaaaGreatDoor
namespace Go.Proofs.YtffelpdefjkeaaaGreatDoor
open Go.RowKit Go.Lib
theorem all_rdS (L : List SignD) (E : Int) (b : Nat) (hL : SgOk L) : ∀ n, T_valS L E b n := by
  intro n
  induction n using Nat.strongRecOn with
  | ind n ih =>
    cases n with
    | zero =>
      intro d p m w _ _ _ _ hn _
      simp [needJ] at hn
    | succ n => exact of_valS L E b n hL (of_listS L E b n hL (fun k hk => ih k (by omega))) (of_pairsS L E b n hL (fun k hk => ih k (by omega)))
set_option maxHeartbeats 8000000 in
set_option maxRecDepth 20000 in
theorem c_rdbs_sign (s : ByteArray) (w : World) (hs : s.size ≤ 1048576) (hf : (signsF s).2.code ≠ 0) :
    Calls Tryz.prog 14 #[.string s] w (ReadE (readB s) w) := by
  obtain ⟨r, hr⟩ : ∃ r, r = readB s := ⟨_, rfl⟩
  rw [← hr]
  have HSg := Lib.hid (signsF_ok s)
  have HSg2 := Lib.hid (c_spec_SignsOf s)
  rw [readB_sign hf] at hr
  obtain ⟨L, hL⟩ : ∃ L, L = (signsF s).1 := ⟨_, rfl⟩
  obtain ⟨F, hF⟩ : ∃ F, F = (signsF s).2 := ⟨_, rfl⟩
  rw [← hL] at HSg HSg2
  rw [← hF] at HSg2
  have HR := Lib.hid (show r = (F, treeZ) by rw [hr, hF])
  have hfc : F.code ≠ 0 := by rw [hF]; exact hf
  clear hf
  clear hr hL hF
  obtain ⟨fc, fa, fp⟩ := F
  go_enter Tryz.func14, Tryz.ntmps14
  go_wp2_with fail
  refine (HSg2.out _ hs).mono ?_
  rintro e w1 ⟨A, c, rfl, hrow, hb1⟩
  have hrf : fltC ⟨fc, fa, fp⟩ = #[.int .i64 fc, .int .i64 fa, .string fp] := rfl
  rw [hrf]
  have HRow := Lib.hid hrow
  have HB1 := Lib.hid (bel : Below w.heap.size w w1)
  have HT2 := Lib.hid ((hb1.block w.heap.size (by simp; omega)).trans ((Below.heap_alloc _ _ _ (by simp)).trans (heap_at (w := w) (o := .cells #[.int .i64 0, .bool false, .int .i64 0, .string ⟨#[]⟩, .slice none 0 0, .slice none 0 0] 27) rfl)))
  have HT3 := Lib.hid ((hb1.block (w.heap.size + 1) (by simp)).trans (heap_at (w := w.alloc (.cells #[.int .i64 0, .bool false, .int .i64 0, .string ⟨#[]⟩, .slice none 0 0, .slice none 0 0] 27)) (o := .cells #[.int .i64 0, .int .i64 0, .string ⟨#[]⟩] 29) (by simp)))
  have l2 := row_lt HT2.out
  have l3 := row_lt HT3.out
  clear hrow hb1 hrf
  have dz : (fc != 0) = true := bne_iff_ne.2 hfc
  clear hfc
  go_wp2_with fail
  obtain ⟨w2, hw2⟩ : ∃ W, W = w1.alloc (.cells #[.int .i64 fc, .int .i64 fa, .string fp] 29) := ⟨_, rfl⟩
  rw [← hw2]
  have hb2 : Below w1.heap.size w1 w2 := by rw [hw2]; exact bel
  have X2 : w2.heap[w1.heap.size]? = some (.cells #[.int .i64 fc, .int .i64 fa, .string fp] 29 (0, 0)) := by rw [hw2]; exact heap_at rfl
  have hB2 := HB1.out.trans (hb2.mono HB1.out.size)
  obtain ⟨v0, v1, v2, vf⟩ := row3 X2
  obtain ⟨x0, x1, x2, x3, x4, x5, xf⟩ := row6 ((hb2.block _ l2).trans HT2.out)
  obtain ⟨y0, y1, y2, yf⟩ := row3 ((hb2.block _ l3).trans HT3.out)
  have m0 := row_lt X2
  have m2 := Nat.lt_of_lt_of_le l2 hb2.size
  have m3 := Nat.lt_of_lt_of_le l3 hb2.size
  clear hw2 hb2 X2
  go_region_law (fail)
  all_goals
    (try go_wp2_with fail)
    exact bodyPost_ret (v := .tuple #[.agg #[.int .i64 0, .bool false, .int .i64 0, .string ⟨#[]⟩, .slice none 0 0, .slice none 0 0], .agg #[.int .i64 fc, .int .i64 fa, .string fp]]) (by simp only [results, Tryz.results14]; go_simp) rfl (ReadE.bad HR.out bel)
set_option maxHeartbeats 8000000 in
set_option maxRecDepth 20000 in
theorem c_rdbs_bad (s : ByteArray) (w : World) (hs : s.size ≤ 1048576) (f : Flt) (hf : (signsF s).2.code = 0) (hq : readJ (signsF s).1 s.size (2 * (signsF s).1.length + 4) (.value 1) 0 0 = .bad f) :
    Calls Tryz.prog 14 #[.string s] w (ReadE (readB s) w) := by
  obtain ⟨r, hr⟩ : ∃ r, r = readB s := ⟨_, rfl⟩
  rw [← hr]
  have HSg := Lib.hid (signsF_ok s)
  have HSg2 := Lib.hid (c_spec_SignsOf s)
  rw [readB_bad hf hq] at hr
  obtain ⟨L, hL⟩ : ∃ L, L = (signsF s).1 := ⟨_, rfl⟩
  obtain ⟨F, hF⟩ : ∃ F, F = (signsF s).2 := ⟨_, rfl⟩
  rw [← hL] at HSg HSg2
  rw [← hF] at HSg2
  have HR := Lib.hid hr
  rw [← hL] at hq
  have HQ := Lib.hid hq
  have hgd := readJ_good L s.size (2 * L.length + 4) (.value 1) 0 0 (Nat.zero_le _) (Nat.zero_le _) (by unfold needJ; simp only; omega)
  rw [hq] at hgd
  have hlen := HSg.out.len
  have hfc : F.code = 0 := by rw [hF]; exact hf
  have HAll := Lib.hid (fun b => all_rdS L s.size b HSg.out (2 * L.length + 4))
  clear hq hf
  clear hr hL hF
  obtain ⟨fc, fa, fp⟩ := F
  go_enter Tryz.func14, Tryz.ntmps14
  go_wp2_with fail
  refine (HSg2.out _ hs).mono ?_
  rintro e w1 ⟨A, c, rfl, hrow, hb1⟩
  have hrf : fltC ⟨fc, fa, fp⟩ = #[.int .i64 fc, .int .i64 fa, .string fp] := rfl
  rw [hrf]
  have HRow := Lib.hid hrow
  have HB1 := Lib.hid (bel : Below w.heap.size w w1)
  have HT2 := Lib.hid ((hb1.block w.heap.size (by simp; omega)).trans ((Below.heap_alloc _ _ _ (by simp)).trans (heap_at (w := w) (o := .cells #[.int .i64 0, .bool false, .int .i64 0, .string ⟨#[]⟩, .slice none 0 0, .slice none 0 0] 27) rfl)))
  have HT3 := Lib.hid ((hb1.block (w.heap.size + 1) (by simp)).trans (heap_at (w := w.alloc (.cells #[.int .i64 0, .bool false, .int .i64 0, .string ⟨#[]⟩, .slice none 0 0, .slice none 0 0] 27)) (o := .cells #[.int .i64 0, .int .i64 0, .string ⟨#[]⟩] 29) (by simp)))
  have l2 := row_lt HT2.out
  have l3 := row_lt HT3.out
  clear hrow hb1 hrf
  change fc = 0 at hfc
  subst hfc
  go_upto_region 5 with fail
  obtain ⟨w2, hw2⟩ : ∃ W, W = w1.alloc (.cells #[.int .i64 0, .int .i64 fa, .string fp] 29) := ⟨_, rfl⟩
  rw [← hw2]
  have hb2 : Below w1.heap.size w1 w2 := by rw [hw2]; exact bel
  have HZ2 := Lib.hid (show w1.heap.size + 1 = w2.heap.size by rw [hw2]; simp)
  have hz2 : w1.heap.size < w2.heap.size := by rw [hw2]; simp
  have hz2a : w1.heap.size + 1 ≤ w2.heap.size := by rw [hw2]; simp
  have hz2b : w2.heap.size ≤ w1.heap.size + 1 := by rw [hw2]; simp
  obtain ⟨w3, hw3⟩ : ∃ W, W = w2.alloc (.cells #[.slice A L.length c, .int .i64 0, .int .i64 s.size, .int .i64 0, .int .i64 0, .int .i64 0, .string ⟨#[]⟩] 50) := ⟨_, rfl⟩
  have HW3 := Lib.hid hw3
  have hb3 : Below w2.heap.size w2 w3 := by rw [hw3]; exact bel
  have hz3 : w2.heap.size < w3.heap.size := by rw [hw3]; simp
  have hR3 : RdAtS L s.size (w1.heap.size + 1) 0 0 flt0 w3 := ⟨A, c, by rw [hw3]; exact heap_at HZ2.out, (RowE.less (HRow.out.below hb2) (Nat.zero_le _)).below hb3, fun g hg => by have := (World.ownsRow.lt HRow.out g hg).2; omega⟩
  have HR3 := Lib.hid hR3
  have HB3 := Lib.hid ((HB1.out.trans (hb2.mono HB1.out.size)).trans (hb3.mono (by have := HB1.out.size; omega)))
  have HT2b := Lib.hid ((hb3.block _ (by omega)).trans ((hb2.block _ l2).trans HT2.out))
  have HT3b := Lib.hid ((hb3.block _ (by omega)).trans ((hb2.block _ l3).trans HT3.out))
  have HK13 := Lib.hid (fun (q : Nat) (hq : q < w1.heap.size) => (hb3.block q (by omega)).trans (hb2.block q hq))
  clear hw2 hb2 hw3 hb3 hR3
  go_wp2_with fail
  rw [← HW3.out]
  refine (HAll.out (w1.heap.size + 1) 1 0 0 w3 (by omega) (by omega) (Nat.zero_le _) (Nat.zero_le _) (by unfold needJ; simp only; omega) HR3.out).mono ?_
  intro e w4 hv4
  have hsw : w.heap.size + 1 < w2.heap.size := by have := HB1.out.size; omega
  obtain ⟨u0, u1, u2, u3, U4, u4, u44, U5, u5, u55, p4, m4, rfl, hR4, hp4, hA4⟩ := ValE.isBad HQ.out hv4
  have hs4 := hA4.size
  have hB4 : Below w.heap.size w w4 := HB3.out.trans (hA4.below HB3.out.size (fun i hi => by have := HB1.out.size; omega))
  have HT2c := (hA4.block _ (by omega) (by omega)).trans HT2b.out
  have HT3c := (hA4.block _ (by omega) (by omega)).trans HT3b.out
  obtain ⟨gc, ga, gp⟩ := f
  have dz : (gc != 0) = true := bne_iff_ne.2 hgd
  have dz2 : (gc == 0) = false := beq_eq_false_iff_ne.2 hgd
  have HR4 := Lib.hid hR4
  obtain ⟨A5, c5, hbx, -, -⟩ := hR4
  unfold rdC at hbx
  obtain ⟨a0, a1, a2, a3, a4, a5, a6, af⟩ := row7r hbx
  have lb := row_lt hbx
  clear hbx
  obtain ⟨x0, x1, x2, x3, x4, x5, xf⟩ := row6 HT2c
  obtain ⟨y0, y1, y2, yf⟩ := row3 HT3c
  have m2 := row_lt HT2c
  have m3 := row_lt HT3c
  clear hgd hv4 HT2c HT3c hA4
  go_upto_region 9 with fail
  go_region_law (fail)
  all_goals
    (try go_wp2_with fail)
    exact bodyPost_ret (v := .tuple #[.agg #[.int .i64 0, .bool false, .int .i64 0, .string ⟨#[]⟩, .slice none 0 0, .slice none 0 0], .agg #[.int .i64 gc, .int .i64 ga, .string gp]]) (by simp only [results, Tryz.results14]; go_simp) rfl (ReadE.bad HR.out bel)
set_option maxHeartbeats 8000000 in
set_option maxRecDepth 20000 in
theorem c_rdbs_more (s : ByteArray) (w : World) (hs : s.size ≤ 1048576) (t : TreeD) (p m : Nat) (hf : (signsF s).2.code = 0) (hq : readJ (signsF s).1 s.size (2 * (signsF s).1.length + 4) (.value 1) 0 0 = .good t p m) (hp : p < (signsF s).1.length) :
    Calls Tryz.prog 14 #[.string s] w (ReadE (readB s) w) := by
  obtain ⟨r, hr⟩ : ∃ r, r = readB s := ⟨_, rfl⟩
  rw [← hr]
  have HSg := Lib.hid (signsF_ok s)
  have HSg2 := Lib.hid (c_spec_SignsOf s)
  rw [readB_more hf hq hp] at hr
  obtain ⟨L, hL⟩ : ∃ L, L = (signsF s).1 := ⟨_, rfl⟩
  obtain ⟨F, hF⟩ : ∃ F, F = (signsF s).2 := ⟨_, rfl⟩
  rw [← hL] at HSg HSg2
  rw [← hF] at HSg2
  rw [← hL] at hp hr
  have HR := Lib.hid hr
  rw [← hL] at hq
  have HQ := Lib.hid hq
  have hgd := readJ_good L s.size (2 * L.length + 4) (.value 1) 0 0 (Nat.zero_le _) (Nat.zero_le _) (by unfold needJ; simp only; omega)
  rw [hq] at hgd
  have hlen := HSg.out.len
  have hfc : F.code = 0 := by rw [hF]; exact hf
  have HAll := Lib.hid (fun b => all_rdS L s.size b HSg.out (2 * L.length + 4))
  clear hq hf
  clear hr hL hF
  obtain ⟨fc, fa, fp⟩ := F
  go_enter Tryz.func14, Tryz.ntmps14
  go_wp2_with fail
  refine (HSg2.out _ hs).mono ?_
  rintro e w1 ⟨A, c, rfl, hrow, hb1⟩
  have hrf : fltC ⟨fc, fa, fp⟩ = #[.int .i64 fc, .int .i64 fa, .string fp] := rfl
  rw [hrf]
  have HRow := Lib.hid hrow
  have HB1 := Lib.hid (bel : Below w.heap.size w w1)
  have HT2 := Lib.hid ((hb1.block w.heap.size (by simp; omega)).trans ((Below.heap_alloc _ _ _ (by simp)).trans (heap_at (w := w) (o := .cells #[.int .i64 0, .bool false, .int .i64 0, .string ⟨#[]⟩, .slice none 0 0, .slice none 0 0] 27) rfl)))
  have HT3 := Lib.hid ((hb1.block (w.heap.size + 1) (by simp)).trans (heap_at (w := w.alloc (.cells #[.int .i64 0, .bool false, .int .i64 0, .string ⟨#[]⟩, .slice none 0 0, .slice none 0 0] 27)) (o := .cells #[.int .i64 0, .int .i64 0, .string ⟨#[]⟩] 29) (by simp)))
  have l2 := row_lt HT2.out
  have l3 := row_lt HT3.out
  clear hrow hb1 hrf
  change fc = 0 at hfc
  subst hfc
  go_upto_region 5 with fail
  obtain ⟨w2, hw2⟩ : ∃ W, W = w1.alloc (.cells #[.int .i64 0, .int .i64 fa, .string fp] 29) := ⟨_, rfl⟩
  rw [← hw2]
  have hb2 : Below w1.heap.size w1 w2 := by rw [hw2]; exact bel
  have HZ2 := Lib.hid (show w1.heap.size + 1 = w2.heap.size by rw [hw2]; simp)
  have hz2 : w1.heap.size < w2.heap.size := by rw [hw2]; simp
  have hz2a : w1.heap.size + 1 ≤ w2.heap.size := by rw [hw2]; simp
  have hz2b : w2.heap.size ≤ w1.heap.size + 1 := by rw [hw2]; simp
  obtain ⟨w3, hw3⟩ : ∃ W, W = w2.alloc (.cells #[.slice A L.length c, .int .i64 0, .int .i64 s.size, .int .i64 0, .int .i64 0, .int .i64 0, .string ⟨#[]⟩] 50) := ⟨_, rfl⟩
  have HW3 := Lib.hid hw3
  have hb3 : Below w2.heap.size w2 w3 := by rw [hw3]; exact bel
  have hz3 : w2.heap.size < w3.heap.size := by rw [hw3]; simp
  have hR3 : RdAtS L s.size (w1.heap.size + 1) 0 0 flt0 w3 := ⟨A, c, by rw [hw3]; exact heap_at HZ2.out, (RowE.less (HRow.out.below hb2) (Nat.zero_le _)).below hb3, fun g hg => by have := (World.ownsRow.lt HRow.out g hg).2; omega⟩
  have HR3 := Lib.hid hR3
  have HB3 := Lib.hid ((HB1.out.trans (hb2.mono HB1.out.size)).trans (hb3.mono (by have := HB1.out.size; omega)))
  have HT2b := Lib.hid ((hb3.block _ (by omega)).trans ((hb2.block _ l2).trans HT2.out))
  have HT3b := Lib.hid ((hb3.block _ (by omega)).trans ((hb2.block _ l3).trans HT3.out))
  have HK13 := Lib.hid (fun (q : Nat) (hq : q < w1.heap.size) => (hb3.block q (by omega)).trans (hb2.block q hq))
  clear hw2 hb2 hw3 hb3 hR3
  go_wp2_with fail
  rw [← HW3.out]
  refine (HAll.out (w1.heap.size + 1) 1 0 0 w3 (by omega) (by omega) (Nat.zero_le _) (Nat.zero_le _) (by unfold needJ; simp only; omega) HR3.out).mono ?_
  intro e w4 hv4
  have hsw : w.heap.size + 1 < w2.heap.size := by have := HB1.out.size; omega
  obtain ⟨cs4, rfl, hO4, hR4, hA4⟩ := ValE.isGood HQ.out hv4
  obtain ⟨U4, u44, U5, u55, rfl, -⟩ := hO4.flat
  have hs4 := hA4.size
  have hB4 : Below w.heap.size w w4 := HB3.out.trans (hA4.below HB3.out.size (fun i hi => by have := HB1.out.size; omega))
  have HT2c := Lib.hid ((hA4.block _ (by omega) (by omega)).trans HT2b.out)
  have HT3c := Lib.hid ((hA4.block _ (by omega) (by omega)).trans HT3b.out)
  have dp : (p : Int) < L.length := by omega
  have hp0 : (0 : Int) ≤ p := by omega
  have HR4 := Lib.hid hR4
  obtain ⟨A5, c5, hbx, -, -⟩ := hR4
  unfold rdC at hbx
  obtain ⟨a0, a1, a2, a3, a4, a5, a6, af⟩ := row7r hbx
  have lb := row_lt hbx
  have hrow4 : SignsE 0 w4 L (.slice A L.length c) := RowE.less (HRow.out.carry (fun q hq => (hA4.block q (by have := (World.ownsRow.lt HRow.out q hq).2; omega) (by have := (World.ownsRow.lt HRow.out q hq).2; omega)).trans (HK13.out q (World.ownsRow.lt HRow.out q hq).2))) (Nat.zero_le _)
  obtain ⟨g, x, rfl, hx, hlc, lg, d0, d1, d2, d3⟩ := sign_row (p := p) hrow4 hp
  have HX := Lib.hid hx
  clear hbx hrow4 hx d0 d1 d2
  have a4' : w4.cell? ⟨w1.heap.size + 1, 4, none⟩ = some (.int .i64 0) := a4
  clear hgd hv4 hA4 a4 hO4
  go_wp2_with fail
  refine (c_rs_bad_new L s.size 4 x.at' (w1.heap.size + 1) p m flt0 _ (HR4.out.below bel) rfl).mono ?_
  rintro e w6 ⟨rfl, hR6, hA6⟩
  replace hR6 : RdAtS L s.size (w1.heap.size + 1) p m (badF L s.size 4 p) w6 := by
    have hpe : placeAt L s.size p = x.at' := by unfold placeAt; rw [HX.out]
    unfold badF
    rw [hpe]
    exact hR6
  have hs6 := hA6.size
  simp at hs6
  have hB6 : Below w.heap.size w w6 := Below.trans (b := w4.alloc (.cells #[.int .i64 t.kind, .bool t.flag, .int .i64 t.num, .string t.text, .slice U4 t.keys.length u44, .slice U5 t.kids.length u55] 27)) bel (hA6.below (by simp; have := hB4.size; omega) (fun i hi => by have := HB1.out.size; omega))
  have HT2d := (hA6.block _ (by simp; omega) (by omega)).trans ((Below.heap_alloc _ _ _ (by omega)).trans HT2c.out)
  have HT3d := (hA6.block _ (by simp; omega) (by omega)).trans ((Below.heap_alloc _ _ _ (by omega)).trans HT3c.out)
  clear a0 a1 a2 a3 a4' a5 a6 af
  obtain ⟨f, hfe⟩ : ∃ f, f = badF L s.size 4 p := ⟨_, rfl⟩
  rw [← hfe] at hR6
  have HR2 := Lib.hid (show r = (f, treeZ) by rw [hfe]; exact HR.out)
  have hgc : f.code = 4 := by rw [hfe]; rfl
  clear hfe HR
  have HR := HR2
  obtain ⟨gc, ga, gp⟩ := f
  change gc = 4 at hgc
  subst hgc
  obtain ⟨A5, c5, hbx, -, -⟩ := hR6
  unfold rdC at hbx
  obtain ⟨a0, a1, a2, a3, a4, a5, a6, af⟩ := row7r hbx
  have lb := row_lt hbx
  clear hbx
  obtain ⟨x0, x1, x2, x3, x4, x5, xf⟩ := row6 HT2d
  obtain ⟨y0, y1, y2, yf⟩ := row3 HT3d
  have m2 := row_lt HT2d
  have m3 := row_lt HT3d
  clear HT2d HT3d hA6
  go_upto_region 9 with fail
  go_region_law (fail)
  all_goals
    (try go_wp2_with fail)
    exact bodyPost_ret (v := .tuple #[.agg #[.int .i64 0, .bool false, .int .i64 0, .string ⟨#[]⟩, .slice none 0 0, .slice none 0 0], .agg #[.int .i64 4, .int .i64 ga, .string gp]]) (by simp only [results, Tryz.results14]; go_simp) rfl (ReadE.bad HR.out bel)
set_option maxHeartbeats 8000000 in
set_option maxRecDepth 20000 in
theorem c_rdbs_good (s : ByteArray) (w : World) (hs : s.size ≤ 1048576) (t : TreeD) (p m : Nat) (hf : (signsF s).2.code = 0) (hq : readJ (signsF s).1 s.size (2 * (signsF s).1.length + 4) (.value 1) 0 0 = .good t p m) (hp : ¬ p < (signsF s).1.length) :
    Calls Tryz.prog 14 #[.string s] w (ReadE (readB s) w) := by
  obtain ⟨r, hr⟩ : ∃ r, r = readB s := ⟨_, rfl⟩
  rw [← hr]
  have HSg := Lib.hid (signsF_ok s)
  have HSg2 := Lib.hid (c_spec_SignsOf s)
  rw [readB_good hf hq hp] at hr
  obtain ⟨L, hL⟩ : ∃ L, L = (signsF s).1 := ⟨_, rfl⟩
  obtain ⟨F, hF⟩ : ∃ F, F = (signsF s).2 := ⟨_, rfl⟩
  rw [← hL] at HSg HSg2
  rw [← hF] at HSg2
  rw [← hL] at hp
  have HR := Lib.hid hr
  rw [← hL] at hq
  have HQ := Lib.hid hq
  have hgd := readJ_good L s.size (2 * L.length + 4) (.value 1) 0 0 (Nat.zero_le _) (Nat.zero_le _) (by unfold needJ; simp only; omega)
  rw [hq] at hgd
  have hlen := HSg.out.len
  have hfc : F.code = 0 := by rw [hF]; exact hf
  have HAll := Lib.hid (fun b => all_rdS L s.size b HSg.out (2 * L.length + 4))
  clear hq hf
  clear hr hL hF
  obtain ⟨fc, fa, fp⟩ := F
  go_enter Tryz.func14, Tryz.ntmps14
  go_wp2_with fail
  refine (HSg2.out _ hs).mono ?_
  rintro e w1 ⟨A, c, rfl, hrow, hb1⟩
  have hrf : fltC ⟨fc, fa, fp⟩ = #[.int .i64 fc, .int .i64 fa, .string fp] := rfl
  rw [hrf]
  have HRow := Lib.hid hrow
  have HB1 := Lib.hid (bel : Below w.heap.size w w1)
  have HT2 := Lib.hid ((hb1.block w.heap.size (by simp; omega)).trans ((Below.heap_alloc _ _ _ (by simp)).trans (heap_at (w := w) (o := .cells #[.int .i64 0, .bool false, .int .i64 0, .string ⟨#[]⟩, .slice none 0 0, .slice none 0 0] 27) rfl)))
  have HT3 := Lib.hid ((hb1.block (w.heap.size + 1) (by simp)).trans (heap_at (w := w.alloc (.cells #[.int .i64 0, .bool false, .int .i64 0, .string ⟨#[]⟩, .slice none 0 0, .slice none 0 0] 27)) (o := .cells #[.int .i64 0, .int .i64 0, .string ⟨#[]⟩] 29) (by simp)))
  have l2 := row_lt HT2.out
  have l3 := row_lt HT3.out
  clear hrow hb1 hrf
  change fc = 0 at hfc
  subst hfc
  go_upto_region 5 with fail
  obtain ⟨w2, hw2⟩ : ∃ W, W = w1.alloc (.cells #[.int .i64 0, .int .i64 fa, .string fp] 29) := ⟨_, rfl⟩
  rw [← hw2]
  have hb2 : Below w1.heap.size w1 w2 := by rw [hw2]; exact bel
  have HZ2 := Lib.hid (show w1.heap.size + 1 = w2.heap.size by rw [hw2]; simp)
  have hz2 : w1.heap.size < w2.heap.size := by rw [hw2]; simp
  have hz2a : w1.heap.size + 1 ≤ w2.heap.size := by rw [hw2]; simp
  have hz2b : w2.heap.size ≤ w1.heap.size + 1 := by rw [hw2]; simp
  obtain ⟨w3, hw3⟩ : ∃ W, W = w2.alloc (.cells #[.slice A L.length c, .int .i64 0, .int .i64 s.size, .int .i64 0, .int .i64 0, .int .i64 0, .string ⟨#[]⟩] 50) := ⟨_, rfl⟩
  have HW3 := Lib.hid hw3
  have hb3 : Below w2.heap.size w2 w3 := by rw [hw3]; exact bel
  have hz3 : w2.heap.size < w3.heap.size := by rw [hw3]; simp
  have hR3 : RdAtS L s.size (w1.heap.size + 1) 0 0 flt0 w3 := ⟨A, c, by rw [hw3]; exact heap_at HZ2.out, (RowE.less (HRow.out.below hb2) (Nat.zero_le _)).below hb3, fun g hg => by have := (World.ownsRow.lt HRow.out g hg).2; omega⟩
  have HR3 := Lib.hid hR3
  have HB3 := Lib.hid ((HB1.out.trans (hb2.mono HB1.out.size)).trans (hb3.mono (by have := HB1.out.size; omega)))
  have HT2b := Lib.hid ((hb3.block _ (by omega)).trans ((hb2.block _ l2).trans HT2.out))
  have HT3b := Lib.hid ((hb3.block _ (by omega)).trans ((hb2.block _ l3).trans HT3.out))
  have HK13 := Lib.hid (fun (q : Nat) (hq : q < w1.heap.size) => (hb3.block q (by omega)).trans (hb2.block q hq))
  clear hw2 hb2 hw3 hb3 hR3
  go_wp2_with fail
  rw [← HW3.out]
  refine (HAll.out (w1.heap.size + 1) 1 0 0 w3 (by omega) (by omega) (Nat.zero_le _) (Nat.zero_le _) (by unfold needJ; simp only; omega) HR3.out).mono ?_
  intro e w4 hv4
  have hsw : w.heap.size + 1 < w2.heap.size := by have := HB1.out.size; omega
  obtain ⟨cs4, rfl, hO4, hR4, hA4⟩ := ValE.isGood HQ.out hv4
  have HO4 := Lib.hid hO4
  obtain ⟨U4, u44, U5, u55, rfl, -⟩ := hO4.flat
  have hs4 := hA4.size
  have hB4 : Below w.heap.size w w4 := HB3.out.trans (hA4.below HB3.out.size (fun i hi => by have := HB1.out.size; omega))
  have HT2c := (hA4.block _ (by omega) (by omega)).trans HT2b.out
  have HT3c := (hA4.block _ (by omega) (by omega)).trans HT3b.out
  have dp : decide ((p : Int) < L.length) = false := decide_eq_false (by omega)
  have dp2 : decide (p < L.length) = false := decide_eq_false hp
  obtain ⟨A5, c5, hbx, -, -⟩ := hR4
  unfold rdC at hbx
  obtain ⟨a0, a1, a2, a3, a4, a5, a6, af⟩ := row7r hbx
  have lb := row_lt hbx
  clear hbx
  have a4' : w4.cell? ⟨w1.heap.size + 1, 4, none⟩ = some (.int .i64 0) := a4
  obtain ⟨x0, x1, x2, x3, x4, x5, xf⟩ := row6 HT2c
  obtain ⟨y0, y1, y2, yf⟩ := row3 HT3c
  have m2 := row_lt HT2c
  have m3 := row_lt HT3c
  have HS4 := Lib.hid (show w.heap.size + 1 < w3.heap.size by omega)
  clear hgd hv4 hA4 a4 hO4 HT2c HT3c hp
  go_wp2_with fail
  refine bodyPost_ret (v := .tuple #[.agg #[.int .i64 t.kind, .bool t.flag, .int .i64 t.num, .string t.text, .slice U4 t.keys.length u44, .slice U5 t.kids.length u55], .agg #[.int .i64 0, .int .i64 0, .string ⟨#[]⟩]]) (by simp only [results, Tryz.results14]; go_simp) rfl ?_
  rw [HR.out]
  refine ⟨[.int .i64 t.kind, .bool t.flag, .int .i64 t.num, .string t.text, .slice U4 t.keys.length u44, .slice U5 t.kids.length u55], rfl, (HO4.out.up (by omega)).carry (fun x hx => Aside.block (S := fun q => q = w.heap.size ∨ q = w.heap.size + 1) (w := w4) (by repeat (first | (with_reducible exact Aside.refl _ _) | ((with_reducible refine aside_set ?_ ?_); (focus (simp; done))) | (with_reducible refine aside_alloc ?_))) x hx.2 (by have := HS4.out; have := hx.1; omega)) (fun x hx => ⟨by have := HS4.out; have := hx.1; omega, Nat.lt_of_lt_of_le hx.2 (Aside.size (S := fun q => q = w.heap.size ∨ q = w.heap.size + 1) (w := w4) (by repeat (first | (with_reducible exact Aside.refl _ _) | ((with_reducible refine aside_set ?_ ?_); (focus (simp; done))) | (with_reducible refine aside_alloc ?_))))⟩), bel⟩
theorem c_spec_ReadBraced (s : ByteArray) (w : World) (hs : s.size ≤ 1048576) :
    Calls Tryz.prog 14 #[.string s] w (ReadE (readB s) w) := by
  by_cases hf : (signsF s).2.code = 0
  · rcases hq : readJ (signsF s).1 s.size (2 * (signsF s).1.length + 4) (.value 1) 0 0 with f | ⟨t, p, m⟩
    · exact c_rdbs_bad s w hs f hf hq
    · by_cases hp : p < (signsF s).1.length
      · exact c_rdbs_more s w hs t p m hf hq hp
      · exact c_rdbs_good s w hs t p m hf hq hp
  · exact c_rdbs_sign s w hs hf
end Go.Proofs.YtffelpdefjkeaaaGreatDoor
namespace Go.Proofs.YtffelpdefjkeaaaGreatDoor
open Go.RowKit Go.Lib
theorem szL_app {D : Type} (f : D → Nat) : ∀ a b : List D, szL f (a ++ b) = szL f a + szL f b
  | [], b => by simp [szL]
  | x :: a, b => by
    simp only [List.cons_append, szL]
    rw [szL_app f a b]
    omega
theorem szL_ins {D : Type} (f : D → Nat) (l : List D) (i : Nat) (x : D) : szL f (insL l i x) = f x + szL f l := by
  have h := szL_app f (l.take i) (l.drop i)
  rw [List.take_append_drop] at h
  unfold insL
  rw [szL_app, h]
  simp only [szL]
  omega
def bndJ (N : Nat) : Job → Nat
  | .value _ => 0
  | .list _ acc => cntL N acc
  | .pairs _ ks acc => ks.length + cntL N acc
theorem cnt_leaf (N : Nat) {t : TreeD} (h1 : t.keys = []) (h2 : t.kids = []) : cntT N t = 0 := by
  cases N with
  | zero => rfl
  | succ N => rw [cntT_succ, h1, h2]; rfl
theorem readJ_cnt (L : List SignD) (E : Int) : ∀ (n : Nat) (j : Job) (p m : Nat) (t : TreeD) (q m' : Nat), readJ L E n j p m = .good t q m' → p ≤ q ∧ ∀ N, cntT (N + 1) t ≤ bndJ N j + 5 * (q - p)
  | 0, j, p, m, t, q, m', h => by rw [readJ.eq_def] at h; cases j <;> cases h
  | n + 1, .value d, p, m, t, q, m', h => by
    rw [readJ_value] at h
    by_cases c1 : ¬ (kindAt L p = 1 ∨ kindAt L p = 3 ∨ 7 ≤ kindAt L p)
    · rw [if_pos c1] at h; cases h
    · rw [if_neg c1] at h
      by_cases c2 : 8 < d
      · rw [if_pos c2] at h; cases h
      · rw [if_neg c2] at h
        by_cases c3 : 300 ≤ m
        · rw [if_pos c3] at h; cases h
        · rw [if_neg c3] at h
          rcases hx : L[p]? with _ | x
          · rw [hx] at h; cases h
          · rw [hx] at h
            simp only at h
            by_cases c4 : x.kind = 7
            · rw [if_pos c4] at h
              by_cases c5 : 400 < x.text.size
              · rw [if_pos c5] at h; cases h
              · rw [if_neg c5] at h; cases h; exact ⟨by omega, fun N => by rw [cnt_leaf (N + 1) rfl rfl]; omega⟩
            · rw [if_neg c4] at h
              by_cases c6 : x.kind = 8
              · rw [if_pos c6] at h; cases h; exact ⟨by omega, fun N => by rw [cnt_leaf (N + 1) rfl rfl]; omega⟩
              · rw [if_neg c6] at h
                by_cases c7 : x.kind = 11
                · rw [if_pos c7] at h; cases h; exact ⟨by omega, fun N => by rw [cnt_leaf (N + 1) rfl rfl]; omega⟩
                · rw [if_neg c7] at h
                  by_cases c8 : x.kind = 3
                  · rw [if_pos c8] at h
                    by_cases c9 : kindAt L (p + 1) = 4
                    · rw [if_pos c9] at h; cases h; exact ⟨by omega, fun N => by rw [cnt_leaf (N + 1) rfl rfl]; omega⟩
                    · rw [if_neg c9] at h
                      obtain ⟨h1, h2⟩ := readJ_cnt L E n _ _ _ _ _ _ h
                      exact ⟨by omega, fun N => by
                        have h3 := h2 N
                        have h4 : bndJ N (.list d []) = 0 := rfl
                        have h5 : bndJ N (.value d) = 0 := rfl
                        omega⟩
                  · rw [if_neg c8] at h
                    by_cases c10 : x.kind = 1
                    · rw [if_pos c10] at h
                      by_cases c9 : kindAt L (p + 1) = 2
                      · rw [if_pos c9] at h; cases h; exact ⟨by omega, fun N => by rw [cnt_leaf (N + 1) rfl rfl]; omega⟩
                      · rw [if_neg c9] at h
                        obtain ⟨h1, h2⟩ := readJ_cnt L E n _ _ _ _ _ _ h
                        exact ⟨by omega, fun N => by
                          have h3 := h2 N
                          have h4 : bndJ N (.pairs d [] []) = 0 := rfl
                          have h5 : bndJ N (.value d) = 0 := rfl
                          omega⟩
                    · rw [if_neg c10] at h; cases h; exact ⟨by omega, fun N => by rw [cnt_leaf (N + 1) rfl rfl]; omega⟩
  | n + 1, .list d acc, p, m, t, q, m', h => by
    rw [readJ_list] at h
    rcases hr : readJ L E n (.value (d + 1)) p m with f | ⟨t1, q1, m1⟩
    · rw [hr] at h; cases h
    · rw [hr] at h
      simp only at h
      obtain ⟨h1, h2⟩ := readJ_cnt L E n _ _ _ _ _ _ hr
      have h0 : ∀ N, cntL N (acc ++ [t1]) ≤ cntL N acc + (4 + 5 * (q1 - p)) := fun N => by
        unfold cntL
        rw [szL_app]
        have h3 : cntT N t1 ≤ 5 * (q1 - p) := by
          cases N with
          | zero => exact Nat.zero_le _
          | succ N =>
            have h4 := h2 N
            have h5 : bndJ N (.value (d + 1)) = 0 := rfl
            omega
        simp only [szL]
        omega
      by_cases c1 : kindAt L q1 = 4
      · rw [if_pos c1] at h; cases h
        exact ⟨by omega, fun N => by
          have h4 := h0 N
          have h5 : bndJ N (.list d acc) = cntL N acc := rfl
          have h6 : cntT (N + 1) (tList (acc ++ [t1])) = cntL N (acc ++ [t1]) := by rw [cntT_succ]; exact Nat.zero_add _
          omega⟩
      · rw [if_neg c1] at h
        by_cases c2 : kindAt L q1 = 6
        · rw [if_pos c2] at h
          obtain ⟨h3, h4⟩ := readJ_cnt L E n _ _ _ _ _ _ h
          exact ⟨by omega, fun N => by
            have h5 := h4 N
            have h6 := h0 N
            have h7 : bndJ N (.list d acc) = cntL N acc := rfl
            have h8 : bndJ N (.list d (acc ++ [t1])) = cntL N (acc ++ [t1]) := rfl
            omega⟩
        · rw [if_neg c2] at h; cases h
  | n + 1, .pairs d ks acc, p, m, t, q, m', h => by
    rw [readJ_pairs] at h
    rcases hx : L[p]? with _ | x
    · rw [hx] at h; cases h
    · rw [hx] at h
      simp only at h
      by_cases c1 : x.kind ≠ 7
      · rw [if_pos c1] at h; cases h
      · rw [if_neg c1] at h
        by_cases c2 : 400 < x.text.size
        · rw [if_pos c2] at h; cases h
        · rw [if_neg c2] at h
          by_cases c3 : ks.contains x.text = true
          · rw [if_pos c3] at h; cases h
          · rw [if_neg c3] at h
            by_cases c4 : kindAt L (p + 1) ≠ 5
            · rw [if_pos c4] at h; cases h
            · rw [if_neg c4] at h
              rcases hr : readJ L E n (.value (d + 1)) (p + 2) m with f | ⟨t1, q1, m1⟩
              · rw [hr] at h; cases h
              · rw [hr] at h
                simp only at h
                obtain ⟨h1, h2⟩ := readJ_cnt L E n _ _ _ _ _ _ hr
                have hk : (insL ks (posK ks x.text) x.text).length = ks.length + 1 := ins_len (posK_le _ _)
                have h0 : ∀ N, cntL N (insL acc (posK ks x.text) t1) ≤ cntL N acc + (4 + 5 * (q1 - (p + 2))) := fun N => by
                  unfold cntL
                  rw [szL_ins]
                  have h3 : cntT N t1 ≤ 5 * (q1 - (p + 2)) := by
                    cases N with
                    | zero => exact Nat.zero_le _
                    | succ N =>
                      have h4 := h2 N
                      have h5 : bndJ N (.value (d + 1)) = 0 := rfl
                      omega
                  omega
                by_cases c5 : kindAt L q1 = 2
                · rw [if_pos c5] at h; cases h
                  exact ⟨by omega, fun N => by
                    have h4 := h0 N
                    have h5 : bndJ N (.pairs d ks acc) = ks.length + cntL N acc := rfl
                    have h6 : cntT (N + 1) (tMap (insL ks (posK ks x.text) x.text) (insL acc (posK ks x.text) t1)) = (insL ks (posK ks x.text) x.text).length + cntL N (insL acc (posK ks x.text) t1) := by rw [cntT_succ]; rfl
                    omega⟩
                · rw [if_neg c5] at h
                  by_cases c6 : kindAt L q1 = 6
                  · rw [if_pos c6] at h
                    obtain ⟨h3, h4⟩ := readJ_cnt L E n _ _ _ _ _ _ h
                    exact ⟨by omega, fun N => by
                      have h5 := h4 N
                      have h6 := h0 N
                      have h7 : bndJ N (.pairs d ks acc) = ks.length + cntL N acc := rfl
                      have h8 : bndJ N (.pairs d (insL ks (posK ks x.text) x.text) (insL acc (posK ks x.text) t1)) = (insL ks (posK ks x.text) x.text).length + cntL N (insL acc (posK ks x.text) t1) := rfl
                      omega⟩
                  · rw [if_neg c6] at h; cases h
theorem cnt_readB (s : ByteArray) : cntT 10 (readB s).2 ≤ 5242880 := by
  have h0 : cntT 10 treeZ = 0 := cnt_leaf 10 rfl rfl
  by_cases hf : (signsF s).2.code = 0
  · rcases hq : readJ (signsF s).1 s.size (2 * (signsF s).1.length + 4) (.value 1) 0 0 with f | ⟨t, p, m⟩
    · rw [readB_bad hf hq, h0]; omega
    · by_cases hp : p < (signsF s).1.length
      · rw [readB_more hf hq hp, h0]; omega
      · rw [readB_good hf hq hp]
        have h1 : cntT 10 t ≤ bndJ 9 (.value 1) + 5 * (p - 0) := (readJ_cnt _ _ _ _ _ _ _ _ _ hq).2 9
        have h2 := readJ_good (signsF s).1 s.size (2 * (signsF s).1.length + 4) (.value 1) 0 0 (Nat.zero_le _) (Nat.zero_le _) (by unfold needJ; simp only; omega)
        rw [hq] at h2
        have h3 := h2.2.1
        have h4 := (signsF_ok s).len
        have h5 : bndJ 9 (.value 1) = 0 := rfl
        show cntT 10 t ≤ 5242880
        omega
  · rw [readB_sign hf, h0]; omega
end Go.Proofs.YtffelpdefjkeaaaGreatDoor
namespace Go.Proofs.YtffelpdefjkeaaaGreatDoor
open Go.RowKit Go.Lib
def figU (x : Nat) : UInt8 := if x < 10 then UInt8.ofNat (48 + x) else UInt8.ofNat (87 + x)
/-- A byte as it stands in a quoted text. -/
def qN (n : Nat) : List UInt8 :=
  if n = 34 ∨ n = 92 then [92, UInt8.ofNat n] else if n = 8 then [92, 98] else if n = 12 then [92, 102] else if n = 10 then [92, 110] else if n = 13 then [92, 114] else if n = 9 then [92, 116]
  else if n < 32 then [92, 117, 48, 48, figU (n / 16), figU (n % 16)] else [UInt8.ofNat n]
def qB (c : UInt8) : List UInt8 := qN c.toNat
def qR (r : Nat) : List UInt8 := if r < 128 then qN r else (textB r).data.toList
def quoteB (s : ByteArray) : ByteArray := if utf8B s then ⟨(34 :: s.data.toList.flatMap qB ++ [34]).toArray⟩ else ⟨#[]⟩
theorem qB_high {c : UInt8} (h : 128 ≤ c.toNat) : qB c = [c] := by
  unfold qB qN
  rw [if_neg (by omega), if_neg (by omega), if_neg (by omega), if_neg (by omega), if_neg (by omega), if_neg (by omega), if_neg (by omega)]
  simp
theorem qN_len (n : Nat) : (qN n).length ≤ 6 := by
  unfold qN
  by_cases h0 : n = 34 ∨ n = 92
  · rw [if_pos h0]; simp
  rw [if_neg h0]
  by_cases h1 : n = 8
  · rw [if_pos h1]; simp
  rw [if_neg h1]
  by_cases h2 : n = 12
  · rw [if_pos h2]; simp
  rw [if_neg h2]
  by_cases h3 : n = 10
  · rw [if_pos h3]; simp
  rw [if_neg h3]
  by_cases h4 : n = 13
  · rw [if_pos h4]; simp
  rw [if_neg h4]
  by_cases h5 : n = 9
  · rw [if_pos h5]; simp
  rw [if_neg h5]
  by_cases h6 : n < 32
  · rw [if_pos h6]; simp
  rw [if_neg h6]
  simp
theorem text_len (r : Nat) : (textB r).data.toList.length ≤ 4 := by
  have h := congrArg List.length (textB_list r)
  rw [List.length_map] at h
  rw [h]
  unfold encN4
  repeat' split
  all_goals simp
theorem qR_len (r : Nat) : (qR r).length ≤ 6 := by
  unfold qR
  split
  · exact qN_len r
  · have := text_len r
    omega
theorem bytes_inj : ∀ {a b : List UInt8}, a.map UInt8.toNat = b.map UInt8.toNat → a = b
  | [], [], _ => rfl
  | [], _ :: _, h => by cases h
  | _ :: _, [], h => by cases h
  | x :: a, y :: b, h => by
    simp only [List.map_cons, List.cons.injEq] at h
    rw [UInt8.toNat_inj.1 h.1, bytes_inj h.2]
theorem text_eq {r : Nat} {l : List UInt8} (h : encN4 r = l.map UInt8.toNat) : (textB r).data.toList = l := bytes_inj (by rw [textB_list, h])
/-- A rune that was read: one byte below 128, or bytes from 128 on that are its text. -/
theorem decode_way (l : List UInt8) (hne : l ≠ []) (hv : decodeL l ≠ (65533, 1)) :
    (∃ b : UInt8, (decodeL l).1 = b.toNat ∧ b.toNat < 128 ∧ l.take (decodeL l).2 = [b]) ∨ (128 ≤ (decodeL l).1 ∧ (textB (decodeL l).1).data.toList = l.take (decodeL l).2 ∧ ∀ x ∈ l.take (decodeL l).2, 128 ≤ x.toNat) := by
  have hl : 0 < l.length := List.length_pos_iff.2 hne
  rw [decodeL_N] at hv ⊢
  have k0 := (l.getD 0 0).toNat_lt
  have k1 := (l.getD 1 0).toNat_lt
  have k2 := (l.getD 2 0).toNat_lt
  have k3 := (l.getD 3 0).toNat_lt
  rcases decodeN_shape l.length (l.getD 0 0).toNat (l.getD 1 0).toNat (l.getD 2 0).toNat (l.getD 3 0).toNat with ⟨c, e⟩ | ⟨c1, c2, c3, cv, e⟩ | ⟨c1, c2, c3, c4, cv, cs, e⟩ | ⟨c1, c2, c3, c4, c5, cv, cs, e⟩ | e
  · rw [e]
    exact .inl ⟨l.getD 0 0, rfl, c, takeA l hl⟩
  · rw [e]
    refine .inr ⟨cv, ?_, ?_⟩
    · show (textB ((l.getD 0 0).toNat % 32 * 64 + (l.getD 1 0).toNat % 64 : Nat)).data.toList = l.take 2
      refine text_eq ?_
      rw [takeB l c2]
      unfold encN4
      rw [if_neg (by omega), if_neg (by omega), if_pos (by omega)]
      simp only [List.map_cons, List.map_nil, List.cons.injEq, and_true]
      omega
    · intro x hx
      rw [show l.take (((l.getD 0 0).toNat % 32 * 64 + (l.getD 1 0).toNat % 64, 2) : Nat × Nat).2 = l.take 2 from rfl, takeB l c2] at hx
      simp only [List.mem_cons, List.mem_nil_iff, or_false] at hx
      rcases hx with rfl | rfl <;> omega
  · rw [e]
    refine .inr ⟨by show 128 ≤ (l.getD 0 0).toNat % 16 * 4096 + (l.getD 1 0).toNat % 64 * 64 + (l.getD 2 0).toNat % 64; omega, ?_, ?_⟩
    · show (textB ((l.getD 0 0).toNat % 16 * 4096 + (l.getD 1 0).toNat % 64 * 64 + (l.getD 2 0).toNat % 64 : Nat)).data.toList = l.take 3
      refine text_eq ?_
      rw [takeC l c2]
      unfold encN4
      rw [if_neg (by omega), if_neg (by omega), if_neg (by omega), if_pos (by omega)]
      simp only [List.map_cons, List.map_nil, List.cons.injEq, and_true]
      omega
    · intro x hx
      rw [show l.take (((l.getD 0 0).toNat % 16 * 4096 + (l.getD 1 0).toNat % 64 * 64 + (l.getD 2 0).toNat % 64, 3) : Nat × Nat).2 = l.take 3 from rfl, takeC l c2] at hx
      simp only [List.mem_cons, List.mem_nil_iff, or_false] at hx
      rcases hx with rfl | rfl | rfl <;> omega
  · rw [e]
    refine .inr ⟨by show 128 ≤ (l.getD 0 0).toNat % 8 * 262144 + (l.getD 1 0).toNat % 64 * 4096 + (l.getD 2 0).toNat % 64 * 64 + (l.getD 3 0).toNat % 64; omega, ?_, ?_⟩
    · show (textB ((l.getD 0 0).toNat % 8 * 262144 + (l.getD 1 0).toNat % 64 * 4096 + (l.getD 2 0).toNat % 64 * 64 + (l.getD 3 0).toNat % 64 : Nat)).data.toList = l.take 4
      refine text_eq ?_
      rw [takeD l c2]
      unfold encN4
      rw [if_neg (by omega), if_neg (by omega), if_neg (by omega), if_neg (by omega)]
      simp only [List.map_cons, List.map_nil, List.cons.injEq, and_true]
      omega
    · intro x hx
      rw [show l.take (((l.getD 0 0).toNat % 8 * 262144 + (l.getD 1 0).toNat % 64 * 4096 + (l.getD 2 0).toNat % 64 * 64 + (l.getD 3 0).toNat % 64, 4) : Nat × Nat).2 = l.take 4 from rfl, takeD l c2] at hx
      simp only [List.mem_cons, List.mem_nil_iff, or_false] at hx
      rcases hx with rfl | rfl | rfl | rfl <;> omega
  · exact absurd e hv
theorem flat_high : ∀ {l : List UInt8}, (∀ x ∈ l, 128 ≤ x.toNat) → l.flatMap qB = l
  | [], _ => rfl
  | x :: l, h => by
    rw [List.flatMap_cons, qB_high (h x (by simp)), flat_high (fun y hy => h y (by simp [hy]))]
    rfl
theorem quote_runes (s : ByteArray) : ∀ (f i : Nat) (rs : List Nat), s.size - i ≤ f → runesAt s i = some rs → (s.data.toList.drop i).flatMap qB = rs.flatMap qR
  | f, i, rs, hf, h => by
    by_cases hi : i < s.size
    · by_cases hd : Utf8.decode s i = (65533, 1)
      · rw [runesAt_bad hi hd] at h; cases h
      · rw [runesAt_step hi hd] at h
        have hdl := decodeL_drop s i hi
        have hl : s.data.toList.length = s.size := Array.length_toList
        have hne : s.data.toList.drop i ≠ [] := fun e => by
          have := congrArg List.length e
          rw [List.length_drop, hl] at this
          simp at this
          omega
        have hk : 1 ≤ (Utf8.decode s i).2 := by have := decode_fits s i hi; omega
        rcases hr : runesAt s (i + (Utf8.decode s i).2) with _ | rs'
        · rw [hr] at h; cases h
        · rw [hr] at h
          obtain rfl := Option.some.inj h
          cases f with
          | zero => omega
          | succ f =>
            have ih := quote_runes s f (i + (Utf8.decode s i).2) rs' (by omega) hr
            have hs : s.data.toList.drop i = (s.data.toList.drop i).take (Utf8.decode s i).2 ++ s.data.toList.drop (i + (Utf8.decode s i).2) := by
              rw [← List.drop_drop, List.take_append_drop]
            rw [hs, List.flatMap_append, List.flatMap_cons, ih]
            congr 1
            rw [← hdl]
            rcases decode_way _ hne (by rw [hdl]; exact hd) with ⟨b, h1, h2, h3⟩ | ⟨h1, h2, h3⟩
            · rw [h3, h1]
              unfold qR
              rw [if_pos h2]
              simp [qB]
            · unfold qR
              rw [if_neg (by omega), flat_high h3, h2]
    · rw [runesAt_end hi] at h
      obtain rfl := Option.some.inj h
      rw [List.drop_of_length_le (by rw [Array.length_toList]; exact Nat.le_of_not_lt hi)]
      rfl
theorem quoteB_runes {s : ByteArray} {rs : List Nat} (h : runesAt s 0 = some rs) : quoteB s = ⟨(34 :: rs.flatMap qR ++ [34]).toArray⟩ := by
  have h1 := quote_runes s _ 0 rs (Nat.le_refl _) h
  rw [List.drop_zero] at h1
  unfold quoteB utf8B
  rw [h, h1]
  rfl
theorem quoteB_none {s : ByteArray} (h : runesAt s 0 = none) : quoteB s = ⟨#[]⟩ := by unfold quoteB utf8B; rw [h]; rfl
end Go.Proofs.YtffelpdefjkeaaaGreatDoor
namespace Go.Proofs.YtffelpdefjkeaaaGreatDoor
open Go.RowKit Go.Lib
/-- A slice of the call's own holds the bytes M. -/
def BufB (base : Nat) (w : World) (M : List UInt8) (v : Value) : Prop := w.ownsRow base 5 1 v M.length (Lib.strCells ⟨M.toArray⟩)
theorem BufB.below {base : Nat} {w w' : World} {M : List UInt8} {v : Value} (h : BufB base w M v) (hb : Below w.heap.size w w') : BufB base w' M v := ownsRow_carry h (fun q hq => hb.block q (World.ownsRow.lt h q hq).2)
theorem cells_one (l : List UInt8) : ∀ x ∈ Lib.strCells ⟨l.toArray⟩, x.oneCell' = true := by
  intro x hx
  unfold Lib.strCells at hx
  rw [List.mem_map] at hx
  obtain ⟨b, -, rfl⟩ := hx
  rfl
theorem cells_len (l : List UInt8) : (Lib.strCells ⟨l.toArray⟩).length = l.length := by unfold Lib.strCells; rw [List.length_map]
theorem own_lit {w : World} {bs : List UInt8} {k : Nat} (hk : k = bs.length) (hm : k ≤ 1048576) {cs : List Value} (hcs : cs = Lib.strCells ⟨bs.toArray⟩) :
    (w.alloc (.cells cs.toArray 5)).ownsRow w.heap.size 5 1 (.slice (some ⟨w.heap.size, 0, none⟩) k k) k (Lib.strCells ⟨bs.toArray⟩) := by
  have hl := cells_len bs
  subst hcs hk
  exact ⟨by rw [hl, Nat.mul_one], .inr ⟨w.heap.size, bs.length, (Lib.strCells ⟨bs.toArray⟩).toArray, rfl, Nat.le_refl _, heap_alloc_new w _, Nat.le_refl _, by unfold maxLen; omega, by rw [List.size_toArray, hl]; omega, by rw [List.take_of_length_le (by simp [hl])]⟩⟩
theorem run_buf (wx : World) (base n c k : Nat) (A : Option Addr) (M bs : List UInt8) (cs : List Value) (hn : n = M.length) (h : BufB base wx M (.slice A n c)) (hk : k = bs.length) (hcs : cs = Lib.strCells ⟨bs.toArray⟩) (hsz : n + k ≤ 1073741824) (hk2 : k ≤ 1048576) (hbase : base ≤ wx.heap.size) :
    ∃ (A' : Option Addr) (c' : Nat) (w' : World), (Builtin.append_ #[37, 37] 37 #[.slice A n c, .slice (some ⟨wx.heap.size, 0, none⟩) k k]).run Tryz.prog (wx.alloc (.cells cs.toArray 5)) = .ok (.slice A' (n + k) c') w' ∧ BufB base w' (M ++ bs) (.slice A' (n + k) c') ∧ Below base wx w' := by
  obtain ⟨i0, hi, hz0, hz1, hz2⟩ := info_parts (show (Tryz.prog.info? 5).map (fun i => (i.zero, i.size, i.bytes)) = some (some (.int .u8 0), 1, 1) from by kernel_rfl)
  unfold BufB at h
  rw [← hn] at h
  have hb : Below wx.heap.size wx (wx.alloc (.cells cs.toArray 5)) := bel
  have h' := ownsRow_carry h (fun q hq => hb.block q (World.ownsRow.lt h q hq).2)
  obtain ⟨v', w', hr, h2, h3, h5⟩ := run_append_row (P := Tryz.prog) (wx.alloc (.cells cs.toArray 5)) 37 37 base 5 i0 (.int .u8 0) 1 1 Tryz.underlying37 hi hz0 hz1 hz2 rfl (by decide) (.slice A n c) n _ h' wx.heap.size k _ _ (own_lit hk hk2 hcs) (cells_one bs) (by unfold maxLen; omega) (by omega) (by simp; omega)
  obtain ⟨A', c', rfl⟩ := own_form h2
  refine ⟨A', c', w', hr, ?_, Below.grown (hb.mono hbase) h3 (by simp; omega) (fun q hq => (World.ownsRow.lt h q hq).1)⟩
  unfold BufB
  rw [List.length_append, ← hn, ← hk]
  rw [strCells_list] at h2
  exact h2
end Go.Proofs.YtffelpdefjkeaaaGreatDoor
