/- Steps to FnExactIndentedOk and FnExactIndentedNormal and FnExactCrossed. No conditions. -/
import Derived.Test.YtohcpifekcehjaaGreatDoorKind15
import Derived.Test.YtohcpifekcehjaaGreatDoorKind7
import Derived.Test.YtohcpifekcehjaaGreatDoorKind3
import Derived.Test.YtohcpifekcehjaaGreatDoorKind6
import Derived.Test.YtohcpifekcehjaaGreatDoorKind13
import Derived.Test.YtohcpifekcehjaaGreatDoorKind8
import Derived.Test.YtohcpifekcehjaaGreatDoorKind9
import Derived.Deep.AppendLies
set_option maxHeartbeats 16000000
set_option maxRecDepth 20000
namespace Go.Proofs.YtohcpifekcehjaaGreatDoor
open Go.RowKit Go.Lib
theorem c_impl_LinesIn (s : ByteArray) (w : World) (hs : s.size <= 1048576) (hT : Tabs w) (hM : MaxL w) :
  Calls Tryz.prog 49 #[.string s] w (LinE (linesF s) w) := by
 obtain ⟨i0, hi, hz0, hz1, hz2⟩ := info_parts (show (Tryz.prog.info? 59).map (fun i => (i.zero, i.size, i.bytes)) = some (some (.agg #[.int .i64 0, .string ⟨#[]⟩, .int .i64 0]), 3, 32) from by kernel_rfl)
 have HVT := hid (And.intro hT hM)
 clear hT hM
 obtain ⟨f, hf⟩ : ∃ f, f = textF s := ⟨_, rfl⟩
 obtain ⟨fc, fa, fp⟩ := f
 have HTf := hid hf
 clear hf
 by_cases hc : fc = 0
 rotate_left
 ·have d1 : (fc == 0) = false := beq_eq_false_iff_ne.2 hc
  have d2 : (fc != 0) = true := bne_iff_ne.2 hc
  have HF := hid (show linesF s = ([], ⟨fc, fa, fp⟩) by rw [linesF_bad (by rw [<- HTf.out]; exact hc), HTf.out])
  clear hc
  go_enter Tryz.func49, Tryz.ntmps49
  go_wp2_with fail
  refine (c_impl_textFault s _ hs (HVT.out.1.below bel)).mono ?_
  rintro e w1 ⟨rfl, hb⟩
  rw [<- HTf.out]
  simp only [fltC]
  have hbox : w1.heap[w.heap.size]? = some (.cells #[.int .i64 0, .int .i64 0, .string ⟨#[]⟩] 23 (0, 0)) := (hb.block w.heap.size (by simp)).trans (heap_at (by simp))
  have l1 := row_lt hbox
  have hB1 : Below w.heap.size w w1 := bel
  obtain ⟨a0, a1, a2, af⟩ := row3 hbox
  clear hbox
  go_wp2_with fail
  go_region_law (fail)
  all_goals
   (try go_wp2_with fail)
   exact bodyPost_ret (v := .tuple #[.slice none 0 0, .agg #[.int .i64 fc, .int .i64 fa, .string fp]]) (by simp only [results, Tryz.results49]; go_simp) rfl ⟨none, 0, by rw [HF.out]; rfl, by rw [HF.out]; exact World.ownsRow_nil _ _ _ _, bel⟩
 obtain rfl := hc
 have hcode : (textF s).code = 0 := by rw [<- HTf.out]
 have hl2 : s.size <= 20000 := textF_zero hcode
 have HF := hid hcode
 clear hcode
 go_enter Tryz.func49, Tryz.ntmps49
 go_wp2_with fail
 refine (c_impl_textFault s _ hs (HVT.out.1.below bel)).mono ?_
 rintro e w1 ⟨rfl, hb⟩
 rw [<- HTf.out]
 simp only [fltC]
 have hbox : w1.heap[w.heap.size]? = some (.cells #[.int .i64 0, .int .i64 0, .string ⟨#[]⟩] 23 (0, 0)) := (hb.block w.heap.size (by simp)).trans (heap_at (by simp))
 have l1 := row_lt hbox
 have HBox1 := hid hbox
 have HB1 := hid (bel : Below w.heap.size w w1)
 clear hbox hb
 go_wp2_with fail
 obtain ⟨wp, hwp⟩ : ∃ W, W = (w1.alloc (.cells #[.int .i64 0, .int .i64 fa, .string fp] 23)).alloc (.cells #[] 59) := ⟨_, rfl⟩
 have hBp : Below w1.heap.size w1 wp := by rw [hwp]; exact bel
 have hE0 : LinesE (w.heap.size + 1) wp [] (.slice (some ⟨w1.heap.size + 1, 0, none⟩) 0 0) := by rw [hwp]; exact own_empty (by simp) (by simp; omega)
 have lp : w1.heap.size + 1 < wp.heap.size := by rw [hwp]; simp
 rw [<- hwp]
 have HBp := hid (HB1.out.trans (hBp.mono HB1.out.size))
 have HBx := hid ((hBp.block _ l1).trans HBox1.out)
 have HE0 := hid hE0
 clear hwp hBp hE0
 refine (c_Split s wp (by omega) (HVT.out.2.below HBp.out)).mono ?_
 rintro e w2 ⟨P, rfl, hcut, hlen, hw2⟩
 have hpos : 0 < P.length := by
  have := congrArg List.length hcut
  rw [List.length_map] at this
  rw [this]
  exact cutA_pos _ _
 obtain ⟨g, hg⟩ : ∃ g, g = wp.heap.size := ⟨_, rfl⟩
 have hrow : w2.heap[g]? = some (.cells (P.map Value.string).toArray 9 (0, 0)) := by rw [hw2, hg]; exact heap_at rfl
 have hB2 : Below wp.heap.size wp w2 := by rw [hw2]; exact bel
 rw [<- hg] at lp hB2 ⊢
 have HRow2 := hid hrow
 have HB2 := hid (HBp.out.trans (hB2.mono (by rw [hg]; exact HBp.out.size)))
 have HBx2 := hid ((hB2.block _ (by have := row_lt HBx.out; omega)).trans HBx.out)
 have HE2 := hid (HE0.out.carry (fun q hq => hB2.block q (by have := (World.ownsRow.lt HE0.out q hq).2; omega)))
 have HS0 := hid (LnAt.start HF.out hcut)
 have hPz : P.length <= 20001 := by omega
 have HI0 := hid hi
 have l1g : w.heap.size + 1 < g := by omega
 clear hw2 hrow hB2 hcut hg hi
 go_wp2_with fail
 go_loopw [5, 20] (fun s5 s20 wr => ∃ (i n : Nat) (L : List LineD) (A : Option Addr) (c : Nat), s20 = .int .i64 i /\ n = L.length /\ s5 = .slice A n c /\ i <= P.length /\ LnAt s P i L /\ LinesE (w.heap.size + 1) wr L (.slice A n c) /\ (∀ q, (Value.slice A n c).ownBlock = some q -> q ≠ g) /\ wr.heap[w.heap.size]? = some (.cells #[.int .i64 0, .int .i64 0, .string ⟨#[]⟩] 23 (0, 0)) /\ wr.heap[g]? = some (.cells (P.map Value.string).toArray 9 (0, 0)) /\ Below w.heap.size w wr) (fun _ s20 _ => P.length - (intOf s20).toNat)
 case atStart => exact ⟨0, 0, [], _, _, rfl, rfl, rfl, Nat.zero_le _, HS0.out, HE2.out, (fun q hq => by simp [Value.ownBlock] at hq; omega), HBx2.out, HRow2.out, HB2.out⟩
 case round =>
  obtain ⟨i, n, L, A, c, rfl, hn, rfl, hi, hA, hR, hO, hbx, hrow, hbr⟩ := hrel
  have HR := hid hR
  have HA := hid hA
  have HN := hid hn
  have HO := hid hO
  have HBx := hid hbx
  have HRow := hid hrow
  have HBr := hid hbr
  have lgr := row_lt hrow
  have lbr := row_lt hbx
  have hni : n <= i := by rw [hn]; exact hA.size
  clear hR hA hn hO hbx hrow hbr HBx2 HRow2 HB2 HE2 HS0
  by_cases hlt : (i : Int) < P.length
  ·have hii : i < P.length := by omega
   have hd : decide ((i : Int) < P.length) = true := decide_eq_true hlt
   have hz : (0 : Int) <= i := by omega
   obtain ⟨x, hx⟩ := exists_at hii
   have hcx : wr.cell? ⟨g, i, none⟩ = some (.string x) := by rw [cell_of_row _ _ _ _ _ _ HRow.out]; simp [hx]
   have hxz : x.size <= 20000 := Nat.le_trans (HA.out.small hx) hl2
   have HPx := hid hx
   clear hx
   go_wp2_with fail
   refine (c_IndexLow x wr).mono ?_
   rintro e w3 ⟨z, rfl, hlow, hb3⟩
   have HB3 := hid hb3
   have HBx3 := hid ((hb3.block _ lbr).trans HBx.out)
   have HRow3 := hid ((hb3.block _ lgr).trans HRow.out)
   have HR3 := hid (HR.out.below hb3)
   have l3 := hb3.size
   clear hb3
   rcases hq : lowB x.data.toList with _ | _
   rotate_left
   ·have hzz : decide (0 <= z) = true := hlow.trans hq
    have HF2 := hid (HA.out.bad HPx.out hq)
    obtain ⟨a0, a1, a2, af⟩ := row3 HBx3.out
    have la := row_lt HBx3.out
    clear hlow hq
    go_wp2_with fail
    exact bodyPost_ret (v := .tuple #[.slice none 0 0, .agg #[.int .i64 3, .int .i64 ((i : Int) + 1), .string ⟨#[]⟩]]) (by simp only [results, Tryz.results49]; go_simp) rfl ⟨none, 0, by rw [HF2.out]; rfl, by rw [HF2.out]; exact World.ownsRow_nil _ _ _ _, (HBr.out.trans (HB3.out.mono HBr.out.size)).trans (Aside.below (S := fun b => b = w.heap.size) asd (Nat.le_trans HBr.out.size l3) (fun i hi => by omega))⟩
   ·have hzz : decide (0 <= z) = false := hlow.trans hq
    have HLo := hid hq
    obtain ⟨y, hy⟩ : ∃ y, y = bs (bareL x.data.toList) := ⟨_, rfl⟩
    have KB := hid (c_impl_BareLine x w3 (by omega))
    rw [<- hy] at KB
    have HYd := hid hy
    clear hy hlow hq
    go_wp2_with fail
    refine KB.out.mono ?_
    rintro e wz ⟨rfl, rfl⟩
    by_cases hnil : bareL x.data.toList = []
    ·obtain rfl : y = ByteArray.empty := by rw [HYd.out, hnil]; rfl
     have HA2 := hid (HA.out.skip HPx.out HLo.out hnil)
     clear hnil
     go_wp2_with fail
     go_roundw
     case rel => exact ⟨i + 1, n, L, A, c, by go_num, HN.out, rfl, by omega, HA2.out, HR3.out, HO.out, HBx3.out, HRow3.out, HBr.out.trans (HB3.out.mono HBr.out.size)⟩
     case measure => first | omega | (simp [intOf]; done) | (simp [intOf]; omega)
    ·have hyz : y.size = (bareL x.data.toList).length := by rw [HYd.out]; exact size_mk _
     have hyl : 0 < y.size := by rw [hyz]; exact List.length_pos_iff.2 hnil
     have hyd : y.toList.isEmpty = false := by rw [ByteArray.toList_eq, HYd.out]; show (bareL x.data.toList).isEmpty = false; cases hb : bareL x.data.toList; exact absurd hb hnil; rfl
     have hye : (!y.toList.isEmpty) = true := by rw [hyd]; rfl
     have hyb : y.size <= 20000 := by rw [hyz]; exact Nat.le_trans (bareL_len _) (by rw [list_size]; exact hxz)
     have hyL : y.data.toList = bareL x.data.toList := by rw [HYd.out]; rfl
     have KI := hid (c_impl_IndentOf y w3 (by omega))
     rw [hyL] at KI
     have htr := bs_trim (bareL x.data.toList)
     rw [<- HYd.out] at htr
     have hdl : indL (bareL x.data.toList) <= y.size := by rw [hyz]; unfold indL; exact Nat.sub_le _ _
     have HA2 := hid (HA.out.add HPx.out HLo.out hnil)
     obtain ⟨d, hdd⟩ : ∃ d, d = indL (bareL x.data.toList) := ⟨_, rfl⟩
     rw [<- htr, <- hdd] at HA2
     rw [<- hdd] at KI hdl
     clear hyz hyL htr hdd hnil
     have hdI : (d : Int) <= y.size := by omega
     have hd0 : (0 : Int) <= d := by omega
     go_wp2_with fail
     refine KI.out.mono ?_
     rintro e wz ⟨rfl, rfl⟩
     go_wp2_with (at_builtin; go_loud (refine wpList_append_rows (C := C_Ln) rfl (.tmp 37) (.tmp 45) 54 rfl (w.heap.size + 1) 59 i0 (.agg #[.int .i64 0, .string ⟨#[]⟩, .int .i64 0]) 3 32 Tryz.underlying54 HI0.out hz0 hz1 hz2 rfl (by decide) encLn_len encLn_one encLn_C _ n L rfl HN.out.symm (HR3.out.below bel) [(⟨d, y.extract d y.size, i + 1⟩ : LineD)] (some ⟨_, 0, none⟩) 1 1 _ _ rfl rfl (sl_oneG encLn_len _ _ rfl 59 _ rfl (by simp)) (by unfold maxLen; omega) (by omega) (by simp; omega) ?_))
     intro v' w4 hR4 hg4 ha4
     obtain ⟨A4, c4, rfl⟩ := hR4.form
     have HR4 := hid hR4
     have hk4 : ∀ k, k < w3.heap.size -> k = w.heap.size ∨ k = g -> w4.heap[k]? = w3.heap[k]? := fun k hk hh => (hg4.block k (by simp; omega) (fun e => by
      have h5 := World.ownsRow.lt HR3.out k e.symm
      rcases hh with rfl | rfl
      ·omega
      ·exact HO.out _ e.symm rfl)).trans (Below.heap_alloc _ _ _ hk)
     have hb4 : Below w.heap.size w w4 := (HBr.out.trans (HB3.out.mono HBr.out.size)).trans (Below.grown ((bel : Below w3.heap.size w3 _).mono (Nat.le_trans HBr.out.size l3)) hg4 (by simp; omega) (fun q hq => by have := (World.ownsRow.lt HR3.out q hq).1; omega))
     have hO4 : ∀ q, (Value.slice A4 (L ++ [(⟨d, y.extract d y.size, i + 1⟩ : LineD)]).length c4).ownBlock = some q -> q ≠ g := fun q hq => by
      rcases ha4 with h | h
      ·rw [h] at hq; exact HO.out q hq
      ·rw [h] at hq; simp at hq; omega
     have HO4 := hid hO4
     have HB4 := hid hb4
     have HBx4 := hid ((hk4 _ (by omega) (.inl rfl)).trans HBx3.out)
     have HRow4 := hid ((hk4 _ (by omega) (.inr rfl)).trans HRow3.out)
     have hln : (L ++ [(⟨d, y.extract d y.size, i + 1⟩ : LineD)]).length = n + 1 := by rw [List.length_append, <- HN.out]; rfl
     have HL := hid hln
     clear hR4 hg4 ha4 hO4 hk4 hb4 hln
     go_wp2_with fail
     go_roundw
     case rel => exact ⟨i + 1, n + 1, L ++ [⟨d, y.extract d y.size, i + 1⟩], A4, c4, by go_num, HL.out.symm, by rw [HL.out], by omega, HA2.out, by rw [<- HL.out]; exact HR4.out, by rw [<- HL.out]; exact HO4.out, HBx4.out, HRow4.out, HB4.out⟩
     case measure => first | omega | (simp [intOf]; done) | (simp [intOf]; omega)
  ·have hd : decide ((i : Int) < P.length) = false := decide_eq_false hlt
   have HE := hid (HA.out.end' (by omega))
   obtain ⟨a0, a1, a2, af⟩ := row3 HBx.out
   have la := row_lt HBx.out
   go_wp2_with fail
   exact bodyPost_ret (v := .tuple #[.slice A n c, .agg #[.int .i64 0, .int .i64 0, .string ⟨#[]⟩]]) (by simp only [results, Tryz.results49]; go_simp) rfl ⟨A, c, by rw [HE.out, HN.out]; rfl, by
    rw [HE.out]
    show LinesE _ _ L (.slice A L.length c)
    rw [<- HN.out]
    exact (HR.out.less (Nat.le_succ _)).carry (fun q hq => (asd : Aside (fun b => b = w.heap.size) wr _).block q (World.ownsRow.lt HR.out q hq).2 (by have := (World.ownsRow.lt HR.out q hq).1; omega)), HBr.out.trans (Aside.below (S := fun b => b = w.heap.size) asd HBr.out.size (fun i hi => by omega))⟩
theorem all_in (w0 : World) (b g N cap : Nat) (h0 : In0 w0 b g) : ∀ n, T_vI w0 b g N cap n /\ T_bI w0 b g N cap n /\ T_lI w0 b g N cap n /\ T_pI w0 b g N cap n := by
 intro n
 induction n using Nat.strongRecOn with
 | ind n ih =>
  have hv : T_vI w0 b g N cap n := by
   cases n with
   | zero => intro d x r m w _ _ _ _ hn; unfold needI at hn; simp only at hn; omega
   | succ n => exact of_inValue w0 b g N cap n h0 (ih n (Nat.lt_succ_self n)).2.2.1 (ih n (Nat.lt_succ_self n)).2.2.2
  have hb : T_bI w0 b g N cap n := by
   cases n with
   | zero => intro i d x r m w _ _ _ _ hn; unfold needI at hn; simp only at hn; omega
   | succ n => exact of_inBelow w0 b g N cap n h0 (ih n (Nat.lt_succ_self n)).1
  exact ⟨hv, hb, of_inList w0 b g N cap n h0 (fun k hk => (ih k hk).2.1) (fun k hk => (ih k hk).1), of_inPairs w0 b g N cap n h0 (fun k hk => (ih k hk).2.1)⟩
theorem drop_head (a : UInt8) : ∀ (l : List UInt8) (x : UInt8) (r : List UInt8), l.dropWhile (· == a) = x :: r -> x ≠ a
 | [], x, r, h => by cases h
 | y :: l, x, r, h => by
  rw [List.dropWhile_cons] at h
  by_cases e : (y == a) = true
  ·rw [if_pos e] at h
   exact drop_head a l x r h
  ·rw [if_neg e] at h
   cases h
   exact fun g => e (beq_iff_eq.2 g)
theorem bare_endOk {l : List UInt8} (h : ¬ bareL l = []) : endOk (bs (bareL l)) := by
 have hz : (bs (bareL l)).size = (bareL l).length := size_mk _
 refine ⟨by rw [hz]; exact List.length_pos_iff.2 h, fun e => ?_⟩
 have hb : (bs (bareL l)).data.toList[(bs (bareL l)).size - 1]? = some ((bs (bareL l)).get! ((bs (bareL l)).size - 1)) := byte_list (by rw [hz]; have := List.length_pos_iff.2 h; omega)
 have e1 : (bs (bareL l)).data.toList = bareL l := rfl
 obtain ⟨x, r, hd⟩ : ∃ x r, (l.take (scanB true false l)).reverse.dropWhile (· == 32) = x :: r := by
  rcases hd : (l.take (scanB true false l)).reverse.dropWhile (· == 32) with _ | ⟨x, r⟩
  ·exact absurd (show bareL l = [] by unfold bareL trimRightB; rw [hd]; rfl) h
  ·exact ⟨x, r, rfl⟩
 have hbl : bareL l = (x :: r).reverse := by
  unfold bareL trimRightB
  rw [hd]
 have hlast : (bareL l)[(bs (bareL l)).size - 1]? = some x := by
  rw [hz, <- List.getLast?_eq_getElem?, hbl]
  simp
 rw [e1, hlast] at hb
 unfold byteI at e
 rw [<- Option.some.inj hb] at e
 exact drop_head 32 _ _ _ hd (UInt8.toNat_inj.1 (by have e32 : (32 : UInt8).toNat = 32 := rfl; omega))
theorem line_ok {i : Nat} {l : List UInt8} {x : LineD} (h : x ∈ lineO i l) (hl : l.length <= 20000) (hi : i <= 20001) : LnOk x := by
 unfold lineO at h
 by_cases c : bareL l = []
 ·rw [if_pos c] at h; cases h
 ·rw [if_neg c] at h
  rcases List.mem_singleton.1 h with rfl
  have h1 := bareL_len l
  have h2 := trimL_len (bareL l) 32
  have hz : (bs (trimLeftB (bareL l) 32)).size = (trimLeftB (bareL l) 32).length := size_mk _
  have h3 : indL (bareL l) = (bareL l).length - (trimLeftB (bareL l) 32).length := rfl
  refine ⟨by show indL (bareL l) + (bs (trimLeftB (bareL l) 32)).size <= 20000; omega, hi, ?_⟩
  have he := bare_endOk c
  have := (tail_end (i := 0) he he.1).1
  exact this
theorem linesK_ok {P : List (List UInt8)} (hP : ∀ l ∈ P, l.length <= 20000) : ∀ (k : Nat), k <= 20001 -> InOk (linesK P k) /\ (linesK P k).length <= k
 | 0, _ => ⟨fun x hx => (by unfold linesK at hx; cases hx), Nat.le_refl _⟩
 | k + 1, hk => by
  obtain ⟨h1, h2⟩ := linesK_ok hP k (by omega)
  unfold linesK
  rcases hp : P[k]? with _ | l
  ·simp only [List.append_nil]
   exact ⟨h1, by omega⟩
  ·simp only
   refine ⟨fun x hx => ?_, ?_⟩
   ·rcases List.mem_append.1 hx with hx | hx
    ·exact h1 x hx
    ·exact line_ok hx (hP l (List.mem_of_getElem? hp)) hk
   ·rw [List.length_append]
    have : (lineO (k + 1) l).length <= 1 := by unfold lineO; split <;> simp
    omega
theorem cutA_len : ∀ (l acc : List UInt8), (cutA acc l).length = l.count 10 + 1
 | [], acc => rfl
 | c :: l, acc => by
  by_cases hc : c = 10
  ·subst hc
   rw [cutA_nl, List.length_cons, cutA_len l [], List.count_cons_self]
  ·rw [cutA_on hc, cutA_len l _, List.count_cons_of_ne hc]
theorem linesF_ok {s : ByteArray} (h : (linesF s).2.code = 0) : InOk (linesF s).1 /\ (linesF s).1.length <= 20001 := by
 unfold linesF at h ⊢
 by_cases c : (textF s).code ≠ 0
 ·rw [if_pos c] at h; exact absurd h c
 ·rw [if_neg c] at h ⊢
  have hs : s.size <= 20000 := textF_zero (by omega)
  rcases hf : (cutA [] s.data.toList).findIdx? lowB with _ | k
  ·rw [hf] at h
   simp only
   have hlen := cutA_len s.data.toList []
   have hc := List.count_le_length (a := (10 : UInt8)) (l := s.data.toList)
   rw [list_size] at hc
   obtain ⟨h1, h2⟩ := linesK_ok (P := cutA [] s.data.toList) (fun l hl => by have := cutA_small _ _ _ hl; rw [list_size] at this; simp at this; omega) (cutA [] s.data.toList).length (by omega)
   exact ⟨h1, by omega⟩
  ·rw [hf] at h
   cases h
theorem readIn_fault {s : ByteArray} (h : ¬ (linesF s).2.code = 0) : readIn s = ((linesF s).2, treeZ) := by
 unfold readIn
 rw [if_pos h]
 rfl
theorem readIn_empty {s : ByteArray} (h : (linesF s).2.code = 0) (hL : (linesF s).1 = []) : readIn s = (fltA 4 (s.data.toList.count 10 + 1), treeZ) := by
 unfold readIn
 rw [if_neg (by rw [h]; decide), hL, cutA_len]
 rfl
theorem readIn_ind {s : ByteArray} {x : LineD} {r : List LineD} (h : (linesF s).2.code = 0) (hL : (linesF s).1 = x :: r) (hx : x.ind ≠ 0) : readIn s = (fltA 4 x.at', treeZ) := by
 unfold readIn
 rw [if_neg (by rw [h]; decide), hL]
 simp only
 rw [if_pos hx]
 rfl
theorem readIn_main {s : ByteArray} {x : LineD} {r : List LineD} (h : (linesF s).2.code = 0) (hL : (linesF s).1 = x :: r) (hx : x.ind = 0) : readIn s = (match readK (3 * costL (x :: r) + 3) (.value 1) (x :: r) 0 with
   | .bad f => (f, treeE)
   | .good t [] _ => (flt0, t)
   | .good _ (y :: _) _ => (fltA 4 y.at', treeE)) := by
 unfold readIn
 rw [if_neg (by rw [h]; decide), hL]
 simp only
 rw [if_neg (by rw [hx]; decide)]
 rfl
theorem c_Count (s : ByteArray) (w : World) : Calls Tryz.prog 50 #[.string s, .string ⟨#[10]⟩] w fun e w' => e = .returned (.int .i64 (s.data.toList.count 10 : Nat)) /\ w = w' := by
 have h := Any.strings_Count_one laysCount s 10 w
 change Calls Tryz.prog 50 _ _ _ at h
 exact h.mono (fun _ _ h => ⟨h.1, h.2.symm⟩)
theorem c_impl_ReadIndented (s : ByteArray) (w : World) (hs : s.size <= 1048576) (hV : CTab w) (hT : Tabs w) (hE : ErrR w) (hM : MaxL w) :
  Calls Tryz.prog 18 #[.string s] w (ReadE (readIn s) w) := by
 have HT := hid (And.intro hV (And.intro hT (And.intro hE hM)))
 have HLI := hid (fun (W : World) (hb : Below w.heap.size w W) => c_impl_LinesIn s W hs (hT.below hb) (hM.below hb))
 obtain ⟨⟨lf, la, lp⟩, hlf⟩ : ∃ f, f = (linesF s).2 := ⟨_, rfl⟩
 obtain ⟨L, hL⟩ : ∃ L, L = (linesF s).1 := ⟨_, rfl⟩
 have hpair : linesF s = (L, ⟨lf, la, lp⟩) := by rw [hL, hlf]
 rw [hpair] at HLI
 obtain ⟨r, hr⟩ : ∃ r, r = readIn s := ⟨_, rfl⟩
 rw [<- hr]
 have HR := hid hr
 have HLf := hid (And.intro hlf hL)
 clear hV hT hE hM hlf hL hpair hr
 by_cases hc : lf = 0
 rotate_left
 ·have d1 : (lf != 0) = true := bne_iff_ne.2 hc
  have d2 : (lf == 0) = false := beq_eq_false_iff_ne.2 hc
  have HF := hid (show r = (⟨lf, la, lp⟩, treeZ) by rw [HR.out, readIn_fault (by rw [<- HLf.out.1]; exact hc), <- HLf.out.1])
  clear hc
  go_enter Tryz.func18, Tryz.ntmps18
  go_wp2_with fail
  refine (HLI.out _ bel).mono ?_
  rintro e w1 ⟨A, c, rfl, -, hb1⟩
  simp only [fltC]
  have HT1 := hid ((hb1.block w.heap.size (by simp; omega)).trans ((Below.heap_alloc _ _ _ (by simp)).trans (heap_at (w := w) (o := .cells #[.int .i64 0, .bool false, .int .i64 0, .string ⟨#[]⟩, .slice none 0 0, .slice none 0 0] 34) rfl)))
  have HU1 := hid ((hb1.block (w.heap.size + 1) (by simp)).trans (heap_at (w := w.alloc (.cells #[.int .i64 0, .bool false, .int .i64 0, .string ⟨#[]⟩, .slice none 0 0, .slice none 0 0] 34)) (o := .cells #[.int .i64 0, .int .i64 0, .string ⟨#[]⟩] 23) (by simp)))
  have HB1 := hid (bel : Below w.heap.size w w1)
  obtain ⟨x0, x1, x2, x3, x4, x5, xf⟩ := row6 HT1.out
  obtain ⟨y0, y1, y2, yf⟩ := row3 HU1.out
  have l0 := row_lt HT1.out
  have l1 := row_lt HU1.out
  clear hb1
  go_wp2_with fail
  go_region_law (fail)
  all_goals
   (try go_wp2_with fail)
   exact bodyPost_ret (v := .tuple #[.agg #[.int .i64 0, .bool false, .int .i64 0, .string ⟨#[]⟩, .slice none 0 0, .slice none 0 0], .agg #[.int .i64 lf, .int .i64 la, .string lp]]) (by simp only [results, Tryz.results18]; go_simp) rfl (ReadE.bad HF.out (have hb01 := HB1.out; bel))
 obtain rfl := hc
 have hcode : (linesF s).2.code = 0 := by rw [<- HLf.out.1]
 obtain ⟨hok, hlen⟩ := linesF_ok hcode
 rw [<- HLf.out.2] at hok hlen
 have HOk := hid hok
 have HC := hid hcode
 clear hok hcode
 go_enter Tryz.func18, Tryz.ntmps18
 go_wp2_with fail
 refine (HLI.out _ bel).mono ?_
 rintro e w1 ⟨A, c, rfl, hrow, hb1⟩
 simp only [fltC]
 have HRow := hid hrow
 obtain ⟨N, hN⟩ : ∃ N, N = L.length := ⟨_, rfl⟩
 rw [<- hN]
 have HT1 := hid ((hb1.block w.heap.size (by simp; omega)).trans ((Below.heap_alloc _ _ _ (by simp)).trans (heap_at (w := w) (o := .cells #[.int .i64 0, .bool false, .int .i64 0, .string ⟨#[]⟩, .slice none 0 0, .slice none 0 0] 34) rfl)))
 have HU1 := hid ((hb1.block (w.heap.size + 1) (by simp)).trans (heap_at (w := w.alloc (.cells #[.int .i64 0, .bool false, .int .i64 0, .string ⟨#[]⟩, .slice none 0 0, .slice none 0 0] 34)) (o := .cells #[.int .i64 0, .int .i64 0, .string ⟨#[]⟩] 23) (by simp)))
 have HB1 := hid (bel : Below w.heap.size w w1)
 obtain ⟨x0, x1, x2, x3, x4, x5, xf⟩ := row6 HT1.out
 obtain ⟨y0, y1, y2, yf⟩ := row3 HU1.out
 have l0 := row_lt HT1.out
 have l1 := row_lt HU1.out
 clear hrow hb1
 rcases L with _ | ⟨x, t⟩
 ·obtain rfl : N = 0 := hN
  have HF := hid (show r = (fltA 4 (s.data.toList.count 10 + 1), treeZ) by rw [HR.out, readIn_empty HC.out HLf.out.2.symm])
  obtain ⟨k, hk⟩ : ∃ k, k = s.data.toList.count 10 := ⟨_, rfl⟩
  have HCt := hid (fun W => c_Count s W)
  rw [<- hk] at HCt HF
  have hkz : k <= 1048576 := by rw [hk]; exact Nat.le_trans List.count_le_length (by rw [list_size]; exact hs)
  have HE : Hid (fltC (fltA 4 (k + 1)) = #[.int .i64 4, .int .i64 (1 + (k : Int)), .string ⟨#[]⟩]) := hid (by unfold fltC fltA; simp only; rw [show ((k + 1 : Nat) : Int) = 1 + (k : Int) by omega])
  clear hk
  go_wp2_with fail
  refine (HCt.out _).mono ?_
  rintro e w2 ⟨rfl, rfl⟩
  go_wp2_with fail
  exact bodyPost_ret (v := .tuple #[.agg #[.int .i64 0, .bool false, .int .i64 0, .string ⟨#[]⟩, .slice none 0 0, .slice none 0 0], .agg #[.int .i64 4, .int .i64 (1 + (k : Int)), .string ⟨#[]⟩]]) (by simp only [results, Tryz.results18]; go_simp) rfl (HE.out ▸ ReadE.bad HF.out (have hb01 := HB1.out; bel))
 have HN := hid hN
 have hN0 : 0 < N := by rw [hN]; exact Nat.succ_pos _
 have hNz : N <= 20001 := by rw [hN]; exact hlen
 obtain ⟨g, cap, cur, hv, hgb, hgr, hcap, -, -, hcell⟩ := HRow.out.row encLn_len (Nat.succ_pos _)
 simp only [Value.slice.injEq] at hv
 obtain ⟨rfl, -, rfl⟩ := hv
 have hgb2 : w.heap.size + 2 <= g := by simp at hgb; omega
 have lg := row_lt hgr
 have HGr := hid hgr
 have HCell := hid hcell
 have hc0 : w1.cell? ⟨g, 0, none⟩ = some (.int .i64 (x.ind : Nat)) := by
  have h := hcell 0 x rfl 0 (by decide)
  rw [cell_of_row _ _ _ _ _ _ hgr]
  simpa [encLn] using h
 have hc2 : w1.cell? ⟨g, 2, none⟩ = some (.int .i64 (x.at' : Nat)) := by
  have h := hcell 0 x rfl 2 (by decide)
  rw [cell_of_row _ _ _ _ _ _ hgr]
  simpa [encLn] using h
 have hcf : ∀ o, w1.frozen? ⟨g, o, none⟩ = false := fun o => frozen_row hgr o
 have hNI : (0 : Int) < N := by omega
 have e0 : ((N : Int) == 0) = false := beq_eq_false_iff_ne.2 (by omega)
 have e0' : (N == 0) = false := beq_eq_false_iff_ne.2 (by omega)
 have hcapN : N <= c := by rw [hN]; exact hcap
 obtain ⟨xi, xt, xa⟩ := x
 simp only at hc0 hc2
 clear hgb hgr hcell hN hlen hcap
 by_cases hx : xi = 0
 rotate_left
 ·have d1 : ((xi : Int) != 0) = true := bne_iff_ne.2 (by omega)
  have d2 : ((xi : Int) == 0) = false := beq_eq_false_iff_ne.2 (by omega)
  have d3 : (xi == 0) = false := beq_eq_false_iff_ne.2 hx
  have HF := hid (show r = (fltA 4 xa, treeZ) by rw [HR.out, readIn_ind HC.out HLf.out.2.symm hx])
  go_wp2_with fail
  go_region_law (fail)
  all_goals
   (try go_wp2_with fail)
   exact bodyPost_ret (v := .tuple #[.agg #[.int .i64 0, .bool false, .int .i64 0, .string ⟨#[]⟩, .slice none 0 0, .slice none 0 0], .agg #[.int .i64 4, .int .i64 (xa : Nat), .string ⟨#[]⟩]]) (by simp only [results, Tryz.results18]; go_simp) rfl (ReadE.bad HF.out (have hb01 := HB1.out; bel))
 obtain ⟨n, hn⟩ : ∃ n, n = 3 * costL (⟨xi, xt, xa⟩ :: t) + 3 := ⟨_, rfl⟩
 have hF := HR.out.trans (readIn_main HC.out HLf.out.2.symm hx)
 rw [<- hn] at hF
 have HF := hid hF
 have HNd := hid (show needI (.value 1) (⟨xi, xt, xa⟩ :: t) <= n from Nat.le_of_eq hn.symm)
 clear hn hF
 obtain rfl := hx
 have HAll := hid (fun (b : Nat) (hb : w.heap.size <= b) => (all_in w b g N c ⟨HT.out.1, HT.out.2.1, HT.out.2.2.1, hb, by omega⟩ n).1)
 have HNe := hid hN0
 have hle1 := HB1.out.size
 clear hN0
 go_upto_region 8 with fail
 clear hc0 hc2
 obtain ⟨w2, hw2⟩ : ∃ W, W = w1.alloc (.cells #[.int .i64 0, .int .i64 la, .string lp] 23) := ⟨_, rfl⟩
 rw [<- hw2]
 have hb2 : Below w1.heap.size w1 w2 := by rw [hw2]; exact bel
 have HZ2 := hid (show w1.heap.size + 1 = w2.heap.size by rw [hw2]; simp)
 have hz2 : w1.heap.size < w2.heap.size := by rw [hw2]; simp
 have hz2a : w1.heap.size + 1 <= w2.heap.size := by rw [hw2]; simp
 have hz2b : w2.heap.size <= w1.heap.size + 1 := by rw [hw2]; simp
 obtain ⟨w3, hw3⟩ : ∃ W, W = w2.alloc (.cells #[.slice (some ⟨g, 0, none⟩) N c, .int .i64 0, .int .i64 0, .int .i64 0, .int .i64 0, .string ⟨#[]⟩] 61) := ⟨_, rfl⟩
 have HW3 := hid hw3
 have hb3 : Below w2.heap.size w2 w3 := by rw [hw3]; exact bel
 have hz3 : w2.heap.size < w3.heap.size := by rw [hw3]; simp
 have hI3 : InAt 61 w2.heap.size g N c (⟨0, xt, xa⟩ :: t) 0 flt0 w3 := ⟨0, cur, (Nat.zero_add _).trans HN.out.symm, hcapN, hNz, by omega, by rw [hw3]; exact heap_at rfl, (hb3.block _ (by omega)).trans ((hb2.block g lg).trans HGr.out), fun i x hx => by
  have h0 := HCell.out i x hx 0 (by decide)
  have h1 := HCell.out i x hx 1 (by decide)
  have h2 := HCell.out i x hx 2 (by decide)
  refine ⟨?_, ?_, ?_⟩
  ·simpa [encLn] using h0
  ·simpa [encLn] using h1
  ·simpa [encLn] using h2⟩
 have HI3 := hid hI3
 have HB3 := hid ((HB1.out.trans (hb2.mono HB1.out.size)).trans (hb3.mono (by have := HB1.out.size; omega)))
 have HT3 := hid ((hb3.block _ (by omega)).trans ((hb2.block _ l0).trans HT1.out))
 have HU3 := hid ((hb3.block _ (by omega)).trans ((hb2.block _ l1).trans HU1.out))
 have hsw : w.heap.size + 1 < w1.heap.size := l1
 clear hw2 hb2 hw3 hb3 hI3 x0 x1 x2 x3 x4 x5 xf y0 y1 y2 yf l0 l1
 go_wp2_with fail
 rw [<- HW3.out]
 refine (HAll.out w2.heap.size (by omega) 1 _ _ 0 w3 (by decide) (by decide) (Nat.zero_le _) HOk.out HNd.out HB3.out HI3.out).mono ?_
 intro e w4 hv4
 obtain ⟨res, hres⟩ : ∃ q, q = readK n (.value 1) (⟨0, xt, xa⟩ :: t) 0 := ⟨_, rfl⟩
 rw [<- hres] at hv4
 have HF2 := HF.out
 rw [<- hres] at HF2
 have HF3 := hid HF2
 obtain ⟨cs, L', m', f', rfl, hT, hI4, hO4, hA4, hm4⟩ := hv4
 have hs4 := hA4.size
 have hB4 : Below w.heap.size w w4 := HB3.out.trans (hA4.below HB3.out.size (fun i hi => by omega))
 have HT4 := hid ((hA4.block _ (by omega) (by omega)).trans HT3.out)
 have HU4 := hid ((hA4.block _ (by omega) (by omega)).trans HU3.out)
 have HB4 := hid hB4
 have HI4 := hid hI4
 obtain ⟨u0, u1, u2, u3, U4, u4, u44, U5, u5, u55, rfl⟩ := hT
 have hG : (f'.code ≠ 0 /\ r = (f', treeZ)) ∨ (f' = flt0 /\ ∃ t5, (L' = [] -> r = (flt0, t5)) /\ (∀ y q, L' = y :: q -> r = (fltA 4 y.at', treeZ)) /\ OwnT 9 (fun x => w3.heap.size <= x /\ x < w4.heap.size) w4 t5 [.int .i64 u0, .bool u1, .int .i64 u2, .string u3, .slice U4 u4 u44, .slice U5 u5 u55]) := by
  rcases res with fb | ⟨t5, L5, m5⟩
  ·obtain ⟨rfl, hne⟩ := hm4
   exact .inl ⟨hne, HF3.out⟩
  ·obtain ⟨e1, e2, e3, e4⟩ := hm4
   refine .inr ⟨e1, t5, fun e => ?_, fun y q e => ?_, e4⟩
   ·subst e2
    subst e
    exact HF3.out
   ·subst e2
    subst e
    exact HF3.out
 have HG := hid hG
 clear hA4 hB4 hI4 hm4 hG hres HF2 hO4
 obtain ⟨p4, hbx⟩ := HI4.out.open
 have hpos := hbx.pos
 obtain ⟨a0, a1, a2, a3, a4, a5, af⟩ := row6 hbx.row
 have lb := row_lt hbx.row
 have HLn := hid hbx.line
 have lg4 := hbx.lines
 obtain ⟨x0, x1, x2, x3, x4, x5, xf⟩ := row6 HT4.out
 obtain ⟨y0, y1, y2, yf⟩ := row3 HU4.out
 have l0 := row_lt HT4.out
 have l1 := row_lt HU4.out
 obtain ⟨fc, fa, fp⟩ := f'
 simp only at a3 a4 a5
 clear hbx
 rcases L' with _ | ⟨⟨yi, yt, ya⟩, q⟩
 ·obtain rfl : p4 = N := by simpa using hpos
  rcases HG.out with ⟨hne, hre⟩ | ⟨he, t5, hre, -, hown⟩
  ·have d1 : (fc != 0) = true := bne_iff_ne.2 hne
   have d2 : (fc == 0) = false := beq_eq_false_iff_ne.2 hne
   have HRe := hid hre
   clear hne hre
   go_upto_region 13 with fail
   go_region_law (fail)
   all_goals
    (try go_wp2_with fail)
    exact bodyPost_ret (v := .tuple #[.agg #[.int .i64 0, .bool false, .int .i64 0, .string ⟨#[]⟩, .slice none 0 0, .slice none 0 0], .agg #[.int .i64 fc, .int .i64 fa, .string fp]]) (by simp only [results, Tryz.results18]; go_simp) rfl (ReadE.bad HRe.out (have hb04 := HB4.out; bel))
  ·have HRe := hid (hre rfl)
   have HOwn := hid hown
   cases he
   clear hre hown
   go_wp2_with fail
   exact bodyPost_ret (v := .tuple #[.agg #[.int .i64 u0, .bool u1, .int .i64 u2, .string u3, .slice U4 u4 u44, .slice U5 u5 u55], .agg #[.int .i64 0, .int .i64 0, .string ⟨#[]⟩]]) (by simp only [results, Tryz.results18]; go_simp) rfl ⟨[.int .i64 u0, .bool u1, .int .i64 u2, .string u3, .slice U4 u4 u44, .slice U5 u5 u55], by rw [HRe.out]; rfl, by rw [HRe.out]; exact (HOwn.out.up (by decide)).carry (fun q hq => Aside.block (S := fun q => q = w.heap.size ∨ q = w.heap.size + 1) asd q hq.2 (by omega)) (fun q hq => ⟨by omega, by simp; omega⟩), (have hb04 := HB4.out; bel)⟩
 ·have hpN : (p4 : Int) < N := by rw [List.length_cons] at hpos; omega
  have hp0 : (0 : Int) <= p4 := by omega
  obtain ⟨c0, c1, c2, cf⟩ := HLn.out _ _ rfl
  simp only at c0 c1 c2
  go_wp2_with fail
  have HI5 := hid (HI4.out.below (w' := w4.alloc (.cells #[.int .i64 u0, .bool u1, .int .i64 u2, .string u3, .slice U4 u4 u44, .slice U5 u5 u55] 34)) bel)
  refine (c_in_fail w2.heap.size g N c _ m' ⟨fc, fa, fp⟩ 4 ya _ HI5.out).mono ?_
  rintro e w5 ⟨rfl, hI5, hA5⟩
  obtain ⟨F5, hF5⟩ : ∃ F5, F5 = failF ⟨fc, fa, fp⟩ 4 ya := ⟨_, rfl⟩
  rw [<- hF5] at hI5
  have hG5 : F5.code ≠ 0 /\ r = (F5, treeZ) := by
   rcases HG.out with ⟨hne, hre⟩ | ⟨he, t5, -, hre, -⟩
   ·have e : F5 = ⟨fc, fa, fp⟩ := hF5.trans (if_neg hne)
    subst e
    exact ⟨hne, hre⟩
   ·have e : F5 = fltA 4 ya := by rw [hF5, he]; exact if_pos rfl
    subst e
    exact ⟨by show (4 : Int) ≠ 0; decide, hre _ _ rfl⟩
  have HB5 := hid (show Below w.heap.size w w5 from (HB4.out.trans (have hle := HB4.out.size; Below.alloc (Below.refl _ _) hle _)).trans (hA5.below (by have := HB4.out.size; simp; omega) (fun i hi => by omega)))
  have HT5 := hid ((hA5.block _ (by simp; omega) (by omega)).trans ((Below.heap_alloc _ _ _ (by omega)).trans HT4.out))
  have HU5 := hid ((hA5.block _ (by simp; omega) (by omega)).trans ((Below.heap_alloc _ _ _ (by omega)).trans HU4.out))
  have HG5 := hid hG5
  obtain ⟨p5, hbx⟩ := hI5.open
  clear a0 a1 a2 a3 a4 a5 af lb x0 x1 x2 x3 x4 x5 xf y0 y1 y2 yf l0 l1 c0 c1 c2 cf hI5 hA5 hF5 hG5
  obtain ⟨a0, a1, a2, a3, a4, a5, af⟩ := row6 hbx.row
  have lb := row_lt hbx.row
  obtain ⟨x0, x1, x2, x3, x4, x5, xf⟩ := row6 HT5.out
  obtain ⟨y0, y1, y2, yf⟩ := row3 HU5.out
  have l0 := row_lt HT5.out
  have l1 := row_lt HU5.out
  obtain ⟨gc, ga, gp⟩ := F5
  simp only at a3 a4 a5
  have d1 : (gc != 0) = true := bne_iff_ne.2 HG5.out.1
  have d2 : (gc == 0) = false := beq_eq_false_iff_ne.2 HG5.out.1
  clear hbx
  go_upto_region 13 with fail
  go_region_law (fail)
  all_goals
   (try go_wp2_with fail)
   exact bodyPost_ret (v := .tuple #[.agg #[.int .i64 0, .bool false, .int .i64 0, .string ⟨#[]⟩, .slice none 0 0, .slice none 0 0], .agg #[.int .i64 gc, .int .i64 ga, .string gp]]) (by simp only [results, Tryz.results18]; go_simp) rfl (ReadE.bad HG5.out.2 (have hb05 := HB5.out; bel))
theorem all_ins (b g N cap : Nat) : ∀ n, T_vS b g N cap n /\ T_bS b g N cap n /\ T_lS b g N cap n /\ T_pS b g N cap n := by
 intro n
 induction n using Nat.strongRecOn with
 | ind n ih =>
  have hv : T_vS b g N cap n := by
   cases n with
   | zero => intro d x r m w _ _ _ _ hn; unfold needI at hn; simp only at hn; omega
   | succ n => exact of_insValue b g N cap n (ih n (Nat.lt_succ_self n)).2.2.1 (ih n (Nat.lt_succ_self n)).2.2.2
  have hb : T_bS b g N cap n := by
   cases n with
   | zero => intro i d a r m w _ _ _ _ hn; unfold needI at hn; simp only at hn; omega
   | succ n => exact of_insBelow b g N cap n (ih n (Nat.lt_succ_self n)).1
  exact ⟨hv, hb, of_insList b g N cap n (fun k hk => (ih k hk).2.1) (fun k hk => (ih k hk).1), of_insMap b g N cap n (fun k hk => (ih k hk).2.1)⟩
theorem linesF_small {s : ByteArray} (h : (linesF s).2.code = 0) : s.size <= 20000 := by
 unfold linesF at h
 by_cases c : (textF s).code ≠ 0
 ·rw [if_pos c] at h; exact absurd h c
 ·exact textF_zero (by omega)
theorem c_spec_ReadIndented (s : ByteArray) (w : World) (hs : s.size <= 1048576) :
  Calls Tryz.prog 19 #[.string s] w (ReadE (readIn s) w) := by
 have HLI := hid (fun (W : World) => c_spec_LinesIn s W hs)
 obtain ⟨⟨lf, la, lp⟩, hlf⟩ : ∃ f, f = (linesF s).2 := ⟨_, rfl⟩
 obtain ⟨L, hL⟩ : ∃ L, L = (linesF s).1 := ⟨_, rfl⟩
 have hpair : linesF s = (L, ⟨lf, la, lp⟩) := by rw [hL, hlf]
 rw [hpair] at HLI
 obtain ⟨r, hr⟩ : ∃ r, r = readIn s := ⟨_, rfl⟩
 rw [<- hr]
 have HR := hid hr
 have HLf := hid (And.intro hlf hL)
 clear hlf hL hpair hr
 by_cases hc : lf = 0
 rotate_left
 ·have d1 : (lf != 0) = true := bne_iff_ne.2 hc
  have d2 : (lf == 0) = false := beq_eq_false_iff_ne.2 hc
  have HF := hid (show r = (⟨lf, la, lp⟩, treeZ) by rw [HR.out, readIn_fault (by rw [<- HLf.out.1]; exact hc), <- HLf.out.1])
  clear hc
  go_enter Tryz.func19, Tryz.ntmps19
  go_wp2_with fail
  refine (HLI.out _).mono ?_
  rintro e w1 ⟨A, c, rfl, -, hb1⟩
  simp only [fltC]
  have HT1 := hid ((hb1.block w.heap.size (by simp; omega)).trans ((Below.heap_alloc _ _ _ (by simp)).trans (heap_at (w := w) (o := .cells #[.int .i64 0, .bool false, .int .i64 0, .string ⟨#[]⟩, .slice none 0 0, .slice none 0 0] 34) rfl)))
  have HU1 := hid ((hb1.block (w.heap.size + 1) (by simp)).trans (heap_at (w := w.alloc (.cells #[.int .i64 0, .bool false, .int .i64 0, .string ⟨#[]⟩, .slice none 0 0, .slice none 0 0] 34)) (o := .cells #[.int .i64 0, .int .i64 0, .string ⟨#[]⟩] 23) (by simp)))
  have HB1 := hid (bel : Below w.heap.size w w1)
  obtain ⟨x0, x1, x2, x3, x4, x5, xf⟩ := row6 HT1.out
  obtain ⟨y0, y1, y2, yf⟩ := row3 HU1.out
  have l0 := row_lt HT1.out
  have l1 := row_lt HU1.out
  clear hb1
  go_wp2_with fail
  go_region_law (fail)
  all_goals
   (try go_wp2_with fail)
   exact bodyPost_ret (v := .tuple #[.agg #[.int .i64 0, .bool false, .int .i64 0, .string ⟨#[]⟩, .slice none 0 0, .slice none 0 0], .agg #[.int .i64 lf, .int .i64 la, .string lp]]) (by simp only [results, Tryz.results19]; go_simp) rfl (ReadE.bad HF.out (have hb01 := HB1.out; bel))
 obtain rfl := hc
 have hcode : (linesF s).2.code = 0 := by rw [<- HLf.out.1]
 obtain ⟨hok, hlen⟩ := linesF_ok hcode
 rw [<- HLf.out.2] at hok hlen
 have HOk := hid hok
 have HC := hid hcode
 clear hok hcode
 go_enter Tryz.func19, Tryz.ntmps19
 go_wp2_with fail
 refine (HLI.out _).mono ?_
 rintro e w1 ⟨A, c, rfl, hrow, hb1⟩
 simp only [fltC]
 have HRow := hid hrow
 obtain ⟨N, hN⟩ : ∃ N, N = L.length := ⟨_, rfl⟩
 rw [<- hN]
 have HT1 := hid ((hb1.block w.heap.size (by simp; omega)).trans ((Below.heap_alloc _ _ _ (by simp)).trans (heap_at (w := w) (o := .cells #[.int .i64 0, .bool false, .int .i64 0, .string ⟨#[]⟩, .slice none 0 0, .slice none 0 0] 34) rfl)))
 have HU1 := hid ((hb1.block (w.heap.size + 1) (by simp)).trans (heap_at (w := w.alloc (.cells #[.int .i64 0, .bool false, .int .i64 0, .string ⟨#[]⟩, .slice none 0 0, .slice none 0 0] 34)) (o := .cells #[.int .i64 0, .int .i64 0, .string ⟨#[]⟩] 23) (by simp)))
 have HB1 := hid (bel : Below w.heap.size w w1)
 obtain ⟨x0, x1, x2, x3, x4, x5, xf⟩ := row6 HT1.out
 obtain ⟨y0, y1, y2, yf⟩ := row3 HU1.out
 have l0 := row_lt HT1.out
 have l1 := row_lt HU1.out
 clear hrow hb1
 rcases L with _ | ⟨x, t⟩
 ·obtain rfl : N = 0 := hN
  have HF0 := hid (HR.out.trans (readIn_empty HC.out HLf.out.2.symm))
  have hsz := linesF_small HC.out
  go_wp2_with fail
  obtain ⟨w1b, hw1b⟩ : ∃ W, W = w1.alloc (.cells #[.int .i64 0, .int .i64 la, .string lp] 23) := ⟨_, rfl⟩
  have hb1b : Below w1.heap.size w1 w1b := by rw [hw1b]; exact bel
  rw [<- hw1b]
  refine (c_l11Cut s w1b hsz).mono ?_
  rintro e w2 ⟨l, v, rfl, hl, -, hrw, hb2⟩
  obtain ⟨A2, c2, rfl⟩ := own_form hrw
  have HF := hid (show r = (fltA 4 l.length, treeZ) by rw [HF0.out, <- cutA_len s.data.toList [], <- hl, List.length_map])
  have hb12 := hb1b.trans (hb2.mono hb1b.size)
  have HT2 := hid ((hb12.block _ l0).trans HT1.out)
  have HU2 := hid ((hb12.block _ l1).trans HU1.out)
  have HB2 := hid (HB1.out.trans (hb12.mono HB1.out.size))
  clear hw1b hb1b hb2 hb12 hl hrw x0 x1 x2 x3 x4 x5 xf y0 y1 y2 yf
  obtain ⟨x0, x1, x2, x3, x4, x5, xf⟩ := row6 HT2.out
  obtain ⟨y0, y1, y2, yf⟩ := row3 HU2.out
  have l02 := row_lt HT2.out
  have l12 := row_lt HU2.out
  go_wp2_with fail
  exact bodyPost_ret (v := .tuple #[.agg #[.int .i64 0, .bool false, .int .i64 0, .string ⟨#[]⟩, .slice none 0 0, .slice none 0 0], .agg #[.int .i64 4, .int .i64 (l.length : Nat), .string ⟨#[]⟩]]) (by simp only [results, Tryz.results19]; go_simp) rfl (ReadE.bad HF.out (have hb02 := HB2.out; bel))
 have HN := hid hN
 have hN0 : 0 < N := by rw [hN]; exact Nat.succ_pos _
 have hNz : N <= 20001 := by rw [hN]; exact hlen
 obtain ⟨g, cap, cur, hv, hgb, hgr, hcap, -, -, hcell⟩ := HRow.out.row encLn_len (Nat.succ_pos _)
 simp only [Value.slice.injEq] at hv
 obtain ⟨rfl, -, rfl⟩ := hv
 have hgb2 : w.heap.size + 2 <= g := by simp at hgb; omega
 have lg := row_lt hgr
 have HGr := hid hgr
 have HCell := hid hcell
 have hc0 : w1.cell? ⟨g, 0, none⟩ = some (.int .i64 (x.ind : Nat)) := by
  have h := hcell 0 x rfl 0 (by decide)
  rw [cell_of_row _ _ _ _ _ _ hgr]
  simpa [encLn] using h
 have hc2 : w1.cell? ⟨g, 2, none⟩ = some (.int .i64 (x.at' : Nat)) := by
  have h := hcell 0 x rfl 2 (by decide)
  rw [cell_of_row _ _ _ _ _ _ hgr]
  simpa [encLn] using h
 have hcf : ∀ o, w1.frozen? ⟨g, o, none⟩ = false := fun o => frozen_row hgr o
 have hNI : (0 : Int) < N := by omega
 have e0 : ((N : Int) == 0) = false := beq_eq_false_iff_ne.2 (by omega)
 have e0' : (N == 0) = false := beq_eq_false_iff_ne.2 (by omega)
 have hcapN : N <= c := by rw [hN]; exact hcap
 obtain ⟨xi, xt, xa⟩ := x
 simp only at hc0 hc2
 clear hgb hgr hcell hN hlen hcap
 by_cases hx : xi = 0
 rotate_left
 ·have d1 : ((xi : Int) != 0) = true := bne_iff_ne.2 (by omega)
  have d2 : ((xi : Int) == 0) = false := beq_eq_false_iff_ne.2 (by omega)
  have d3 : (xi == 0) = false := beq_eq_false_iff_ne.2 hx
  have HF := hid (show r = (fltA 4 xa, treeZ) by rw [HR.out, readIn_ind HC.out HLf.out.2.symm hx])
  go_wp2_with fail
  go_region_law (fail)
  all_goals
   (try go_wp2_with fail)
   exact bodyPost_ret (v := .tuple #[.agg #[.int .i64 0, .bool false, .int .i64 0, .string ⟨#[]⟩, .slice none 0 0, .slice none 0 0], .agg #[.int .i64 4, .int .i64 (xa : Nat), .string ⟨#[]⟩]]) (by simp only [results, Tryz.results19]; go_simp) rfl (ReadE.bad HF.out (have hb01 := HB1.out; bel))
 obtain ⟨n, hn⟩ : ∃ n, n = 3 * costL (⟨xi, xt, xa⟩ :: t) + 3 := ⟨_, rfl⟩
 have hF := HR.out.trans (readIn_main HC.out HLf.out.2.symm hx)
 rw [<- hn] at hF
 have HF := hid hF
 have HNd := hid (show needI (.value 1) (⟨xi, xt, xa⟩ :: t) <= n from Nat.le_of_eq hn.symm)
 clear hn hF
 obtain rfl := hx
 have HAll := hid (fun (b : Nat) => (all_ins b g N c n).1)
 have HNe := hid hN0
 have hle1 := HB1.out.size
 clear hN0
 go_upto_region 8 with fail
 clear hc0 hc2
 obtain ⟨w2, hw2⟩ : ∃ W, W = w1.alloc (.cells #[.int .i64 0, .int .i64 la, .string lp] 23) := ⟨_, rfl⟩
 rw [<- hw2]
 have hb2 : Below w1.heap.size w1 w2 := by rw [hw2]; exact bel
 have hz2 : w1.heap.size < w2.heap.size := by rw [hw2]; simp
 have hz2a : w1.heap.size + 1 <= w2.heap.size := by rw [hw2]; simp
 have hz2b : w2.heap.size <= w1.heap.size + 1 := by rw [hw2]; simp
 obtain ⟨w3, hw3⟩ : ∃ W, W = w2.alloc (.cells #[.slice (some ⟨g, 0, none⟩) N c, .int .i64 0, .int .i64 0, .int .i64 0, .int .i64 0, .string ⟨#[]⟩] 67) := ⟨_, rfl⟩
 have HW3 := hid hw3
 have hb3 : Below w2.heap.size w2 w3 := by rw [hw3]; exact bel
 have hz3 : w2.heap.size < w3.heap.size := by rw [hw3]; simp
 have hI3 : InAt 67 w2.heap.size g N c (⟨0, xt, xa⟩ :: t) 0 flt0 w3 := ⟨0, cur, (Nat.zero_add _).trans HN.out.symm, hcapN, hNz, by omega, by rw [hw3]; exact heap_at rfl, (hb3.block _ (by omega)).trans ((hb2.block g lg).trans HGr.out), fun i x hx => by
  have h0 := HCell.out i x hx 0 (by decide)
  have h1 := HCell.out i x hx 1 (by decide)
  have h2 := HCell.out i x hx 2 (by decide)
  refine ⟨?_, ?_, ?_⟩
  ·simpa [encLn] using h0
  ·simpa [encLn] using h1
  ·simpa [encLn] using h2⟩
 have HI3 := hid hI3
 have HB3 := hid ((HB1.out.trans (hb2.mono HB1.out.size)).trans (hb3.mono (by have := HB1.out.size; omega)))
 have HT3 := hid ((hb3.block _ (by omega)).trans ((hb2.block _ l0).trans HT1.out))
 have HU3 := hid ((hb3.block _ (by omega)).trans ((hb2.block _ l1).trans HU1.out))
 have hsw : w.heap.size + 1 < w1.heap.size := l1
 clear hw2 hb2 hw3 hb3 hI3 x0 x1 x2 x3 x4 x5 xf y0 y1 y2 yf l0 l1
 go_wp2_with fail
 rw [<- HW3.out]
 refine (HAll.out w2.heap.size 1 _ _ 0 w3 (by decide) (by decide) (Nat.zero_le _) HOk.out HNd.out HI3.out).mono ?_
 intro e w4 hv4
 obtain ⟨res, hres⟩ : ∃ q, q = readK n (.value 1) (⟨0, xt, xa⟩ :: t) 0 := ⟨_, rfl⟩
 rw [<- hres] at hv4
 have HF2 := HF.out
 rw [<- hres] at HF2
 have HF3 := hid HF2
 obtain ⟨cs, L', m', f', rfl, hT, hI4, hO4, hA4, hm4⟩ := hv4
 have hs4 := hA4.size
 have hB4 : Below w.heap.size w w4 := HB3.out.trans (hA4.below HB3.out.size (fun i hi => by omega))
 have HT4 := hid ((hA4.block _ (by omega) (by omega)).trans HT3.out)
 have HU4 := hid ((hA4.block _ (by omega) (by omega)).trans HU3.out)
 have HB4 := hid hB4
 have HI4 := hid hI4
 obtain ⟨u0, u1, u2, u3, U4, u4, u44, U5, u5, u55, rfl⟩ := hT
 have hG : (f'.code ≠ 0 /\ r = (f', treeZ)) ∨ (f' = flt0 /\ ∃ t5, (L' = [] -> r = (flt0, t5)) /\ (∀ y q, L' = y :: q -> r = (fltA 4 y.at', treeZ)) /\ OwnT 9 (fun x => w3.heap.size <= x /\ x < w4.heap.size) w4 t5 [.int .i64 u0, .bool u1, .int .i64 u2, .string u3, .slice U4 u4 u44, .slice U5 u5 u55]) := by
  rcases res with fb | ⟨t5, L5, m5⟩
  ·obtain ⟨rfl, hne⟩ := hm4
   exact .inl ⟨hne, HF3.out⟩
  ·obtain ⟨e1, e2, e3, e4⟩ := hm4
   refine .inr ⟨e1, t5, fun e => ?_, fun y q e => ?_, e4⟩
   ·subst e2
    subst e
    exact HF3.out
   ·subst e2
    subst e
    exact HF3.out
 have HG := hid hG
 clear hA4 hB4 hI4 hm4 hG hres HF2 hO4
 go_upto_region 10 with fail
 obtain ⟨w5, hw5⟩ : ∃ W, W = w4.alloc (.cells #[.int .i64 u0, .bool u1, .int .i64 u2, .string u3, .slice U4 u4 u44, .slice U5 u5 u55] 34) := ⟨_, rfl⟩
 rw [<- hw5]
 have hb5 : Below w4.heap.size w4 w5 := by rw [hw5]; exact bel
 have HV5 := hid (show w5.heap[w4.heap.size]? = some (.cells #[.int .i64 u0, .bool u1, .int .i64 u2, .string u3, .slice U4 u4 u44, .slice U5 u5 u55] 34 (0, 0)) by rw [hw5]; exact heap_at rfl)
 have HI5 := hid (HI4.out.below hb5)
 have HT5 := hid ((hb5.block _ (row_lt HT4.out)).trans HT4.out)
 have HU5 := hid ((hb5.block _ (row_lt HU4.out)).trans HU4.out)
 have HB5 := hid (HB4.out.trans (hb5.mono HB4.out.size))
 have HBb5 := hid hb5
 have hs5 := hb5.size
 have lb2 := HI4.out.lt.1
 have lg2 := HI4.out.lt.2
 have lt4 := row_lt HT4.out
 have lu4 := row_lt HU4.out
 clear hw5 hb5
 obtain ⟨p4, hbx⟩ := HI5.out.open
 have hpos := hbx.pos
 obtain ⟨a0, a1, a2, a3, a4, a5, af⟩ := row6 hbx.row
 have lb := row_lt hbx.row
 have HLn := hid hbx.line
 have lg5 := hbx.lines
 clear hbx
 have hp0 : (0 : Int) <= p4 := by omega
 rcases HG.out with ⟨hne, hre⟩ | ⟨he, t5, hre1, hre2, hown⟩
 ·obtain ⟨fc, fa, fp⟩ := f'
  simp only at a3 a4 a5 hne
  have d1 : (fc != 0) = true := bne_iff_ne.2 hne
  have d2 : (fc == 0) = false := beq_eq_false_iff_ne.2 hne
  have HRe := hid hre
  clear hne hre
  refine wp_region_det 18 (by kernel_rfl) (by kernel_rfl) (by decide) ?_
  iterate 18 (apply Exists.intro; refine And.intro ?_ ?_; (focus (intro W hW; (try simp only [Act.put, List.setIfInBounds_toArray, List.set_cons_zero, List.set_cons_succ]); first | (exact wpList_skip rfl ⟨rfl, rfl, Below.refl _ _⟩) | (obtain ⟨hcW, hfW⟩ := bcell hW; have hsW := hW.size; (try simp at hsW); (try have hsW0 := lt_of_succ_le hsW); (try (have hsW1 := lt_pred hsW; (try (have hsW2 := lt_pred hsW1)))); go_wp2_with fail; exact ⟨rfl, rfl, bel⟩))))
  intro wd hbwd
  (try simp only [Act.put, List.setIfInBounds_toArray, List.set_cons_zero, List.set_cons_succ])
  (try simp only [List.drop_succ_cons, List.drop_nil])
  have HTd := hid ((hbwd.block _ (row_lt HT5.out)).trans HT5.out)
  have HUd := hid ((hbwd.block _ (row_lt HU5.out)).trans HU5.out)
  have HId := hid (HI5.out.below hbwd)
  have HBd := hid (HB5.out.trans (hbwd.mono HB5.out.size))
  clear hbwd a0 a1 a2 a3 a4 a5 af lb
  obtain ⟨pd, hbx⟩ := HId.out.open
  obtain ⟨a0, a1, a2, a3, a4, a5, af⟩ := row6 hbx.row
  simp only at a3 a4 a5
  have lb := row_lt hbx.row
  obtain ⟨x0, x1, x2, x3, x4, x5, xf⟩ := row6 HTd.out
  obtain ⟨y0, y1, y2, yf⟩ := row3 HUd.out
  have l0 := row_lt HTd.out
  have l1 := row_lt HUd.out
  clear hbx
  go_upto_region 13 with fail
  go_region_law (fail)
  all_goals
   (try go_wp2_with fail)
   exact bodyPost_ret (v := .tuple #[.agg #[.int .i64 0, .bool false, .int .i64 0, .string ⟨#[]⟩, .slice none 0 0, .slice none 0 0], .agg #[.int .i64 fc, .int .i64 fa, .string fp]]) (by simp only [results, Tryz.results19]; go_simp) rfl (ReadE.bad HRe.out (have hb0d := HBd.out; bel))
 ·subst he
  have a3' : w5.cell? ⟨w2.heap.size, 3, none⟩ = some (.int .i64 0) := a3
  clear a3
  rcases L' with _ | ⟨⟨yi, yt, ya⟩, q⟩
  ·obtain rfl : p4 = N := by simpa using hpos
   have HRe := hid (hre1 rfl)
   have HOwn := hid (hown.carry (w' := w5) (fun q hq => HBb5.out.block q hq.2) (fun _ h => h))
   have hNN : decide ((p4 : Int) < p4) = false := decide_eq_false (by omega)
   have hNN2 : decide (p4 < p4) = false := decide_eq_false (by omega)
   clear hre1 hre2 hown hpos HLn HG HI4 HI3 HAll HNe HW3
   refine wp_region_det 18 (by kernel_rfl) (by kernel_rfl) (by decide) ?_
   iterate 18 (apply Exists.intro; refine And.intro ?_ ?_; (focus (intro W hW; (try simp only [Act.put, List.setIfInBounds_toArray, List.set_cons_zero, List.set_cons_succ]); first | (exact wpList_skip rfl ⟨rfl, rfl, Below.refl _ _⟩) | (obtain ⟨hcW, hfW⟩ := bcell hW; have hsW := hW.size; (try simp at hsW); (try have hsW0 := lt_of_succ_le hsW); (try (have hsW1 := lt_pred hsW; (try (have hsW2 := lt_pred hsW1)))); go_wp2_with fail; exact ⟨rfl, rfl, bel⟩))))
   intro wd hbwd
   (try simp only [Act.put, List.setIfInBounds_toArray, List.set_cons_zero, List.set_cons_succ])
   (try simp only [List.drop_succ_cons, List.drop_nil])
   have HTd := hid ((hbwd.block _ (row_lt HT5.out)).trans HT5.out)
   have HUd := hid ((hbwd.block _ (row_lt HU5.out)).trans HU5.out)
   have HVd := hid ((hbwd.block _ (row_lt HV5.out)).trans HV5.out)
   have HId := hid (HI5.out.below hbwd)
   have HBd := hid (HB5.out.trans (hbwd.mono HB5.out.size))
   have HOwn2 := hid (HOwn.out.carry (w' := wd) (fun q hq => hbwd.block q (by omega)) (fun _ h => h))
   have hsd := hbwd.size
   clear hbwd a0 a1 a2 a3' a4 a5 af lb
   obtain ⟨pd, hbx⟩ := HId.out.open
   obtain ⟨a0, a1, a2, a3, a4, a5, af⟩ := row6 hbx.row
   have a3' : wd.cell? ⟨w2.heap.size, 3, none⟩ = some (.int .i64 0) := a3
   have lb := row_lt hbx.row
   obtain ⟨x0, x1, x2, x3, x4, x5, xf⟩ := row6 HTd.out
   obtain ⟨y0, y1, y2, yf⟩ := row3 HUd.out
   obtain ⟨z0, z1, z2, z3, z4, z5, zf⟩ := row6 HVd.out
   have l0 := row_lt HTd.out
   have l1 := row_lt HUd.out
   have l2 := row_lt HVd.out
   clear hbx a3
   go_wp2_with fail
   exact bodyPost_ret (v := .tuple #[.agg #[.int .i64 u0, .bool u1, .int .i64 u2, .string u3, .slice U4 u4 u44, .slice U5 u5 u55], .agg #[.int .i64 0, .int .i64 0, .string ⟨#[]⟩]]) (by simp only [results, Tryz.results19]; go_simp) rfl ⟨[.int .i64 u0, .bool u1, .int .i64 u2, .string u3, .slice U4 u4 u44, .slice U5 u5 u55], by rw [HRe.out]; rfl, by rw [HRe.out]; exact (HOwn2.out.up (by decide)).carry (fun q hq => Aside.block (S := fun q => q = w.heap.size ∨ q = w.heap.size + 1) asd q (by omega) (by omega)) (fun q hq => ⟨by omega, by simp; omega⟩), (have hb0d := HBd.out; bel)⟩
  ·have hpN : (p4 : Int) < N := by rw [List.length_cons] at hpos; omega
   have hdN : decide ((p4 : Int) < N) = true := decide_eq_true hpN
   have hdN2 : decide (p4 < N) = true := decide_eq_true (by omega)
   have HRe := hid (show r = (fltA 4 ya, treeZ) from hre2 _ _ rfl)
   clear hre1 hre2 hown HLn HG HI4 HI3 HAll HNe HW3
   refine wp_region_det 18 (by kernel_rfl) (by kernel_rfl) (by decide) ?_
   iterate 18 (apply Exists.intro; refine And.intro ?_ ?_; (focus (intro W hW; (try simp only [Act.put, List.setIfInBounds_toArray, List.set_cons_zero, List.set_cons_succ]); first | (exact wpList_skip rfl ⟨rfl, rfl, Below.refl _ _⟩) | (obtain ⟨hcW, hfW⟩ := bcell hW; have hsW := hW.size; (try simp at hsW); (try have hsW0 := lt_of_succ_le hsW); (try (have hsW1 := lt_pred hsW; (try (have hsW2 := lt_pred hsW1)))); go_wp2_with fail; exact ⟨rfl, rfl, bel⟩))))
   intro wd hbwd
   (try simp only [Act.put, List.setIfInBounds_toArray, List.set_cons_zero, List.set_cons_succ])
   (try simp only [List.drop_succ_cons, List.drop_nil])
   have HTd := hid ((hbwd.block _ (row_lt HT5.out)).trans HT5.out)
   have HUd := hid ((hbwd.block _ (row_lt HU5.out)).trans HU5.out)
   have HId := hid (HI5.out.below hbwd)
   have HBd := hid (HB5.out.trans (hbwd.mono HB5.out.size))
   have hsd := hbwd.size
   clear hbwd a0 a1 a2 a3' a4 a5 af lb
   obtain ⟨pd, hbx⟩ := HId.out.open
   obtain rfl : pd = p4 := by have := hbx.pos; omega
   obtain ⟨a0, a1, a2, a3, a4, a5, af⟩ := row6 hbx.row
   have lb := row_lt hbx.row
   have lgd := hbx.lines
   obtain ⟨c0, c1, c2, cf⟩ := hbx.line _ _ rfl
   simp only at c0 c1 c2
   clear hbx
   go_upto_if 59 with (fail)
   go_cut [] from 60 to 72 (fun wx => InAt 67 w2.heap.size g N c (⟨yi, yt, ya⟩ :: q) m' (fltA 4 ya) wx /\ Aside (fun z => z = w2.heap.size) wd wx)
   case first =>
    go_upto_region 11 with fail
    go_region_law (go_simp; go_at_call 56; refine (c_ins_bad w2.heap.size g N c _ m' flt0 4 ya _ (HId.out.below bel)).mono ?_; rintro e6 w6 ⟨rfl, hI6, hA6⟩)
    all_goals
     (try go_wp2_with fail)
     go_meet
     exact ⟨hI6, (Aside.of_below (bel : Below wd.heap.size wd _)).trans hA6⟩
   case rest =>
    obtain ⟨hI6, hA6⟩ := hcut
    have hs6 := hA6.size
    have HT6 := hid ((hA6.block _ (row_lt HTd.out) (by omega)).trans HTd.out)
    have HU6 := hid ((hA6.block _ (row_lt HUd.out) (by omega)).trans HUd.out)
    have HB6 := hid (HBd.out.trans (hA6.below HBd.out.size (fun i hi => by omega)))
    clear a0 a1 a2 a3 a4 a5 af lb lgd c0 c1 c2 cf
    obtain ⟨p6, hbx⟩ := hI6.open
    obtain ⟨a0, a1, a2, a3, a4, a5, af⟩ := row6 hbx.row
    have lb := row_lt hbx.row
    have a3' : wc.cell? ⟨w2.heap.size, 3, none⟩ = some (.int .i64 4) := a3
    have a4' : wc.cell? ⟨w2.heap.size, 4, none⟩ = some (.int .i64 (ya : Nat)) := a4
    have a5' : wc.cell? ⟨w2.heap.size, 5, none⟩ = some (.string ⟨#[]⟩) := a5
    obtain ⟨x0, x1, x2, x3, x4, x5, xf⟩ := row6 HT6.out
    obtain ⟨y0, y1, y2, yf⟩ := row3 HU6.out
    have l0 := row_lt HT6.out
    have l1 := row_lt HU6.out
    clear hbx hI6 hA6 a3 a4 a5
    go_upto_region 13 with fail
    go_region_law (fail)
    all_goals
     (try go_wp2_with fail)
     exact bodyPost_ret (v := .tuple #[.agg #[.int .i64 0, .bool false, .int .i64 0, .string ⟨#[]⟩, .slice none 0 0, .slice none 0 0], .agg #[.int .i64 4, .int .i64 (ya : Nat), .string ⟨#[]⟩]]) (by simp only [results, Tryz.results19]; go_simp) rfl (ReadE.bad HRe.out (have hb06 := HB6.out; bel))
def okI (s : ByteArray) : Bool := (readIn s).1.code == 0
theorem c_impl_IndentedOk (s : ByteArray) (w : World) (hs : s.size <= 1048576) (hV : CTab w) (hT : Tabs w) (hE : ErrR w) (hM : MaxL w) :
  Calls Tryz.prog 21 #[.string s] w fun e w' => e = .returned (.bool (okI s)) /\ Below w.heap.size w w' := by
 have HI := hid (c_impl_ReadIndented s w hs hV hT hE hM)
 have HF := hid (show okI s = ((readIn s).1.code == 0) from rfl)
 obtain ⟨r, hr⟩ : ∃ r, r = readIn s := ⟨_, rfl⟩
 rw [<- hr] at HI HF
 clear hV hT hE hM hr
 obtain ⟨⟨fc, fa, fp⟩, t⟩ := r
 go_enter Tryz.func21, Tryz.ntmps21
 go_wp2_with fail
 refine HI.out.mono ?_
 rintro e w1 ⟨cs, rfl, hO, hb1⟩
 obtain ⟨U4, u44, U5, u55, rfl, -⟩ := hO.flat
 clear hO
 have hrf : fltC (⟨fc, fa, fp⟩ : Flt) = #[.int .i64 fc, .int .i64 fa, .string fp] := rfl
 simp only [hrf]
 clear hrf
 go_wp2_with fail
 go_ret
 exact ⟨ret_bool HF.out.symm, bel⟩
theorem c_spec_IndentedOk (s : ByteArray) (w : World) (hs : s.size <= 1048576) :
  Calls Tryz.prog 39 #[.string s] w fun e w' => e = .returned (.bool (okI s)) /\ Below w.heap.size w w' := by
 have HI := hid (c_spec_ReadIndented s w hs)
 have HF := hid (show okI s = ((readIn s).1.code == 0) from rfl)
 obtain ⟨r, hr⟩ : ∃ r, r = readIn s := ⟨_, rfl⟩
 rw [<- hr] at HI HF
 clear hr
 obtain ⟨⟨fc, fa, fp⟩, t⟩ := r
 go_enter Tryz.func39, Tryz.ntmps39
 go_wp2_with fail
 refine HI.out.mono ?_
 rintro e w1 ⟨cs, rfl, hO, hb1⟩
 obtain ⟨U4, u44, U5, u55, rfl, -⟩ := hO.flat
 clear hO
 have hrf : fltC (⟨fc, fa, fp⟩ : Flt) = #[.int .i64 fc, .int .i64 fa, .string fp] := rfl
 simp only [hrf]
 clear hrf
 go_wp2_with fail
 go_ret
 exact ⟨ret_bool HF.out.symm, bel⟩
theorem w_FnExactIndentedOk (d0 : ByteArray) (v0 : Value) (w : World) (h0 : R_Str w d0 v0) (hE : ErrR w) (hT : Tabs w) (hV : CTab w) (hM : MaxL w) :
  Calls Tryz.prog 8 #[v0] w fun e w' => e = .returned (.bool true) /\ Below w.heap.size w w' := by
 obtain ⟨rfl, hs⟩ := h0
 have HC := hid (And.intro hV (And.intro hT (And.intro hE hM)))
 clear hV hT hE hM
 by_cases hq : d0.size <= 1048576
 ·have hq1 : decide ((1048576 : Int) < d0.size) = false := decide_eq_false (by omega)
  go_enter Tryz.func8, Tryz.ntmps8
  go_wp2_with fail
  refine (c_spec_IndentedOk d0 _ hq).mono ?_
  rintro e w1 ⟨rfl, hb1⟩
  go_wp2_with fail
  refine (c_impl_IndentedOk d0 _ hq (HC.out.1.below hb1) (HC.out.2.1.below hb1) (HC.out.2.2.1.below hb1) (HC.out.2.2.2.below hb1)).mono ?_
  rintro e w2 ⟨rfl, hb2⟩
  go_wp2_with fail
  go_ret
  exact ⟨rfl, ext_trans hb1 hb2⟩
 ·have hq1 : decide ((1048576 : Int) < d0.size) = true := decide_eq_true (by omega)
  go_enter Tryz.func8, Tryz.ntmps8
  go_wp2_with fail
  go_ret
  exact ⟨rfl, Below.refl _ _⟩
theorem readIn_flt (s : ByteArray) (h : (readIn s).1.code = 0) : (readIn s).1 = flt0 := by
 by_cases hf : (linesF s).2.code = 0
 rotate_left
 ·rw [readIn_fault hf] at h
  exact absurd h hf
 rcases hL : (linesF s).1 with _ | ⟨x, r⟩
 ·rw [readIn_empty hf hL] at h
  exact absurd (show (4 : Int) = 0 from h) (by decide)
 by_cases hx : x.ind = 0
 rotate_left
 ·rw [readIn_ind hf hL hx] at h
  exact absurd (show (4 : Int) = 0 from h) (by decide)
 rw [readIn_main hf hL hx] at h ⊢
 rcases hk : readK (3 * costL (x :: r) + 3) (.value 1) (x :: r) 0 with f | ⟨t, L, m⟩
 ·rw [hk] at h
  exact absurd h (readK_code _ _ _ _ _ hk (Nat.le_refl _) (by unfold jobNe; simp))
 ·rcases L with _ | ⟨y, q⟩
  ·rfl
  ·rw [hk] at h
   exact absurd (show (4 : Int) = 0 from h) (by decide)
theorem readIn_tree (s : ByteArray) (h : ¬ (readIn s).1.code = 0) : (readIn s).2 = treeZ := by
 by_cases hf : (linesF s).2.code = 0
 rotate_left
 ·rw [readIn_fault hf]
 rcases hL : (linesF s).1 with _ | ⟨x, r⟩
 ·rw [readIn_empty hf hL]
 by_cases hx : x.ind = 0
 rotate_left
 ·rw [readIn_ind hf hL hx]
 rw [readIn_main hf hL hx] at h ⊢
 rcases hk : readK (3 * costL (x :: r) + 3) (.value 1) (x :: r) 0 with f | ⟨t, L, m⟩
 ·rfl
 ·rcases L with _ | ⟨y, q⟩
  ·rw [hk] at h
   exact absurd rfl h
  ·rfl
theorem size_readIn (s : ByteArray) : sizeT 10 (readIn s).2 <= 1073741824 := by
 by_cases h : (readIn s).1.code = 0
 ·have := (okT_parts (readIn_ok h).1).1
  omega
 ·rw [readIn_tree s h]
  decide
theorem toL_len (s : ByteArray) : s.data.toList.length = s.size := Array.length_toList
theorem bad_kids {d : TreeD} (h : badH d = false) : d.kind <= 6 /\ (d.kind < 5 -> d.kids = []) := by
 unfold badH at h
 simp only [Bool.or_eq_false_iff, Bool.not_eq_false', Bool.and_eq_false_iff, bne_eq_false_iff_eq, decide_eq_false_iff_not, Nat.not_lt, Nat.le_zero, List.length_eq_zero_iff] at h
 obtain ⟨⟨⟨⟨⟨h1, -⟩, -⟩, -⟩, -⟩, h6⟩ := h
 refine ⟨?_, fun hk => h6.resolve_right (by omega)⟩
 unfold inB at h1
 exact (of_decide_eq_true h1).2
theorem linesT_leaf {n : Nat} {d : TreeD} (h : d.kids = []) : linesT (n + 1) d = [(scalText d).data.toList] := by rw [linesT, if_pos h]
theorem linesT_kids {n : Nat} {d : TreeD} (h : d.kids ≠ []) : linesT (n + 1) d = manyL (kidLines (linesT n) d) d.kids.length := by rw [linesT, if_neg h]
theorem key_big {s : ByteArray} (h : s.size <= 400) : (keyText s).size <= 2402 := by
 unfold keyText
 split
 ·omega
 ·have := quote_len s
  have e : (quoteB s).data.toList.length = (quoteB s).size := Array.length_toList
  omega
theorem strB_size {s : ByteArray} (h : strB s = true) : s.size <= 400 := by
 unfold strB at h
 simp only [Bool.and_eq_true, decide_eq_true_eq] at h
 exact h.1
theorem scal_big {n : Nat} {d : TreeD} (h : shapeT (n + 1) d = true) (hn : numT (n + 1) d) : (scalText d).size <= 2402 := by
 unfold scalText
 split
 ·exact key_big (strB_size (shape_parts h).2.1)
 split
 ·decide
 split
 ·decide
 split
 ·decide
 split
 ·split <;> decide
 ·have := decS_size _ hn.1
  omega
structure LinB (n : Nat) (d : TreeD) : Prop where
 hd : ∃ x r, linesT n d = x :: r
 many : (linesT n d).length <= sizeT n d
 more : d.kids ≠ [] -> (linesT n d).length + 1 <= sizeT n d
 long : ∀ x ∈ linesT n d, x.length <= 4806 + 2 * depthT n d
 leaf : d.kids = [] -> ∀ x ∈ linesT n d, x.length <= 2402
theorem blank2_len (L : List (List UInt8)) : (blank2 L).length = L.length := List.length_map _
theorem kid_one {f : TreeD -> List (List UInt8)} {d t : TreeD} {i : Nat} {k : ByteArray} (h6 : d.kind = 6) (ht : d.kids[i]? = some t) (hk : d.keys[i]? = some k) (hl : t.kids = []) : kidLines f d i = [(keyText k).data.toList ++ [58, 32] ++ (f t).headD []] := by
 unfold kidLines
 rw [ht]
 simp only [if_pos h6, hk, if_pos hl]
theorem kid_more {f : TreeD -> List (List UInt8)} {d t : TreeD} {i : Nat} {k : ByteArray} (h6 : d.kind = 6) (ht : d.kids[i]? = some t) (hk : d.keys[i]? = some k) (hl : t.kids ≠ []) : kidLines f d i = ((keyText k).data.toList ++ [58]) :: blank2 (f t) := by
 unfold kidLines
 rw [ht]
 simp only [if_pos h6, hk, if_neg hl]
theorem kid_item {f : TreeD -> List (List UInt8)} {d t : TreeD} {i : Nat} {x : List UInt8} {r : List (List UInt8)} (h6 : d.kind ≠ 6) (ht : d.kids[i]? = some t) (hx : f t = x :: r) : kidLines f d i = ([45, 32] ++ x) :: blank2 r := by
 unfold kidLines
 rw [ht]
 simp only [if_neg h6, hx]
theorem kind_kids {n : Nat} {d : TreeD} (h : shapeT (n + 1) d = true) (hk : d.kids ≠ []) : d.kind = 5 ∨ (d.kind = 6 /\ d.keys.length = d.kids.length) := by
 obtain ⟨h1, -, h3, -, -⟩ := shape_parts h
 obtain ⟨k2, p6⟩ := bad_kids h1
 by_cases c : d.kind = 6
 ·right
  refine ⟨c, ?_⟩
  unfold lensOk at h3
  simp [c] at h3
  exact h3
 ·left
  by_cases c5 : d.kind < 5
  ·exact absurd (p6 c5) hk
  ·omega
theorem kid_lin {n i : Nat} {d t : TreeD} (h : shapeT (n + 1) d = true) (ht : d.kids[i]? = some t) (hb : LinB n t) :
  (∃ x r, kidLines (linesT n) d i = x :: r) /\ (kidLines (linesT n) d i).length <= sizeT n t /\ ∀ x ∈ kidLines (linesT n) d i, x.length <= 4806 + 2 * depthT (n + 1) d := by
 have hne : d.kids ≠ [] := fun e => by rw [e] at ht; cases ht
 obtain ⟨x, r, hx⟩ := hb.hd
 have hdk := (depth_kid (n := n) ht).2
 have hbl : ∀ L : List (List UInt8), (∀ z ∈ L, z.length <= 4806 + 2 * depthT n t) -> ∀ y ∈ blank2 L, y.length <= 4806 + 2 * depthT (n + 1) d := fun L hL y hy => by
  have hdk := (depth_kid (n := n) ht).2
  unfold blank2 at hy
  obtain ⟨z, hz, rfl⟩ := List.mem_map.1 hy
  have := hL z hz
  simp only [List.length_append, List.length_cons, List.length_nil]
  omega
 rcases kind_kids h hne with h5 | ⟨h6, hl⟩
 ·rw [kid_item (by omega) ht hx]
  refine ⟨⟨_, _, rfl⟩, ?_, fun y hy => ?_⟩
  ·have := hb.many
   rw [hx] at this
   simp only [List.length_cons, blank2_len] at this ⊢
   omega
  ·have h1 := hb.long
   rw [hx] at h1
   rcases List.mem_cons.1 hy with rfl | hy
   ·have := h1 x (by simp)
    simp only [List.length_append, List.length_cons, List.length_nil]
    omega
   ·exact hbl r (fun z hz => h1 z (by simp [hz])) y hy
 ·obtain ⟨k, hk⟩ := exists_at (show i < d.keys.length by have := (List.getElem?_eq_some_iff.1 ht).1; omega)
  have hkz := key_big (shape_key h hk)
  rw [<- toL_len] at hkz
  by_cases hlf : t.kids = []
  ·rw [kid_one h6 ht hk hlf]
   refine ⟨⟨_, _, rfl⟩, ?_, fun y hy => ?_⟩
   ·have := hb.many
    rw [hx] at this
    simp only [List.length_cons, List.length_nil] at this ⊢
    omega
   ·rcases List.mem_singleton.1 hy with rfl
    have := hb.leaf hlf x (by rw [hx]; simp)
    rw [hx]
    simp only [List.length_append, List.length_cons, List.length_nil, List.headD_cons]
    omega
  ·rw [kid_more h6 ht hk hlf]
   refine ⟨⟨_, _, rfl⟩, ?_, fun y hy => ?_⟩
   ·have := hb.more hlf
    simp only [List.length_cons, blank2_len]
    omega
   ·rcases List.mem_cons.1 hy with rfl | hy
    ·simp only [List.length_append, List.length_cons, List.length_nil]
     omega
    ·exact hbl _ hb.long y hy
theorem many_lin {g : Nat -> List (List UInt8)} {f : TreeD -> Nat} {l : List TreeD} {m : Nat} : ∀ k, k <= l.length -> (∀ i t, i < k -> l[i]? = some t -> (g i).length <= f t /\ ∀ x ∈ g i, x.length <= m) -> (manyL g k).length <= szL f (l.take k) /\ ∀ x ∈ manyL g k, x.length <= m
 | 0, _, _ => ⟨Nat.zero_le _, fun x hx => by cases hx⟩
 | k + 1, hk, h => by
  obtain ⟨h1, h2⟩ := many_lin k (by omega) (fun i t hi => h i t (by omega))
  obtain ⟨t, ht⟩ := exists_at (show k < l.length by omega)
  obtain ⟨h3, h4⟩ := h k t (Nat.lt_succ_self k) ht
  refine ⟨?_, fun x hx => ?_⟩
  ·rw [manyL, List.length_append, szL_take_succ f l k t ht]
   omega
  ·rw [manyL] at hx
   rcases List.mem_append.1 hx with hx | hx
   ·exact h2 x hx
   ·exact h4 x hx
theorem manyL_hd {g : Nat -> List (List UInt8)} {x : List UInt8} {r : List (List UInt8)} (h : g 0 = x :: r) : ∀ k, ∃ y q, manyL g (k + 1) = y :: q
 | 0 => ⟨x, r, by rw [manyL, manyL, h]; rfl⟩
 | k + 1 => by
  obtain ⟨y, q, e⟩ := manyL_hd h k
  exact ⟨y, q ++ g (k + 1), by rw [manyL, e]; rfl⟩
theorem lin_ok : ∀ (n : Nat) (d : TreeD), shapeT n d = true -> numT n d -> LinB n d
 | 0, _, h, _ => by cases h
 | n + 1, d, h, hn => by
  by_cases hk : d.kids = []
  ·have hs := scal_big h hn
   rw [<- toL_len] at hs
   refine ⟨⟨_, _, linesT_leaf hk⟩, ?_, fun e => absurd hk e, fun x hx => ?_, fun _ x hx => ?_⟩
   ·rw [linesT_leaf hk, sizeT_succ]
    simp only [List.length_cons, List.length_nil]
    omega
   ·rw [linesT_leaf hk] at hx
    rcases List.mem_singleton.1 hx with rfl
    omega
   ·rw [linesT_leaf hk] at hx
    rcases List.mem_singleton.1 hx with rfl
    exact hs
  ·have hall : ∀ i t, d.kids[i]? = some t -> (∃ x r, kidLines (linesT n) d i = x :: r) /\ (kidLines (linesT n) d i).length <= sizeT n t /\ ∀ x ∈ kidLines (linesT n) d i, x.length <= 4806 + 2 * depthT (n + 1) d := fun i t ht =>
    kid_lin h ht (lin_ok n t (shape_kid h ht) (hn.2 t (List.mem_of_getElem? ht)))
   have hpos : 0 < d.kids.length := List.length_pos_iff.2 hk
   obtain ⟨h1, h2⟩ := many_lin (g := kidLines (linesT n) d) (f := sizeT n) (l := d.kids) (m := 4806 + 2 * depthT (n + 1) d) d.kids.length (Nat.le_refl _) (fun i t _ ht => (hall i t ht).2)
   rw [List.take_of_length_le (Nat.le_refl _)] at h1
   have hm : (linesT (n + 1) d).length + 1 <= sizeT (n + 1) d := by
    rw [linesT_kids hk, sizeT_succ]
    omega
   refine ⟨?_, by omega, fun _ => hm, fun x hx => ?_, fun e => absurd e hk⟩
   ·obtain ⟨q, hq⟩ : ∃ q, d.kids.length = q + 1 := ⟨d.kids.length - 1, by omega⟩
    obtain ⟨t, ht⟩ := exists_at hpos
    obtain ⟨x, r, hx⟩ := (hall 0 t ht).1
    rw [linesT_kids hk, hq]
    exact manyL_hd hx q
   ·rw [linesT_kids hk] at hx
    exact h2 x hx
theorem manyL_next (g : Nat -> List (List UInt8)) (k : Nat) : manyL g (k + 1) = manyL g k ++ g k := rfl
def txts (L : List (List UInt8)) : List ByteArray := L.map bs
theorem txts_app (a b : List (List UInt8)) : txts (a ++ b) = txts a ++ txts b := List.map_append
theorem txts_len (L : List (List UInt8)) : (txts L).length = L.length := List.length_map _
theorem bs_cat (a b : List UInt8) : bs (a ++ b) = bs a ++ bs b := by
 unfold bs
 apply ByteArray.ext
 simp
theorem bs_self (s : ByteArray) : bs s.data.toList = s := by unfold bs; simp
def RowS (base : Nat) (w : World) (L : List ByteArray) (n : Nat) (v : Value) : Prop := n = L.length /\ w.ownsRow base 9 1 v n (L.map Value.string)
theorem RowS.carry {base n : Nat} {w w' : World} {L : List ByteArray} {v : Value} (h : RowS base w L n v) (hb : ∀ q, v.ownBlock = some q -> w'.heap[q]? = w.heap[q]?) : RowS base w' L n v := ⟨h.1, ownsRow_carry h.2 hb⟩
theorem RowS.lt {base n : Nat} {w : World} {L : List ByteArray} {v : Value} (h : RowS base w L n v) {q : Nat} (hq : v.ownBlock = some q) : base <= q /\ q < w.heap.size := World.ownsRow.lt h.2 q hq
theorem RowS.below {base n : Nat} {w w' : World} {L : List ByteArray} {v : Value} (h : RowS base w L n v) (hb : Below w.heap.size w w') : RowS base w' L n v := h.carry (fun q hq => hb.block q (h.lt hq).2)
theorem RowS.less {base base' n : Nat} {w : World} {L : List ByteArray} {v : Value} (h : RowS base w L n v) (hb : base' <= base) : RowS base' w L n v := ⟨h.1, own_less h.2 hb⟩
theorem RowS.empty {w : World} {base B : Nat} (hB : B = w.heap.size) (hb : base <= w.heap.size) : RowS base (w.alloc (.cells #[] 9)) [] 0 (.slice (some ⟨B, 0, none⟩) 0 0) := ⟨rfl, own_empty hB hb⟩
theorem RowS.open {base n c : Nat} {A : Option Addr} {w : World} {L : List ByteArray} (h : RowS base w L n (.slice A n c)) (hp : 0 < n) : ∃ q, A = some ⟨q, 0, none⟩ /\ base <= q /\ q < w.heap.size /\ n <= c /\ ∀ i s, L[i]? = some s -> w.cell? ⟨q, i, none⟩ = some (.string s) := by
 obtain ⟨rfl, h2⟩ := h
 rcases h2.2 with ⟨h0, h1⟩ | ⟨g, cap, cur, h0, hb, hg, hn, hcm, hcs, ht⟩
 ·omega
 ·cases h0
  refine ⟨g, rfl, hb, row_lt hg, hn, fun i s hi => ?_⟩
  have hil := (List.getElem?_eq_some_iff.1 hi).1
  have : (cur.toList.take (L.length * 1))[i]? = (L.map Value.string)[i]? := by rw [ht]
  rw [List.getElem?_take, if_pos (by omega), Array.getElem?_toList, List.getElem?_map, hi] at this
  rw [cell_of_row w g _ cur _ _ hg]
  simpa using this
theorem own_str1 (w : World) (s : ByteArray) : (w.alloc (.cells #[.string s] 9)).ownsRow w.heap.size 9 1 (.slice (some ⟨w.heap.size, 0, none⟩) 1 1) 1 [.string s] :=
 ⟨rfl, .inr ⟨w.heap.size, 1, #[.string s], rfl, Nat.le_refl _, heap_alloc_new w _, Nat.le_refl _, by unfold maxLen; omega, rfl, rfl⟩⟩
theorem RowS.one (w : World) (s : ByteArray) (base : Nat) (hb : base <= w.heap.size) : RowS base (w.alloc (.cells #[.string s] 9)) [s] 1 (.slice (some ⟨w.heap.size, 0, none⟩) 1 1) := ⟨rfl, own_less (own_str1 w s) hb⟩
theorem rowS_push (wx : World) (base n c : Nat) (A : Option Addr) (L : List ByteArray) (s : ByteArray) (h : RowS base wx L n (.slice A n c)) (hsz : n <= 1048576) (hbase : base <= wx.heap.size) :
  ∃ (A' : Option Addr) (c' : Nat) (w' : World), (Builtin.append_ #[31, 31] 31 #[.slice A n c, .slice (some ⟨wx.heap.size, 0, none⟩) 1 1]).run Tryz.prog (wx.alloc (.cells #[.string s] 9)) = .ok (.slice A' (n + 1) c') w' /\ RowS base w' (L ++ [s]) (n + 1) (.slice A' (n + 1) c') /\ Grb wx (.slice A n c) w' (.slice A' (n + 1) c') := by
 obtain ⟨i0, hi, hz0, hz1, hz2⟩ := info_parts (show (Tryz.prog.info? 9).map (fun i => (i.zero, i.size, i.bytes)) = some (some (.string ⟨#[]⟩), 1, 16) from by kernel_rfl)
 obtain ⟨hn, h⟩ := h
 have hb : Below wx.heap.size wx (wx.alloc (.cells #[.string s] 9)) := bel
 have h' := ownsRow_carry h (fun q hq => hb.block q (World.ownsRow.lt h q hq).2)
 obtain ⟨v', w', hr, h2, h3, h5⟩ := run_append_row (P := Tryz.prog) (wx.alloc (.cells #[.string s] 9)) 31 31 base 9 i0 (.string ⟨#[]⟩) 1 16 Tryz.underlying31 hi hz0 hz1 hz2 rfl (by decide) (.slice A n c) n _ h' wx.heap.size 1 _ _ (own_str1 wx s) (fun u hu => by rcases List.mem_singleton.1 hu with rfl; rfl) (by unfold maxLen; omega) (by omega) (by simp; omega)
 obtain ⟨A', c', rfl⟩ := own_form h2
 exact ⟨A', c', w', hr, ⟨by rw [List.length_append, <- hn]; rfl, by rw [List.map_append]; exact h2⟩, (Grb.of _ hb).trans (Grb.of_at h3 h5)⟩
end Go.Proofs.YtohcpifekcehjaaGreatDoor
