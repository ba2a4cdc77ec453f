/- Steps to FnExactIndentedOk and FnExactIndentedNormal and FnExactCrossed. No conditions. -/
import Derived.Test.YtohcpifekcehjaaGreatDoorKind16
import Derived.Test.YtohcpifekcehjaaGreatDoorKind13
import Derived.Test.YtohcpifekcehjaaGreatDoorKind17
import Derived.Test.YtohcpifekcehjaaGreatDoorKind9
set_option maxHeartbeats 16000000
set_option maxRecDepth 20000
namespace Go.Proofs.YtohcpifekcehjaaGreatDoor
open Go.RowKit Go.Lib
def inN (s : ByteArray) : ByteArray × Flt := if (readIn s).1.code = 0 then (indB 10 (readIn s).2, flt0) else (⟨#[]⟩, (readIn s).1)
theorem c_impl_IndentedNormal (s : ByteArray) (w : World) (hs : s.size <= 1048576) (hP : Pow w) (hE : ErrR w) (hT : Tabs w) (hV : CTab w) (hM : MaxL w) :
  Calls Tryz.prog 15 #[.string s] w fun e w' => e = .returned (.tuple #[.string (inN s).1, .agg (fltC (inN s).2)]) /\ Below w.heap.size w w' := by
 have hz := size_readIn s
 have HF := hid (show inN s = if (readIn s).1.code = 0 then (indB 10 (readIn s).2, flt0) else (⟨#[]⟩, (readIn s).1) from rfl)
 have hf0 := readIn_flt s
 have HI := hid (fun (w' : World) (h : Below w.heap.size w w') => c_impl_ReadIndented s w' hs (hV.below h) (hT.below h) (hE.below h) (hM.below h))
 obtain ⟨r, hr⟩ : ∃ r, r = readIn s := ⟨_, rfl⟩
 rw [<- hr] at HI HF hz hf0
 obtain ⟨b, hb⟩ : ∃ b, b = inN s := ⟨_, rfl⟩
 rw [<- hb] at HF ⊢
 clear hr hb
 obtain ⟨⟨fc, fa, fp⟩, t⟩ := r
 simp only at HF hz hf0
 have hrf : fltC (⟨fc, fa, fp⟩ : Flt) = #[.int .i64 fc, .int .i64 fa, .string fp] := rfl
 go_enter Tryz.func15, Tryz.ntmps15
 go_wp2_with fail
 refine (HI.out _ bel).mono ?_
 rintro e w1 ⟨cs, rfl, hO1, hb1⟩
 have HC1 := hid (hO1.toC (fun _ h => h))
 obtain ⟨U4, u44, U5, u55, rfl, -⟩ := hO1.flat
 simp only [hrf]
 clear hO1 hrf
 have X0 : w1.heap[w.heap.size]? = some (.cells #[.int .i64 0, .int .i64 0, .string ⟨#[]⟩] 23 (0, 0)) := (hb1.block _ (by simp)).trans (heap_at rfl)
 have hb01 : Below w.heap.size w w1 := Below.trans bel (hb1.mono (by simp))
 have l0 := row_lt X0
 have HX0 := hid X0
 have HB01 := hid hb01
 clear hb1 X0 hb01
 go_upto_region 2 with fail
 obtain ⟨w2, hw2⟩ : ∃ W, W = (w1.alloc (.cells #[.int .i64 t.kind, .bool t.flag, .int .i64 t.num, .string t.text, .slice U4 t.keys.length u44, .slice U5 t.kids.length u55] 34)).alloc (.cells #[.int .i64 fc, .int .i64 fa, .string fp] 23) := ⟨_, rfl⟩
 have hb2 : Below w1.heap.size w1 w2 := by rw [hw2]; exact bel
 have X1 : w2.heap[w1.heap.size]? = some (.cells #[.int .i64 t.kind, .bool t.flag, .int .i64 t.num, .string t.text, .slice U4 t.keys.length u44, .slice U5 t.kids.length u55] 34 (0, 0)) := by rw [hw2]; exact (Below.heap_alloc _ _ _ (by simp)).trans (heap_at rfl)
 have X2 : w2.heap[w1.heap.size + 1]? = some (.cells #[.int .i64 fc, .int .i64 fa, .string fp] 23 (0, 0)) := by rw [hw2]; exact heap_at (by simp)
 rw [<- hw2]
 have s2 := hb2.size
 have HX1 := hid X1
 have HX2 := hid X2
 have HX02 := hid ((hb2.block _ l0).trans HX0.out)
 have HB02 := hid (HB01.out.trans (hb2.mono HB01.out.size))
 have hz01 := HB01.out.size
 have HC2 := hid ((HC1.out.keep (same_below hb2) (Nat.zero_le _) hb2.size : C_Tree 10 0 w2.heap.size w2 t _))
 have l1 := row_lt X1
 have l2 := row_lt X2
 obtain ⟨x0, x1, x2, x3, x4, x5, xf⟩ := row6 X1
 obtain ⟨y0, y1, y2, yf⟩ := row3 X2
 obtain ⟨z0, z1, z2, zf⟩ := row3 HX02.out
 have l02 := row_lt HX02.out
 clear hw2 hb2 X1 X2 HC1 HX0 HB01
 have q1 : (fc == 0) = false ∨ (fc == 0) = true := by rcases (fc == 0) with _ | _ <;> simp
 rcases q1 with q1 | q1
 ·have hne : fc ≠ 0 := fun e => by rw [e] at q1; cases q1
  have HX := hid (show b = (⟨#[]⟩, ⟨fc, fa, fp⟩) by rw [HF.out, if_neg hne])
  clear hne hf0
  go_upto_region 3 with fail
  go_region_law fail
  go_wp2_with fail
  have hb2 := HB02.out
  all_goals exact bodyPost_ret (v := .tuple #[.string ⟨#[]⟩, .agg #[.int .i64 fc, .int .i64 fa, .string fp]]) (by simp only [results, Tryz.results15]; go_simp) rfl ⟨by rw [HX.out]; rfl, bel⟩
 ·have he : fc = 0 := by simpa using q1
  have HX := hid (show b = (indB 10 t, flt0) by rw [HF.out, if_pos he])
  have h0 := hf0 he
  unfold flt0 at h0
  injection h0 with e1 e2 e3
  subst e1 e2 e3
  clear hf0 he
  have HT := hid (fun (w' : World) (h : Below w2.heap.size w2 w') => c_impl_IndentedText 10 t _ w' 0 (HC2.out.now h) hz (hT.below (HB02.out.trans (h.mono HB02.out.size))) (hP.below (HB02.out.trans (h.mono HB02.out.size))))
  go_wp2_with fail
  refine (HT.out _ bel).mono ?_
  rintro e w3 ⟨rfl, hb3⟩
  have h23 : Below w2.heap.size w2 w3 := Below.trans bel (hb3.mono (by simp))
  have h03 := HB02.out.trans (h23.mono HB02.out.size)
  have X0 := (h23.block _ l02).trans HX02.out
  have X2 := (h23.block _ l2).trans HX2.out
  obtain ⟨u0, u1, u2, uf⟩ := row3 X2
  obtain ⟨v0, v1, v2, vf⟩ := row3 X0
  have l03 := row_lt X0
  have l23 := row_lt X2
  clear y0 y1 y2 yf z0 z1 z2 zf x0 x1 x2 x3 x4 x5 xf
  go_wp2_with fail
  have hb2 := HB02.out
  all_goals exact bodyPost_ret (v := .tuple #[.string (indB 10 t), .agg #[.int .i64 0, .int .i64 0, .string ⟨#[]⟩]]) (by simp only [results, Tryz.results15]; go_simp) rfl ⟨by rw [HX.out]; rfl, bel⟩
theorem c_spec_IndentedNormal (s : ByteArray) (w : World) (hs : s.size <= 1048576)  :
  Calls Tryz.prog 14 #[.string s] w fun e w' => e = .returned (.tuple #[.string (inN s).1, .agg (fltC (inN s).2)]) /\ Below w.heap.size w w' := by
 have hz := size_readIn s
 have HF := hid (show inN s = if (readIn s).1.code = 0 then (indB 10 (readIn s).2, flt0) else (⟨#[]⟩, (readIn s).1) from rfl)
 have hf0 := readIn_flt s
 have HI := hid (fun (w' : World) (h : Below w.heap.size w w') => c_spec_ReadIndented s w' hs )
 obtain ⟨r, hr⟩ : ∃ r, r = readIn s := ⟨_, rfl⟩
 rw [<- hr] at HI HF hz hf0
 obtain ⟨b, hb⟩ : ∃ b, b = inN s := ⟨_, rfl⟩
 rw [<- hb] at HF ⊢
 clear hr hb
 obtain ⟨⟨fc, fa, fp⟩, t⟩ := r
 simp only at HF hz hf0
 have hrf : fltC (⟨fc, fa, fp⟩ : Flt) = #[.int .i64 fc, .int .i64 fa, .string fp] := rfl
 go_enter Tryz.func14, Tryz.ntmps14
 go_wp2_with fail
 refine (HI.out _ bel).mono ?_
 rintro e w1 ⟨cs, rfl, hO1, hb1⟩
 have HC1 := hid (hO1.toC (fun _ h => h))
 obtain ⟨U4, u44, U5, u55, rfl, -⟩ := hO1.flat
 simp only [hrf]
 clear hO1 hrf
 have X0 : w1.heap[w.heap.size]? = some (.cells #[.int .i64 0, .int .i64 0, .string ⟨#[]⟩] 23 (0, 0)) := (hb1.block _ (by simp)).trans (heap_at rfl)
 have hb01 : Below w.heap.size w w1 := Below.trans bel (hb1.mono (by simp))
 have l0 := row_lt X0
 have HX0 := hid X0
 have HB01 := hid hb01
 clear hb1 X0 hb01
 go_upto_region 2 with fail
 obtain ⟨w2, hw2⟩ : ∃ W, W = (w1.alloc (.cells #[.int .i64 t.kind, .bool t.flag, .int .i64 t.num, .string t.text, .slice U4 t.keys.length u44, .slice U5 t.kids.length u55] 34)).alloc (.cells #[.int .i64 fc, .int .i64 fa, .string fp] 23) := ⟨_, rfl⟩
 have hb2 : Below w1.heap.size w1 w2 := by rw [hw2]; exact bel
 have X1 : w2.heap[w1.heap.size]? = some (.cells #[.int .i64 t.kind, .bool t.flag, .int .i64 t.num, .string t.text, .slice U4 t.keys.length u44, .slice U5 t.kids.length u55] 34 (0, 0)) := by rw [hw2]; exact (Below.heap_alloc _ _ _ (by simp)).trans (heap_at rfl)
 have X2 : w2.heap[w1.heap.size + 1]? = some (.cells #[.int .i64 fc, .int .i64 fa, .string fp] 23 (0, 0)) := by rw [hw2]; exact heap_at (by simp)
 rw [<- hw2]
 have s2 := hb2.size
 have HX1 := hid X1
 have HX2 := hid X2
 have HX02 := hid ((hb2.block _ l0).trans HX0.out)
 have HB02 := hid (HB01.out.trans (hb2.mono HB01.out.size))
 have hz01 := HB01.out.size
 have HC2 := hid ((HC1.out.keep (same_below hb2) (Nat.zero_le _) hb2.size : C_Tree 10 0 w2.heap.size w2 t _))
 have l1 := row_lt X1
 have l2 := row_lt X2
 obtain ⟨x0, x1, x2, x3, x4, x5, xf⟩ := row6 X1
 obtain ⟨y0, y1, y2, yf⟩ := row3 X2
 obtain ⟨z0, z1, z2, zf⟩ := row3 HX02.out
 have l02 := row_lt HX02.out
 clear hw2 hb2 X1 X2 HC1 HX0 HB01
 have q1 : (fc == 0) = false ∨ (fc == 0) = true := by rcases (fc == 0) with _ | _ <;> simp
 rcases q1 with q1 | q1
 ·have hne : fc ≠ 0 := fun e => by rw [e] at q1; cases q1
  have HX := hid (show b = (⟨#[]⟩, ⟨fc, fa, fp⟩) by rw [HF.out, if_neg hne])
  clear hne hf0
  go_upto_region 3 with fail
  go_region_law fail
  go_wp2_with fail
  have hb2 := HB02.out
  all_goals exact bodyPost_ret (v := .tuple #[.string ⟨#[]⟩, .agg #[.int .i64 fc, .int .i64 fa, .string fp]]) (by simp only [results, Tryz.results14]; go_simp) rfl ⟨by rw [HX.out]; rfl, bel⟩
 ·have he : fc = 0 := by simpa using q1
  have HX := hid (show b = (indB 10 t, flt0) by rw [HF.out, if_pos he])
  have h0 := hf0 he
  unfold flt0 at h0
  injection h0 with e1 e2 e3
  subst e1 e2 e3
  clear hf0 he
  have HT := hid (fun (w' : World) (h : Below w2.heap.size w2 w') => c_spec_IndentedText 10 t _ w' 0 (HC2.out.now h) hz )
  go_upto_region 4 with fail
  go_region_law (go_simp; go_at_call 47; refine (HT.out _ bel).mono ?_; rintro e w3 ⟨rfl, hb3⟩; have h23 : Below w2.heap.size w2 w3 := Below.trans bel (hb3.mono (by simp)); have h03 := HB02.out.trans (h23.mono HB02.out.size); have X0 := (h23.block _ l02).trans HX02.out; have X2 := (h23.block _ l2).trans HX2.out; obtain ⟨u0, u1, u2, uf⟩ := row3 X2; obtain ⟨v0, v1, v2, vf⟩ := row3 X0; have l03 := row_lt X0; have l23 := row_lt X2)
  go_wp2_with fail
  have hb2 := HB02.out
  all_goals exact bodyPost_ret (v := .tuple #[.string (indB 10 t), .agg #[.int .i64 0, .int .i64 0, .string ⟨#[]⟩]]) (by simp only [results, Tryz.results14]; go_simp) rfl ⟨by rw [HX.out]; rfl, bel⟩
theorem w_FnExactIndentedNormal (d0 : ByteArray) (v0 : Value) (w : World) (h0 : R_Str w d0 v0) (hP : Pow w) (hE : ErrR w) (hT : Tabs w) (hV : CTab w) (hM : MaxL w) :
  Calls Tryz.prog 4 #[v0] w fun e w' => e = .returned (.bool true) /\ Below w.heap.size w w' := by
 obtain ⟨rfl, hs⟩ := h0
 have HC := hid (And.intro hP (And.intro hV (And.intro hT (And.intro hE hM))))
 clear hV hT hE hP hM
 by_cases hq : d0.size <= 1048576
 ·have hq1 : decide ((1048576 : Int) < d0.size) = false := decide_eq_false (by omega)
  have HS := hid (c_spec_IndentedNormal d0 w hq)
  have HI := hid (fun (w' : World) (h : Below w.heap.size w w') => c_impl_IndentedNormal d0 w' hq (HC.out.1.below h) (HC.out.2.2.2.1.below h) (HC.out.2.2.1.below h) (HC.out.2.1.below h) (HC.out.2.2.2.2.below h))
  obtain ⟨r, hr⟩ : ∃ r, r = inN d0 := ⟨_, rfl⟩
  rw [<- hr] at HS HI
  clear hr HC
  obtain ⟨x, ⟨fc, fa, fp⟩⟩ := r
  have hrf : fltC (⟨fc, fa, fp⟩ : Flt) = #[.int .i64 fc, .int .i64 fa, .string fp] := rfl
  simp only [hrf] at HS HI
  clear hrf
  go_enter Tryz.func4, Tryz.ntmps4
  go_wp2_with fail
  refine HS.out.mono ?_
  rintro e w1 ⟨rfl, hb1⟩
  have HB1 := hid hb1
  have hsz1 := hb1.size
  clear hb1
  go_wp2_with fail
  obtain ⟨w2, hw2⟩ : ∃ W, W = w1.alloc (.cells #[.int .i64 fc, .int .i64 fa, .string fp] 23) := ⟨_, rfl⟩
  have hb2 : Below w1.heap.size w1 w2 := by rw [hw2]; exact bel
  have X1 : w2.heap[w1.heap.size]? = some (.cells #[.int .i64 fc, .int .i64 fa, .string fp] 23 (0, 0)) := by rw [hw2]; exact heap_at rfl
  rw [<- hw2]
  have l1 := row_lt X1
  have HB2 := hid (HB1.out.trans (hb2.mono hsz1))
  refine (HI.out w2 HB2.out).mono ?_
  rintro e w3 ⟨rfl, hb3⟩
  have HX1 := hid ((hb3.block _ l1).trans X1)
  have h03 := HB2.out.trans (hb3.mono HB2.out.size)
  clear X1 hb3 hb2 hw2 l1
  obtain ⟨y0, y1, y2, yf⟩ := row3 HX1.out
  have l3 := row_lt HX1.out
  go_wp2_with (go_at_call 13; refine (c_laws_eqFault _ _ _ _).mono ?_; rintro e w1 ⟨rfl, hb⟩; (first | (have hcu2 := Cum.join hcu hb; (try clear hcu); (try clear hc); (try clear hfz); (try clear hsz); (try clear hs0); (try clear hs1); (try clear hs2); (try clear hs3); (try clear hs4); ) | have hcu2 := Cum.mk hb); have hcu := hcu2; clear hcu2; obtain ⟨hc, hfz⟩ := bcell hcu.h; have hsz := hcu.h.size; (try simp at hsz); (try have hs0 := lt_of_succ_le hsz); (try (have hs1 := lt_pred hsz; (try (have hs2 := lt_pred hs1; (try (have hs3 := lt_pred hs2; (try have hs4 := lt_pred hs3))))))))
  go_ret
  exact ⟨rfl, bel⟩
 ·have hq1 : decide ((1048576 : Int) < d0.size) = true := decide_eq_true (by omega)
  go_enter Tryz.func4, Tryz.ntmps4
  go_wp2_with fail
  go_ret
  exact ⟨rfl, Below.refl _ _⟩
def crN (s : ByteArray) : ByteArray × Flt := if (readIn s).1.code = 0 then (bracedB 10 (readIn s).2, flt0) else (⟨#[]⟩, (readIn s).1)
theorem c_impl_Crossed (s : ByteArray) (w : World) (hs : s.size <= 1048576) (hP : Pow w) (hE : ErrR w) (hT : Tabs w) (hV : CTab w) (hM : MaxL w) :
  Calls Tryz.prog 12 #[.string s] w fun e w' => e = .returned (.tuple #[.string (crN s).1, .agg (fltC (crN s).2)]) /\ Below w.heap.size w w' := by
 have hz := size_readIn s
 have HF := hid (show crN s = if (readIn s).1.code = 0 then (bracedB 10 (readIn s).2, flt0) else (⟨#[]⟩, (readIn s).1) from rfl)
 have hf0 := readIn_flt s
 have HI := hid (fun (w' : World) (h : Below w.heap.size w w') => c_impl_ReadIndented s w' hs (hV.below h) (hT.below h) (hE.below h) (hM.below h))
 obtain ⟨r, hr⟩ : ∃ r, r = readIn s := ⟨_, rfl⟩
 rw [<- hr] at HI HF hz hf0
 obtain ⟨b, hb⟩ : ∃ b, b = crN s := ⟨_, rfl⟩
 rw [<- hb] at HF ⊢
 clear hr hb
 obtain ⟨⟨fc, fa, fp⟩, t⟩ := r
 simp only at HF hz hf0
 have hrf : fltC (⟨fc, fa, fp⟩ : Flt) = #[.int .i64 fc, .int .i64 fa, .string fp] := rfl
 go_enter Tryz.func12, Tryz.ntmps12
 go_wp2_with fail
 refine (HI.out _ bel).mono ?_
 rintro e w1 ⟨cs, rfl, hO1, hb1⟩
 have HC1 := hid (hO1.toC (fun _ h => h))
 obtain ⟨U4, u44, U5, u55, rfl, -⟩ := hO1.flat
 simp only [hrf]
 clear hO1 hrf
 have X0 : w1.heap[w.heap.size]? = some (.cells #[.int .i64 0, .int .i64 0, .string ⟨#[]⟩] 23 (0, 0)) := (hb1.block _ (by simp)).trans (heap_at rfl)
 have hb01 : Below w.heap.size w w1 := Below.trans bel (hb1.mono (by simp))
 have l0 := row_lt X0
 have HX0 := hid X0
 have HB01 := hid hb01
 clear hb1 X0 hb01
 go_upto_region 2 with fail
 obtain ⟨w2, hw2⟩ : ∃ W, W = (w1.alloc (.cells #[.int .i64 t.kind, .bool t.flag, .int .i64 t.num, .string t.text, .slice U4 t.keys.length u44, .slice U5 t.kids.length u55] 34)).alloc (.cells #[.int .i64 fc, .int .i64 fa, .string fp] 23) := ⟨_, rfl⟩
 have hb2 : Below w1.heap.size w1 w2 := by rw [hw2]; exact bel
 have X1 : w2.heap[w1.heap.size]? = some (.cells #[.int .i64 t.kind, .bool t.flag, .int .i64 t.num, .string t.text, .slice U4 t.keys.length u44, .slice U5 t.kids.length u55] 34 (0, 0)) := by rw [hw2]; exact (Below.heap_alloc _ _ _ (by simp)).trans (heap_at rfl)
 have X2 : w2.heap[w1.heap.size + 1]? = some (.cells #[.int .i64 fc, .int .i64 fa, .string fp] 23 (0, 0)) := by rw [hw2]; exact heap_at (by simp)
 rw [<- hw2]
 have s2 := hb2.size
 have HX1 := hid X1
 have HX2 := hid X2
 have HX02 := hid ((hb2.block _ l0).trans HX0.out)
 have HB02 := hid (HB01.out.trans (hb2.mono HB01.out.size))
 have hz01 := HB01.out.size
 have HC2 := hid ((HC1.out.keep (same_below hb2) (Nat.zero_le _) hb2.size : C_Tree 10 0 w2.heap.size w2 t _))
 have l1 := row_lt X1
 have l2 := row_lt X2
 obtain ⟨x0, x1, x2, x3, x4, x5, xf⟩ := row6 X1
 obtain ⟨y0, y1, y2, yf⟩ := row3 X2
 obtain ⟨z0, z1, z2, zf⟩ := row3 HX02.out
 have l02 := row_lt HX02.out
 clear hw2 hb2 X1 X2 HC1 HX0 HB01
 have q1 : (fc == 0) = false ∨ (fc == 0) = true := by rcases (fc == 0) with _ | _ <;> simp
 rcases q1 with q1 | q1
 ·have hne : fc ≠ 0 := fun e => by rw [e] at q1; cases q1
  have HX := hid (show b = (⟨#[]⟩, ⟨fc, fa, fp⟩) by rw [HF.out, if_neg hne])
  clear hne hf0
  go_upto_region 3 with fail
  go_region_law fail
  go_wp2_with fail
  have hb2 := HB02.out
  all_goals exact bodyPost_ret (v := .tuple #[.string ⟨#[]⟩, .agg #[.int .i64 fc, .int .i64 fa, .string fp]]) (by simp only [results, Tryz.results12]; go_simp) rfl ⟨by rw [HX.out]; rfl, bel⟩
 ·have he : fc = 0 := by simpa using q1
  have HX := hid (show b = (bracedB 10 t, flt0) by rw [HF.out, if_pos he])
  have h0 := hf0 he
  unfold flt0 at h0
  injection h0 with e1 e2 e3
  subst e1 e2 e3
  clear hf0 he
  have HT := hid (fun (w' : World) (h : Below w2.heap.size w2 w') => c_impl_BracedText 10 t _ w' 0 (HC2.out.now h) hz (hT.below (HB02.out.trans (h.mono HB02.out.size))) (hP.below (HB02.out.trans (h.mono HB02.out.size))))
  go_wp2_with fail
  refine (HT.out _ bel).mono ?_
  rintro e w3 ⟨rfl, hb3⟩
  have h23 : Below w2.heap.size w2 w3 := Below.trans bel (hb3.mono (by simp))
  have h03 := HB02.out.trans (h23.mono HB02.out.size)
  have X0 := (h23.block _ l02).trans HX02.out
  have X2 := (h23.block _ l2).trans HX2.out
  obtain ⟨u0, u1, u2, uf⟩ := row3 X2
  obtain ⟨v0, v1, v2, vf⟩ := row3 X0
  have l03 := row_lt X0
  have l23 := row_lt X2
  clear y0 y1 y2 yf z0 z1 z2 zf x0 x1 x2 x3 x4 x5 xf
  go_wp2_with fail
  have hb2 := HB02.out
  all_goals exact bodyPost_ret (v := .tuple #[.string (bracedB 10 t), .agg #[.int .i64 0, .int .i64 0, .string ⟨#[]⟩]]) (by simp only [results, Tryz.results12]; go_simp) rfl ⟨by rw [HX.out]; rfl, bel⟩
theorem c_spec_Crossed (s : ByteArray) (w : World) (hs : s.size <= 1048576)  :
  Calls Tryz.prog 11 #[.string s] w fun e w' => e = .returned (.tuple #[.string (crN s).1, .agg (fltC (crN s).2)]) /\ Below w.heap.size w w' := by
 have hz := size_readIn s
 have HF := hid (show crN s = if (readIn s).1.code = 0 then (bracedB 10 (readIn s).2, flt0) else (⟨#[]⟩, (readIn s).1) from rfl)
 have hf0 := readIn_flt s
 have HI := hid (fun (w' : World) (h : Below w.heap.size w w') => c_spec_ReadIndented s w' hs )
 obtain ⟨r, hr⟩ : ∃ r, r = readIn s := ⟨_, rfl⟩
 rw [<- hr] at HI HF hz hf0
 obtain ⟨b, hb⟩ : ∃ b, b = crN s := ⟨_, rfl⟩
 rw [<- hb] at HF ⊢
 clear hr hb
 obtain ⟨⟨fc, fa, fp⟩, t⟩ := r
 simp only at HF hz hf0
 have hrf : fltC (⟨fc, fa, fp⟩ : Flt) = #[.int .i64 fc, .int .i64 fa, .string fp] := rfl
 go_enter Tryz.func11, Tryz.ntmps11
 go_wp2_with fail
 refine (HI.out _ bel).mono ?_
 rintro e w1 ⟨cs, rfl, hO1, hb1⟩
 have HC1 := hid (hO1.toC (fun _ h => h))
 obtain ⟨U4, u44, U5, u55, rfl, -⟩ := hO1.flat
 simp only [hrf]
 clear hO1 hrf
 have X0 : w1.heap[w.heap.size]? = some (.cells #[.int .i64 0, .int .i64 0, .string ⟨#[]⟩] 23 (0, 0)) := (hb1.block _ (by simp)).trans (heap_at rfl)
 have hb01 : Below w.heap.size w w1 := Below.trans bel (hb1.mono (by simp))
 have l0 := row_lt X0
 have HX0 := hid X0
 have HB01 := hid hb01
 clear hb1 X0 hb01
 go_upto_region 2 with fail
 obtain ⟨w2, hw2⟩ : ∃ W, W = (w1.alloc (.cells #[.int .i64 t.kind, .bool t.flag, .int .i64 t.num, .string t.text, .slice U4 t.keys.length u44, .slice U5 t.kids.length u55] 34)).alloc (.cells #[.int .i64 fc, .int .i64 fa, .string fp] 23) := ⟨_, rfl⟩
 have hb2 : Below w1.heap.size w1 w2 := by rw [hw2]; exact bel
 have X1 : w2.heap[w1.heap.size]? = some (.cells #[.int .i64 t.kind, .bool t.flag, .int .i64 t.num, .string t.text, .slice U4 t.keys.length u44, .slice U5 t.kids.length u55] 34 (0, 0)) := by rw [hw2]; exact (Below.heap_alloc _ _ _ (by simp)).trans (heap_at rfl)
 have X2 : w2.heap[w1.heap.size + 1]? = some (.cells #[.int .i64 fc, .int .i64 fa, .string fp] 23 (0, 0)) := by rw [hw2]; exact heap_at (by simp)
 rw [<- hw2]
 have s2 := hb2.size
 have HX1 := hid X1
 have HX2 := hid X2
 have HX02 := hid ((hb2.block _ l0).trans HX0.out)
 have HB02 := hid (HB01.out.trans (hb2.mono HB01.out.size))
 have hz01 := HB01.out.size
 have HC2 := hid ((HC1.out.keep (same_below hb2) (Nat.zero_le _) hb2.size : C_Tree 10 0 w2.heap.size w2 t _))
 have l1 := row_lt X1
 have l2 := row_lt X2
 obtain ⟨x0, x1, x2, x3, x4, x5, xf⟩ := row6 X1
 obtain ⟨y0, y1, y2, yf⟩ := row3 X2
 obtain ⟨z0, z1, z2, zf⟩ := row3 HX02.out
 have l02 := row_lt HX02.out
 clear hw2 hb2 X1 X2 HC1 HX0 HB01
 have q1 : (fc == 0) = false ∨ (fc == 0) = true := by rcases (fc == 0) with _ | _ <;> simp
 rcases q1 with q1 | q1
 ·have hne : fc ≠ 0 := fun e => by rw [e] at q1; cases q1
  have HX := hid (show b = (⟨#[]⟩, ⟨fc, fa, fp⟩) by rw [HF.out, if_neg hne])
  clear hne hf0
  go_upto_region 3 with fail
  go_region_law fail
  go_wp2_with fail
  have hb2 := HB02.out
  all_goals exact bodyPost_ret (v := .tuple #[.string ⟨#[]⟩, .agg #[.int .i64 fc, .int .i64 fa, .string fp]]) (by simp only [results, Tryz.results11]; go_simp) rfl ⟨by rw [HX.out]; rfl, bel⟩
 ·have he : fc = 0 := by simpa using q1
  have HX := hid (show b = (bracedB 10 t, flt0) by rw [HF.out, if_pos he])
  have h0 := hf0 he
  unfold flt0 at h0
  injection h0 with e1 e2 e3
  subst e1 e2 e3
  clear hf0 he
  have HT := hid (fun (w' : World) (h : Below w2.heap.size w2 w') => c_spec_BracedText 10 t _ w' 0 (HC2.out.now h) hz )
  go_upto_region 4 with fail
  go_region_law (go_simp; go_at_call 45; refine (HT.out _ bel).mono ?_; rintro e w3 ⟨rfl, hb3⟩; have h23 : Below w2.heap.size w2 w3 := Below.trans bel (hb3.mono (by simp)); have h03 := HB02.out.trans (h23.mono HB02.out.size); have X0 := (h23.block _ l02).trans HX02.out; have X2 := (h23.block _ l2).trans HX2.out; obtain ⟨u0, u1, u2, uf⟩ := row3 X2; obtain ⟨v0, v1, v2, vf⟩ := row3 X0; have l03 := row_lt X0; have l23 := row_lt X2)
  go_wp2_with fail
  have hb2 := HB02.out
  all_goals exact bodyPost_ret (v := .tuple #[.string (bracedB 10 t), .agg #[.int .i64 0, .int .i64 0, .string ⟨#[]⟩]]) (by simp only [results, Tryz.results11]; go_simp) rfl ⟨by rw [HX.out]; rfl, bel⟩
theorem w_FnExactCrossed (d0 : ByteArray) (v0 : Value) (w : World) (h0 : R_Str w d0 v0) (hP : Pow w) (hE : ErrR w) (hT : Tabs w) (hV : CTab w) (hM : MaxL w) :
  Calls Tryz.prog 3 #[v0] w fun e w' => e = .returned (.bool true) /\ Below w.heap.size w w' := by
 obtain ⟨rfl, hs⟩ := h0
 have HC := hid (And.intro hP (And.intro hV (And.intro hT (And.intro hE hM))))
 clear hV hT hE hP hM
 by_cases hq : d0.size <= 1048576
 ·have hq1 : decide ((1048576 : Int) < d0.size) = false := decide_eq_false (by omega)
  have HS := hid (c_spec_Crossed d0 w hq)
  have HI := hid (fun (w' : World) (h : Below w.heap.size w w') => c_impl_Crossed d0 w' hq (HC.out.1.below h) (HC.out.2.2.2.1.below h) (HC.out.2.2.1.below h) (HC.out.2.1.below h) (HC.out.2.2.2.2.below h))
  obtain ⟨r, hr⟩ : ∃ r, r = crN d0 := ⟨_, rfl⟩
  rw [<- hr] at HS HI
  clear hr HC
  obtain ⟨x, ⟨fc, fa, fp⟩⟩ := r
  have hrf : fltC (⟨fc, fa, fp⟩ : Flt) = #[.int .i64 fc, .int .i64 fa, .string fp] := rfl
  simp only [hrf] at HS HI
  clear hrf
  go_enter Tryz.func3, Tryz.ntmps3
  go_wp2_with fail
  refine HS.out.mono ?_
  rintro e w1 ⟨rfl, hb1⟩
  have HB1 := hid hb1
  have hsz1 := hb1.size
  clear hb1
  go_wp2_with fail
  obtain ⟨w2, hw2⟩ : ∃ W, W = w1.alloc (.cells #[.int .i64 fc, .int .i64 fa, .string fp] 23) := ⟨_, rfl⟩
  have hb2 : Below w1.heap.size w1 w2 := by rw [hw2]; exact bel
  have X1 : w2.heap[w1.heap.size]? = some (.cells #[.int .i64 fc, .int .i64 fa, .string fp] 23 (0, 0)) := by rw [hw2]; exact heap_at rfl
  rw [<- hw2]
  have l1 := row_lt X1
  have HB2 := hid (HB1.out.trans (hb2.mono hsz1))
  refine (HI.out w2 HB2.out).mono ?_
  rintro e w3 ⟨rfl, hb3⟩
  have HX1 := hid ((hb3.block _ l1).trans X1)
  have h03 := HB2.out.trans (hb3.mono HB2.out.size)
  clear X1 hb3 hb2 hw2 l1
  obtain ⟨y0, y1, y2, yf⟩ := row3 HX1.out
  have l3 := row_lt HX1.out
  go_wp2_with (go_at_call 13; refine (c_laws_eqFault _ _ _ _).mono ?_; rintro e w1 ⟨rfl, hb⟩; (first | (have hcu2 := Cum.join hcu hb; (try clear hcu); (try clear hc); (try clear hfz); (try clear hsz); (try clear hs0); (try clear hs1); (try clear hs2); (try clear hs3); (try clear hs4); ) | have hcu2 := Cum.mk hb); have hcu := hcu2; clear hcu2; obtain ⟨hc, hfz⟩ := bcell hcu.h; have hsz := hcu.h.size; (try simp at hsz); (try have hs0 := lt_of_succ_le hsz); (try (have hs1 := lt_pred hsz; (try (have hs2 := lt_pred hs1; (try (have hs3 := lt_pred hs2; (try have hs4 := lt_pred hs3))))))))
  go_ret
  exact ⟨rfl, bel⟩
 ·have hq1 : decide ((1048576 : Int) < d0.size) = true := decide_eq_true (by omega)
  go_enter Tryz.func3, Tryz.ntmps3
  go_wp2_with fail
  go_ret
  exact ⟨rfl, Below.refl _ _⟩
end Go.Proofs.YtohcpifekcehjaaGreatDoor
