/- Steps to FnIndented. No conditions. -/
import Derived.Test.YtohcpifekcehjaaGreatDoorKfin15
import Derived.Test.YtohcpifekcehjaaGreatDoorKfin8
import Derived.Test.YtohcpifekcehjaaGreatDoorKfin5
import Derived.Deep.AppendLies
import Derived.Test.YtohcpifekcehjaaGreatDoorKfin13
import Derived.Test.YtohcpifekcehjaaGreatDoorKfin4
import Derived.Deep.RegionLaw
set_option maxHeartbeats 16000000
set_option maxRecDepth 20000
namespace Go.Proofs.YtohcpifekcehjaaGreatDoor
open Go.RowKit Go.Lib
theorem all_in (w0 : World) (b g N cap : Nat) (h0 : In0 w0 b g) : ∀ n, T_vI w0 b g N cap n /\ T_bI w0 b g N cap n /\ T_lI w0 b g N cap n /\ T_pI w0 b g N cap n := by
 intro n
 induction n using Nat.strongRecOn with
 | ind n ih =>
  have hv : T_vI w0 b g N cap n := by
   cases n with
   | zero => intro d x r m w _ _ _ _ hn; unfold needI at hn; simp only at hn; omega
   | succ n => exact of_inValue w0 b g N cap n h0 (ih n (Nat.lt_succ_self n)).2.2.1 (ih n (Nat.lt_succ_self n)).2.2.2
  have hb : T_bI w0 b g N cap n := by
   cases n with
   | zero => intro i d x r m w _ _ _ _ hn; unfold needI at hn; simp only at hn; omega
   | succ n => exact of_inBelow w0 b g N cap n h0 (ih n (Nat.lt_succ_self n)).1
  exact ⟨hv, hb, of_inList w0 b g N cap n h0 (fun k hk => (ih k hk).2.1) (fun k hk => (ih k hk).1), of_inPairs w0 b g N cap n h0 (fun k hk => (ih k hk).2.1)⟩
theorem drop_head (a : UInt8) : ∀ (l : List UInt8) (x : UInt8) (r : List UInt8), l.dropWhile (· == a) = x :: r -> x ≠ a
 | [], x, r, h => by cases h
 | y :: l, x, r, h => by
  rw [List.dropWhile_cons] at h
  by_cases e : (y == a) = true
  ·rw [if_pos e] at h
   exact drop_head a l x r h
  ·rw [if_neg e] at h
   cases h
   exact fun g => e (beq_iff_eq.2 g)
theorem bare_endOk {l : List UInt8} (h : ¬ bareL l = []) : endOk (bs (bareL l)) := by
 have hz : (bs (bareL l)).size = (bareL l).length := size_mk _
 refine ⟨by rw [hz]; exact List.length_pos_iff.2 h, fun e => ?_⟩
 have hb : (bs (bareL l)).data.toList[(bs (bareL l)).size - 1]? = some ((bs (bareL l)).get! ((bs (bareL l)).size - 1)) := byte_list (by rw [hz]; have := List.length_pos_iff.2 h; omega)
 have e1 : (bs (bareL l)).data.toList = bareL l := rfl
 obtain ⟨x, r, hd⟩ : ∃ x r, (l.take (scanB true false l)).reverse.dropWhile (· == 32) = x :: r := by
  rcases hd : (l.take (scanB true false l)).reverse.dropWhile (· == 32) with _ | ⟨x, r⟩
  ·exact absurd (show bareL l = [] by unfold bareL trimRightB; rw [hd]; rfl) h
  ·exact ⟨x, r, rfl⟩
 have hbl : bareL l = (x :: r).reverse := by
  unfold bareL trimRightB
  rw [hd]
 have hlast : (bareL l)[(bs (bareL l)).size - 1]? = some x := by
  rw [hz, <- List.getLast?_eq_getElem?, hbl]
  simp
 rw [e1, hlast] at hb
 unfold byteI at e
 rw [<- Option.some.inj hb] at e
 exact drop_head 32 _ _ _ hd (UInt8.toNat_inj.1 (by have e32 : (32 : UInt8).toNat = 32 := rfl; omega))
theorem line_ok {i : Nat} {l : List UInt8} {x : LineD} (h : x ∈ lineO i l) (hl : l.length <= 20000) (hi : i <= 20001) : LnOk x := by
 unfold lineO at h
 by_cases c : bareL l = []
 ·rw [if_pos c] at h; cases h
 ·rw [if_neg c] at h
  rcases List.mem_singleton.1 h with rfl
  have h1 := bareL_len l
  have h2 := trimL_len (bareL l) 32
  have hz : (bs (trimLeftB (bareL l) 32)).size = (trimLeftB (bareL l) 32).length := size_mk _
  have h3 : indL (bareL l) = (bareL l).length - (trimLeftB (bareL l) 32).length := rfl
  refine ⟨by show indL (bareL l) + (bs (trimLeftB (bareL l) 32)).size <= 20000; omega, hi, ?_⟩
  have he := bare_endOk c
  have := (tail_end (i := 0) he he.1).1
  exact this
theorem linesK_ok {P : List (List UInt8)} (hP : ∀ l ∈ P, l.length <= 20000) : ∀ (k : Nat), k <= 20001 -> InOk (linesK P k) /\ (linesK P k).length <= k
 | 0, _ => ⟨fun x hx => (by unfold linesK at hx; cases hx), Nat.le_refl _⟩
 | k + 1, hk => by
  obtain ⟨h1, h2⟩ := linesK_ok hP k (by omega)
  unfold linesK
  rcases hp : P[k]? with _ | l
  ·simp only [List.append_nil]
   exact ⟨h1, by omega⟩
  ·simp only
   refine ⟨fun x hx => ?_, ?_⟩
   ·rcases List.mem_append.1 hx with hx | hx
    ·exact h1 x hx
    ·exact line_ok hx (hP l (List.mem_of_getElem? hp)) hk
   ·rw [List.length_append]
    have : (lineO (k + 1) l).length <= 1 := by unfold lineO; split <;> simp
    omega
theorem cutA_len : ∀ (l acc : List UInt8), (cutA acc l).length = l.count 10 + 1
 | [], acc => rfl
 | c :: l, acc => by
  by_cases hc : c = 10
  ·subst hc
   rw [cutA_nl, List.length_cons, cutA_len l [], List.count_cons_self]
  ·rw [cutA_on hc, cutA_len l _, List.count_cons_of_ne hc]
theorem linesF_ok {s : ByteArray} (h : (linesF s).2.code = 0) : InOk (linesF s).1 /\ (linesF s).1.length <= 20001 := by
 unfold linesF at h ⊢
 by_cases c : (textF s).code ≠ 0
 ·rw [if_pos c] at h; exact absurd h c
 ·rw [if_neg c] at h ⊢
  have hs : s.size <= 20000 := textF_zero (by omega)
  rcases hf : (cutA [] s.data.toList).findIdx? lowB with _ | k
  ·rw [hf] at h
   simp only
   have hlen := cutA_len s.data.toList []
   have hc := List.count_le_length (a := (10 : UInt8)) (l := s.data.toList)
   rw [list_size] at hc
   obtain ⟨h1, h2⟩ := linesK_ok (P := cutA [] s.data.toList) (fun l hl => by have := cutA_small _ _ _ hl; rw [list_size] at this; simp at this; omega) (cutA [] s.data.toList).length (by omega)
   exact ⟨h1, by omega⟩
  ·rw [hf] at h
   cases h
theorem readIn_fault {s : ByteArray} (h : ¬ (linesF s).2.code = 0) : readIn s = ((linesF s).2, treeZ) := by
 unfold readIn
 rw [if_pos h]
 rfl
theorem readIn_empty {s : ByteArray} (h : (linesF s).2.code = 0) (hL : (linesF s).1 = []) : readIn s = (fltA 4 (s.data.toList.count 10 + 1), treeZ) := by
 unfold readIn
 rw [if_neg (by rw [h]; decide), hL, cutA_len]
 rfl
theorem readIn_ind {s : ByteArray} {x : LineD} {r : List LineD} (h : (linesF s).2.code = 0) (hL : (linesF s).1 = x :: r) (hx : x.ind ≠ 0) : readIn s = (fltA 4 x.at', treeZ) := by
 unfold readIn
 rw [if_neg (by rw [h]; decide), hL]
 simp only
 rw [if_pos hx]
 rfl
theorem readIn_main {s : ByteArray} {x : LineD} {r : List LineD} (h : (linesF s).2.code = 0) (hL : (linesF s).1 = x :: r) (hx : x.ind = 0) : readIn s = (match readK (3 * costL (x :: r) + 3) (.value 1) (x :: r) 0 with
   | .bad f => (f, treeE)
   | .good t [] _ => (flt0, t)
   | .good _ (y :: _) _ => (fltA 4 y.at', treeE)) := by
 unfold readIn
 rw [if_neg (by rw [h]; decide), hL]
 simp only
 rw [if_neg (by rw [hx]; decide)]
 rfl
theorem c_Count (s : ByteArray) (w : World) : Calls Tryz.prog 50 #[.string s, .string ⟨#[10]⟩] w fun e w' => e = .returned (.int .i64 (s.data.toList.count 10 : Nat)) /\ w = w' := by
 have h := Any.strings_Count_one laysCount s 10 w
 change Calls Tryz.prog 50 _ _ _ at h
 exact h.mono (fun _ _ h => ⟨h.1, h.2.symm⟩)
theorem c_impl_ReadIndented (s : ByteArray) (w : World) (hs : s.size <= 1048576) (hV : CTab w) (hT : Tabs w) (hE : ErrR w) (hM : MaxL w) :
  Calls Tryz.prog 18 #[.string s] w (ReadE (readIn s) w) := by
 have HT := hid (And.intro hV (And.intro hT (And.intro hE hM)))
 have HLI := hid (fun (W : World) (hb : Below w.heap.size w W) => c_impl_LinesIn s W hs (hT.below hb) (hM.below hb))
 obtain ⟨⟨lf, la, lp⟩, hlf⟩ : ∃ f, f = (linesF s).2 := ⟨_, rfl⟩
 obtain ⟨L, hL⟩ : ∃ L, L = (linesF s).1 := ⟨_, rfl⟩
 have hpair : linesF s = (L, ⟨lf, la, lp⟩) := by rw [hL, hlf]
 rw [hpair] at HLI
 obtain ⟨r, hr⟩ : ∃ r, r = readIn s := ⟨_, rfl⟩
 rw [<- hr]
 have HR := hid hr
 have HLf := hid (And.intro hlf hL)
 clear hV hT hE hM hlf hL hpair hr
 by_cases hc : lf = 0
 rotate_left
 ·have d1 : (lf != 0) = true := bne_iff_ne.2 hc
  have d2 : (lf == 0) = false := beq_eq_false_iff_ne.2 hc
  have HF := hid (show r = (⟨lf, la, lp⟩, treeZ) by rw [HR.out, readIn_fault (by rw [<- HLf.out.1]; exact hc), <- HLf.out.1])
  clear hc
  go_enter Tryz.func18, Tryz.ntmps18
  go_wp2_with fail
  refine (HLI.out _ bel).mono ?_
  rintro e w1 ⟨A, c, rfl, -, hb1⟩
  simp only [fltC]
  have HT1 := hid ((hb1.block w.heap.size (by simp; omega)).trans ((Below.heap_alloc _ _ _ (by simp)).trans (heap_at (w := w) (o := .cells #[.int .i64 0, .bool false, .int .i64 0, .string ⟨#[]⟩, .slice none 0 0, .slice none 0 0] 34) rfl)))
  have HU1 := hid ((hb1.block (w.heap.size + 1) (by simp)).trans (heap_at (w := w.alloc (.cells #[.int .i64 0, .bool false, .int .i64 0, .string ⟨#[]⟩, .slice none 0 0, .slice none 0 0] 34)) (o := .cells #[.int .i64 0, .int .i64 0, .string ⟨#[]⟩] 23) (by simp)))
  have HB1 := hid (bel : Below w.heap.size w w1)
  obtain ⟨x0, x1, x2, x3, x4, x5, xf⟩ := row6 HT1.out
  obtain ⟨y0, y1, y2, yf⟩ := row3 HU1.out
  have l0 := row_lt HT1.out
  have l1 := row_lt HU1.out
  clear hb1
  go_wp2_with fail
  go_region_law (fail)
  all_goals
   (try go_wp2_with fail)
   exact bodyPost_ret (v := .tuple #[.agg #[.int .i64 0, .bool false, .int .i64 0, .string ⟨#[]⟩, .slice none 0 0, .slice none 0 0], .agg #[.int .i64 lf, .int .i64 la, .string lp]]) (by simp only [results, Tryz.results18]; go_simp) rfl (ReadE.bad HF.out (have hb01 := HB1.out; bel))
 obtain rfl := hc
 have hcode : (linesF s).2.code = 0 := by rw [<- HLf.out.1]
 obtain ⟨hok, hlen⟩ := linesF_ok hcode
 rw [<- HLf.out.2] at hok hlen
 have HOk := hid hok
 have HC := hid hcode
 clear hok hcode
 go_enter Tryz.func18, Tryz.ntmps18
 go_wp2_with fail
 refine (HLI.out _ bel).mono ?_
 rintro e w1 ⟨A, c, rfl, hrow, hb1⟩
 simp only [fltC]
 have HRow := hid hrow
 obtain ⟨N, hN⟩ : ∃ N, N = L.length := ⟨_, rfl⟩
 rw [<- hN]
 have HT1 := hid ((hb1.block w.heap.size (by simp; omega)).trans ((Below.heap_alloc _ _ _ (by simp)).trans (heap_at (w := w) (o := .cells #[.int .i64 0, .bool false, .int .i64 0, .string ⟨#[]⟩, .slice none 0 0, .slice none 0 0] 34) rfl)))
 have HU1 := hid ((hb1.block (w.heap.size + 1) (by simp)).trans (heap_at (w := w.alloc (.cells #[.int .i64 0, .bool false, .int .i64 0, .string ⟨#[]⟩, .slice none 0 0, .slice none 0 0] 34)) (o := .cells #[.int .i64 0, .int .i64 0, .string ⟨#[]⟩] 23) (by simp)))
 have HB1 := hid (bel : Below w.heap.size w w1)
 obtain ⟨x0, x1, x2, x3, x4, x5, xf⟩ := row6 HT1.out
 obtain ⟨y0, y1, y2, yf⟩ := row3 HU1.out
 have l0 := row_lt HT1.out
 have l1 := row_lt HU1.out
 clear hrow hb1
 rcases L with _ | ⟨x, t⟩
 ·obtain rfl : N = 0 := hN
  have HF := hid (show r = (fltA 4 (s.data.toList.count 10 + 1), treeZ) by rw [HR.out, readIn_empty HC.out HLf.out.2.symm])
  obtain ⟨k, hk⟩ : ∃ k, k = s.data.toList.count 10 := ⟨_, rfl⟩
  have HCt := hid (fun W => c_Count s W)
  rw [<- hk] at HCt HF
  have hkz : k <= 1048576 := by rw [hk]; exact Nat.le_trans List.count_le_length (by rw [list_size]; exact hs)
  have HE : Hid (fltC (fltA 4 (k + 1)) = #[.int .i64 4, .int .i64 (1 + (k : Int)), .string ⟨#[]⟩]) := hid (by unfold fltC fltA; simp only; rw [show ((k + 1 : Nat) : Int) = 1 + (k : Int) by omega])
  clear hk
  go_wp2_with fail
  refine (HCt.out _).mono ?_
  rintro e w2 ⟨rfl, rfl⟩
  go_wp2_with fail
  exact bodyPost_ret (v := .tuple #[.agg #[.int .i64 0, .bool false, .int .i64 0, .string ⟨#[]⟩, .slice none 0 0, .slice none 0 0], .agg #[.int .i64 4, .int .i64 (1 + (k : Int)), .string ⟨#[]⟩]]) (by simp only [results, Tryz.results18]; go_simp) rfl (HE.out ▸ ReadE.bad HF.out (have hb01 := HB1.out; bel))
 have HN := hid hN
 have hN0 : 0 < N := by rw [hN]; exact Nat.succ_pos _
 have hNz : N <= 20001 := by rw [hN]; exact hlen
 obtain ⟨g, cap, cur, hv, hgb, hgr, hcap, -, -, hcell⟩ := HRow.out.row encLn_len (Nat.succ_pos _)
 simp only [Value.slice.injEq] at hv
 obtain ⟨rfl, -, rfl⟩ := hv
 have hgb2 : w.heap.size + 2 <= g := by simp at hgb; omega
 have lg := row_lt hgr
 have HGr := hid hgr
 have HCell := hid hcell
 have hc0 : w1.cell? ⟨g, 0, none⟩ = some (.int .i64 (x.ind : Nat)) := by
  have h := hcell 0 x rfl 0 (by decide)
  rw [cell_of_row _ _ _ _ _ _ hgr]
  simpa [encLn] using h
 have hc2 : w1.cell? ⟨g, 2, none⟩ = some (.int .i64 (x.at' : Nat)) := by
  have h := hcell 0 x rfl 2 (by decide)
  rw [cell_of_row _ _ _ _ _ _ hgr]
  simpa [encLn] using h
 have hcf : ∀ o, w1.frozen? ⟨g, o, none⟩ = false := fun o => frozen_row hgr o
 have hNI : (0 : Int) < N := by omega
 have e0 : ((N : Int) == 0) = false := beq_eq_false_iff_ne.2 (by omega)
 have e0' : (N == 0) = false := beq_eq_false_iff_ne.2 (by omega)
 have hcapN : N <= c := by rw [hN]; exact hcap
 obtain ⟨xi, xt, xa⟩ := x
 simp only at hc0 hc2
 clear hgb hgr hcell hN hlen hcap
 by_cases hx : xi = 0
 rotate_left
 ·have d1 : ((xi : Int) != 0) = true := bne_iff_ne.2 (by omega)
  have d2 : ((xi : Int) == 0) = false := beq_eq_false_iff_ne.2 (by omega)
  have d3 : (xi == 0) = false := beq_eq_false_iff_ne.2 hx
  have HF := hid (show r = (fltA 4 xa, treeZ) by rw [HR.out, readIn_ind HC.out HLf.out.2.symm hx])
  go_wp2_with fail
  go_region_law (fail)
  all_goals
   (try go_wp2_with fail)
   exact bodyPost_ret (v := .tuple #[.agg #[.int .i64 0, .bool false, .int .i64 0, .string ⟨#[]⟩, .slice none 0 0, .slice none 0 0], .agg #[.int .i64 4, .int .i64 (xa : Nat), .string ⟨#[]⟩]]) (by simp only [results, Tryz.results18]; go_simp) rfl (ReadE.bad HF.out (have hb01 := HB1.out; bel))
 obtain ⟨n, hn⟩ : ∃ n, n = 3 * costL (⟨xi, xt, xa⟩ :: t) + 3 := ⟨_, rfl⟩
 have hF := HR.out.trans (readIn_main HC.out HLf.out.2.symm hx)
 rw [<- hn] at hF
 have HF := hid hF
 have HNd := hid (show needI (.value 1) (⟨xi, xt, xa⟩ :: t) <= n from Nat.le_of_eq hn.symm)
 clear hn hF
 obtain rfl := hx
 have HAll := hid (fun (b : Nat) (hb : w.heap.size <= b) => (all_in w b g N c ⟨HT.out.1, HT.out.2.1, HT.out.2.2.1, hb, by omega⟩ n).1)
 have HNe := hid hN0
 have hle1 := HB1.out.size
 clear hN0
 go_upto_region 8 with fail
 clear hc0 hc2
 obtain ⟨w2, hw2⟩ : ∃ W, W = w1.alloc (.cells #[.int .i64 0, .int .i64 la, .string lp] 23) := ⟨_, rfl⟩
 rw [<- hw2]
 have hb2 : Below w1.heap.size w1 w2 := by rw [hw2]; exact bel
 have HZ2 := hid (show w1.heap.size + 1 = w2.heap.size by rw [hw2]; simp)
 have hz2 : w1.heap.size < w2.heap.size := by rw [hw2]; simp
 have hz2a : w1.heap.size + 1 <= w2.heap.size := by rw [hw2]; simp
 have hz2b : w2.heap.size <= w1.heap.size + 1 := by rw [hw2]; simp
 obtain ⟨w3, hw3⟩ : ∃ W, W = w2.alloc (.cells #[.slice (some ⟨g, 0, none⟩) N c, .int .i64 0, .int .i64 0, .int .i64 0, .int .i64 0, .string ⟨#[]⟩] 61) := ⟨_, rfl⟩
 have HW3 := hid hw3
 have hb3 : Below w2.heap.size w2 w3 := by rw [hw3]; exact bel
 have hz3 : w2.heap.size < w3.heap.size := by rw [hw3]; simp
 have hI3 : InAt 61 w2.heap.size g N c (⟨0, xt, xa⟩ :: t) 0 flt0 w3 := ⟨0, cur, (Nat.zero_add _).trans HN.out.symm, hcapN, hNz, by omega, by rw [hw3]; exact heap_at rfl, (hb3.block _ (by omega)).trans ((hb2.block g lg).trans HGr.out), fun i x hx => by
  have h0 := HCell.out i x hx 0 (by decide)
  have h1 := HCell.out i x hx 1 (by decide)
  have h2 := HCell.out i x hx 2 (by decide)
  refine ⟨?_, ?_, ?_⟩
  ·simpa [encLn] using h0
  ·simpa [encLn] using h1
  ·simpa [encLn] using h2⟩
 have HI3 := hid hI3
 have HB3 := hid ((HB1.out.trans (hb2.mono HB1.out.size)).trans (hb3.mono (by have := HB1.out.size; omega)))
 have HT3 := hid ((hb3.block _ (by omega)).trans ((hb2.block _ l0).trans HT1.out))
 have HU3 := hid ((hb3.block _ (by omega)).trans ((hb2.block _ l1).trans HU1.out))
 have hsw : w.heap.size + 1 < w1.heap.size := l1
 clear hw2 hb2 hw3 hb3 hI3 x0 x1 x2 x3 x4 x5 xf y0 y1 y2 yf l0 l1
 go_wp2_with fail
 rw [<- HW3.out]
 refine (HAll.out w2.heap.size (by omega) 1 _ _ 0 w3 (by decide) (by decide) (Nat.zero_le _) HOk.out HNd.out HB3.out HI3.out).mono ?_
 intro e w4 hv4
 obtain ⟨res, hres⟩ : ∃ q, q = readK n (.value 1) (⟨0, xt, xa⟩ :: t) 0 := ⟨_, rfl⟩
 rw [<- hres] at hv4
 have HF2 := HF.out
 rw [<- hres] at HF2
 have HF3 := hid HF2
 obtain ⟨cs, L', m', f', rfl, hT, hI4, hO4, hA4, hm4⟩ := hv4
 have hs4 := hA4.size
 have hB4 : Below w.heap.size w w4 := HB3.out.trans (hA4.below HB3.out.size (fun i hi => by omega))
 have HT4 := hid ((hA4.block _ (by omega) (by omega)).trans HT3.out)
 have HU4 := hid ((hA4.block _ (by omega) (by omega)).trans HU3.out)
 have HB4 := hid hB4
 have HI4 := hid hI4
 obtain ⟨u0, u1, u2, u3, U4, u4, u44, U5, u5, u55, rfl⟩ := hT
 have hG : (f'.code ≠ 0 /\ r = (f', treeZ)) ∨ (f' = flt0 /\ ∃ t5, (L' = [] -> r = (flt0, t5)) /\ (∀ y q, L' = y :: q -> r = (fltA 4 y.at', treeZ)) /\ OwnT 9 (fun x => w3.heap.size <= x /\ x < w4.heap.size) w4 t5 [.int .i64 u0, .bool u1, .int .i64 u2, .string u3, .slice U4 u4 u44, .slice U5 u5 u55]) := by
  rcases res with fb | ⟨t5, L5, m5⟩
  ·obtain ⟨rfl, hne⟩ := hm4
   exact .inl ⟨hne, HF3.out⟩
  ·obtain ⟨e1, e2, e3, e4⟩ := hm4
   refine .inr ⟨e1, t5, fun e => ?_, fun y q e => ?_, e4⟩
   ·subst e2
    subst e
    exact HF3.out
   ·subst e2
    subst e
    exact HF3.out
 have HG := hid hG
 clear hA4 hB4 hI4 hm4 hG hres HF2 hO4
 obtain ⟨p4, hbx⟩ := HI4.out.open
 have hpos := hbx.pos
 obtain ⟨a0, a1, a2, a3, a4, a5, af⟩ := row6 hbx.row
 have lb := row_lt hbx.row
 have HLn := hid hbx.line
 have lg4 := hbx.lines
 obtain ⟨x0, x1, x2, x3, x4, x5, xf⟩ := row6 HT4.out
 obtain ⟨y0, y1, y2, yf⟩ := row3 HU4.out
 have l0 := row_lt HT4.out
 have l1 := row_lt HU4.out
 obtain ⟨fc, fa, fp⟩ := f'
 simp only at a3 a4 a5
 clear hbx
 rcases L' with _ | ⟨⟨yi, yt, ya⟩, q⟩
 ·obtain rfl : p4 = N := by simpa using hpos
  rcases HG.out with ⟨hne, hre⟩ | ⟨he, t5, hre, -, hown⟩
  ·have d1 : (fc != 0) = true := bne_iff_ne.2 hne
   have d2 : (fc == 0) = false := beq_eq_false_iff_ne.2 hne
   have HRe := hid hre
   clear hne hre
   go_upto_region 13 with fail
   go_region_law (fail)
   all_goals
    (try go_wp2_with fail)
    exact bodyPost_ret (v := .tuple #[.agg #[.int .i64 0, .bool false, .int .i64 0, .string ⟨#[]⟩, .slice none 0 0, .slice none 0 0], .agg #[.int .i64 fc, .int .i64 fa, .string fp]]) (by simp only [results, Tryz.results18]; go_simp) rfl (ReadE.bad HRe.out (have hb04 := HB4.out; bel))
  ·have HRe := hid (hre rfl)
   have HOwn := hid hown
   cases he
   clear hre hown
   go_wp2_with fail
   exact bodyPost_ret (v := .tuple #[.agg #[.int .i64 u0, .bool u1, .int .i64 u2, .string u3, .slice U4 u4 u44, .slice U5 u5 u55], .agg #[.int .i64 0, .int .i64 0, .string ⟨#[]⟩]]) (by simp only [results, Tryz.results18]; go_simp) rfl ⟨[.int .i64 u0, .bool u1, .int .i64 u2, .string u3, .slice U4 u4 u44, .slice U5 u5 u55], by rw [HRe.out]; rfl, by rw [HRe.out]; exact (HOwn.out.up (by decide)).carry (fun q hq => Aside.block (S := fun q => q = w.heap.size ∨ q = w.heap.size + 1) asd q hq.2 (by omega)) (fun q hq => ⟨by omega, by simp; omega⟩), (have hb04 := HB4.out; bel)⟩
 ·have hpN : (p4 : Int) < N := by rw [List.length_cons] at hpos; omega
  have hp0 : (0 : Int) <= p4 := by omega
  obtain ⟨c0, c1, c2, cf⟩ := HLn.out _ _ rfl
  simp only at c0 c1 c2
  go_wp2_with fail
  have HI5 := hid (HI4.out.below (w' := w4.alloc (.cells #[.int .i64 u0, .bool u1, .int .i64 u2, .string u3, .slice U4 u4 u44, .slice U5 u5 u55] 34)) bel)
  refine (c_in_fail w2.heap.size g N c _ m' ⟨fc, fa, fp⟩ 4 ya _ HI5.out).mono ?_
  rintro e w5 ⟨rfl, hI5, hA5⟩
  obtain ⟨F5, hF5⟩ : ∃ F5, F5 = failF ⟨fc, fa, fp⟩ 4 ya := ⟨_, rfl⟩
  rw [<- hF5] at hI5
  have hG5 : F5.code ≠ 0 /\ r = (F5, treeZ) := by
   rcases HG.out with ⟨hne, hre⟩ | ⟨he, t5, -, hre, -⟩
   ·have e : F5 = ⟨fc, fa, fp⟩ := hF5.trans (if_neg hne)
    subst e
    exact ⟨hne, hre⟩
   ·have e : F5 = fltA 4 ya := by rw [hF5, he]; exact if_pos rfl
    subst e
    exact ⟨by show (4 : Int) ≠ 0; decide, hre _ _ rfl⟩
  have HB5 := hid (show Below w.heap.size w w5 from (HB4.out.trans (have hle := HB4.out.size; Below.alloc (Below.refl _ _) hle _)).trans (hA5.below (by have := HB4.out.size; simp; omega) (fun i hi => by omega)))
  have HT5 := hid ((hA5.block _ (by simp; omega) (by omega)).trans ((Below.heap_alloc _ _ _ (by omega)).trans HT4.out))
  have HU5 := hid ((hA5.block _ (by simp; omega) (by omega)).trans ((Below.heap_alloc _ _ _ (by omega)).trans HU4.out))
  have HG5 := hid hG5
  obtain ⟨p5, hbx⟩ := hI5.open
  clear a0 a1 a2 a3 a4 a5 af lb x0 x1 x2 x3 x4 x5 xf y0 y1 y2 yf l0 l1 c0 c1 c2 cf hI5 hA5 hF5 hG5
  obtain ⟨a0, a1, a2, a3, a4, a5, af⟩ := row6 hbx.row
  have lb := row_lt hbx.row
  obtain ⟨x0, x1, x2, x3, x4, x5, xf⟩ := row6 HT5.out
  obtain ⟨y0, y1, y2, yf⟩ := row3 HU5.out
  have l0 := row_lt HT5.out
  have l1 := row_lt HU5.out
  obtain ⟨gc, ga, gp⟩ := F5
  simp only at a3 a4 a5
  have d1 : (gc != 0) = true := bne_iff_ne.2 HG5.out.1
  have d2 : (gc == 0) = false := beq_eq_false_iff_ne.2 HG5.out.1
  clear hbx
  go_upto_region 13 with fail
  go_region_law (fail)
  all_goals
   (try go_wp2_with fail)
   exact bodyPost_ret (v := .tuple #[.agg #[.int .i64 0, .bool false, .int .i64 0, .string ⟨#[]⟩, .slice none 0 0, .slice none 0 0], .agg #[.int .i64 gc, .int .i64 ga, .string gp]]) (by simp only [results, Tryz.results18]; go_simp) rfl (ReadE.bad HG5.out.2 (have hb05 := HB5.out; bel))
theorem readIn_flt (s : ByteArray) (h : (readIn s).1.code = 0) : (readIn s).1 = flt0 := by
 by_cases hf : (linesF s).2.code = 0
 rotate_left
 ·rw [readIn_fault hf] at h
  exact absurd h hf
 rcases hL : (linesF s).1 with _ | ⟨x, r⟩
 ·rw [readIn_empty hf hL] at h
  exact absurd (show (4 : Int) = 0 from h) (by decide)
 by_cases hx : x.ind = 0
 rotate_left
 ·rw [readIn_ind hf hL hx] at h
  exact absurd (show (4 : Int) = 0 from h) (by decide)
 rw [readIn_main hf hL hx] at h ⊢
 rcases hk : readK (3 * costL (x :: r) + 3) (.value 1) (x :: r) 0 with f | ⟨t, L, m⟩
 ·rw [hk] at h
  exact absurd h (readK_code _ _ _ _ _ hk (Nat.le_refl _) (by unfold jobNe; simp))
 ·rcases L with _ | ⟨y, q⟩
  ·rfl
  ·rw [hk] at h
   exact absurd (show (4 : Int) = 0 from h) (by decide)
theorem readIn_tree (s : ByteArray) (h : ¬ (readIn s).1.code = 0) : (readIn s).2 = treeZ := by
 by_cases hf : (linesF s).2.code = 0
 rotate_left
 ·rw [readIn_fault hf]
 rcases hL : (linesF s).1 with _ | ⟨x, r⟩
 ·rw [readIn_empty hf hL]
 by_cases hx : x.ind = 0
 rotate_left
 ·rw [readIn_ind hf hL hx]
 rw [readIn_main hf hL hx] at h ⊢
 rcases hk : readK (3 * costL (x :: r) + 3) (.value 1) (x :: r) 0 with f | ⟨t, L, m⟩
 ·rfl
 ·rcases L with _ | ⟨y, q⟩
  ·rw [hk] at h
   exact absurd rfl h
  ·rfl
theorem size_readIn (s : ByteArray) : sizeT 10 (readIn s).2 <= 1073741824 := by
 by_cases h : (readIn s).1.code = 0
 ·have := (okT_parts (readIn_ok h).1).1
  omega
 ·rw [readIn_tree s h]
  decide
theorem toL_len (s : ByteArray) : s.data.toList.length = s.size := Array.length_toList
theorem bad_kids {d : TreeD} (h : badH d = false) : d.kind <= 6 /\ (d.kind < 5 -> d.kids = []) := by
 unfold badH at h
 simp only [Bool.or_eq_false_iff, Bool.not_eq_false', Bool.and_eq_false_iff, bne_eq_false_iff_eq, decide_eq_false_iff_not, Nat.not_lt, Nat.le_zero, List.length_eq_zero_iff] at h
 obtain ⟨⟨⟨⟨⟨h1, -⟩, -⟩, -⟩, -⟩, h6⟩ := h
 refine ⟨?_, fun hk => h6.resolve_right (by omega)⟩
 unfold inB at h1
 exact (of_decide_eq_true h1).2
theorem linesT_leaf {n : Nat} {d : TreeD} (h : d.kids = []) : linesT (n + 1) d = [(scalText d).data.toList] := by rw [linesT, if_pos h]
theorem linesT_kids {n : Nat} {d : TreeD} (h : d.kids ≠ []) : linesT (n + 1) d = manyL (kidLines (linesT n) d) d.kids.length := by rw [linesT, if_neg h]
theorem key_big {s : ByteArray} (h : s.size <= 400) : (keyText s).size <= 2402 := by
 unfold keyText
 split
 ·omega
 ·have := quote_len s
  have e : (quoteB s).data.toList.length = (quoteB s).size := Array.length_toList
  omega
theorem strB_size {s : ByteArray} (h : strB s = true) : s.size <= 400 := by
 unfold strB at h
 simp only [Bool.and_eq_true, decide_eq_true_eq] at h
 exact h.1
theorem scal_big {n : Nat} {d : TreeD} (h : shapeT (n + 1) d = true) (hn : numT (n + 1) d) : (scalText d).size <= 2402 := by
 unfold scalText
 split
 ·exact key_big (strB_size (shape_parts h).2.1)
 split
 ·decide
 split
 ·decide
 split
 ·decide
 split
 ·split <;> decide
 ·have := decS_size _ hn.1
  omega
structure LinB (n : Nat) (d : TreeD) : Prop where
 hd : ∃ x r, linesT n d = x :: r
 many : (linesT n d).length <= sizeT n d
 more : d.kids ≠ [] -> (linesT n d).length + 1 <= sizeT n d
 long : ∀ x ∈ linesT n d, x.length <= 4806 + 2 * depthT n d
 leaf : d.kids = [] -> ∀ x ∈ linesT n d, x.length <= 2402
theorem blank2_len (L : List (List UInt8)) : (blank2 L).length = L.length := List.length_map _
theorem kid_one {f : TreeD -> List (List UInt8)} {d t : TreeD} {i : Nat} {k : ByteArray} (h6 : d.kind = 6) (ht : d.kids[i]? = some t) (hk : d.keys[i]? = some k) (hl : t.kids = []) : kidLines f d i = [(keyText k).data.toList ++ [58, 32] ++ (f t).headD []] := by
 unfold kidLines
 rw [ht]
 simp only [if_pos h6, hk, if_pos hl]
theorem kid_more {f : TreeD -> List (List UInt8)} {d t : TreeD} {i : Nat} {k : ByteArray} (h6 : d.kind = 6) (ht : d.kids[i]? = some t) (hk : d.keys[i]? = some k) (hl : t.kids ≠ []) : kidLines f d i = ((keyText k).data.toList ++ [58]) :: blank2 (f t) := by
 unfold kidLines
 rw [ht]
 simp only [if_pos h6, hk, if_neg hl]
theorem kid_item {f : TreeD -> List (List UInt8)} {d t : TreeD} {i : Nat} {x : List UInt8} {r : List (List UInt8)} (h6 : d.kind ≠ 6) (ht : d.kids[i]? = some t) (hx : f t = x :: r) : kidLines f d i = ([45, 32] ++ x) :: blank2 r := by
 unfold kidLines
 rw [ht]
 simp only [if_neg h6, hx]
theorem kind_kids {n : Nat} {d : TreeD} (h : shapeT (n + 1) d = true) (hk : d.kids ≠ []) : d.kind = 5 ∨ (d.kind = 6 /\ d.keys.length = d.kids.length) := by
 obtain ⟨h1, -, h3, -, -⟩ := shape_parts h
 obtain ⟨k2, p6⟩ := bad_kids h1
 by_cases c : d.kind = 6
 ·right
  refine ⟨c, ?_⟩
  unfold lensOk at h3
  simp [c] at h3
  exact h3
 ·left
  by_cases c5 : d.kind < 5
  ·exact absurd (p6 c5) hk
  ·omega
theorem kid_lin {n i : Nat} {d t : TreeD} (h : shapeT (n + 1) d = true) (ht : d.kids[i]? = some t) (hb : LinB n t) :
  (∃ x r, kidLines (linesT n) d i = x :: r) /\ (kidLines (linesT n) d i).length <= sizeT n t /\ ∀ x ∈ kidLines (linesT n) d i, x.length <= 4806 + 2 * depthT (n + 1) d := by
 have hne : d.kids ≠ [] := fun e => by rw [e] at ht; cases ht
 obtain ⟨x, r, hx⟩ := hb.hd
 have hdk := (depth_kid (n := n) ht).2
 have hbl : ∀ L : List (List UInt8), (∀ z ∈ L, z.length <= 4806 + 2 * depthT n t) -> ∀ y ∈ blank2 L, y.length <= 4806 + 2 * depthT (n + 1) d := fun L hL y hy => by
  have hdk := (depth_kid (n := n) ht).2
  unfold blank2 at hy
  obtain ⟨z, hz, rfl⟩ := List.mem_map.1 hy
  have := hL z hz
  simp only [List.length_append, List.length_cons, List.length_nil]
  omega
 rcases kind_kids h hne with h5 | ⟨h6, hl⟩
 ·rw [kid_item (by omega) ht hx]
  refine ⟨⟨_, _, rfl⟩, ?_, fun y hy => ?_⟩
  ·have := hb.many
   rw [hx] at this
   simp only [List.length_cons, blank2_len] at this ⊢
   omega
  ·have h1 := hb.long
   rw [hx] at h1
   rcases List.mem_cons.1 hy with rfl | hy
   ·have := h1 x (by simp)
    simp only [List.length_append, List.length_cons, List.length_nil]
    omega
   ·exact hbl r (fun z hz => h1 z (by simp [hz])) y hy
 ·obtain ⟨k, hk⟩ := exists_at (show i < d.keys.length by have := (List.getElem?_eq_some_iff.1 ht).1; omega)
  have hkz := key_big (shape_key h hk)
  rw [<- toL_len] at hkz
  by_cases hlf : t.kids = []
  ·rw [kid_one h6 ht hk hlf]
   refine ⟨⟨_, _, rfl⟩, ?_, fun y hy => ?_⟩
   ·have := hb.many
    rw [hx] at this
    simp only [List.length_cons, List.length_nil] at this ⊢
    omega
   ·rcases List.mem_singleton.1 hy with rfl
    have := hb.leaf hlf x (by rw [hx]; simp)
    rw [hx]
    simp only [List.length_append, List.length_cons, List.length_nil, List.headD_cons]
    omega
  ·rw [kid_more h6 ht hk hlf]
   refine ⟨⟨_, _, rfl⟩, ?_, fun y hy => ?_⟩
   ·have := hb.more hlf
    simp only [List.length_cons, blank2_len]
    omega
   ·rcases List.mem_cons.1 hy with rfl | hy
    ·simp only [List.length_append, List.length_cons, List.length_nil]
     omega
    ·exact hbl _ hb.long y hy
theorem many_lin {g : Nat -> List (List UInt8)} {f : TreeD -> Nat} {l : List TreeD} {m : Nat} : ∀ k, k <= l.length -> (∀ i t, i < k -> l[i]? = some t -> (g i).length <= f t /\ ∀ x ∈ g i, x.length <= m) -> (manyL g k).length <= szL f (l.take k) /\ ∀ x ∈ manyL g k, x.length <= m
 | 0, _, _ => ⟨Nat.zero_le _, fun x hx => by cases hx⟩
 | k + 1, hk, h => by
  obtain ⟨h1, h2⟩ := many_lin k (by omega) (fun i t hi => h i t (by omega))
  obtain ⟨t, ht⟩ := exists_at (show k < l.length by omega)
  obtain ⟨h3, h4⟩ := h k t (Nat.lt_succ_self k) ht
  refine ⟨?_, fun x hx => ?_⟩
  ·rw [manyL, List.length_append, szL_take_succ f l k t ht]
   omega
  ·rw [manyL] at hx
   rcases List.mem_append.1 hx with hx | hx
   ·exact h2 x hx
   ·exact h4 x hx
theorem manyL_hd {g : Nat -> List (List UInt8)} {x : List UInt8} {r : List (List UInt8)} (h : g 0 = x :: r) : ∀ k, ∃ y q, manyL g (k + 1) = y :: q
 | 0 => ⟨x, r, by rw [manyL, manyL, h]; rfl⟩
 | k + 1 => by
  obtain ⟨y, q, e⟩ := manyL_hd h k
  exact ⟨y, q ++ g (k + 1), by rw [manyL, e]; rfl⟩
theorem lin_ok : ∀ (n : Nat) (d : TreeD), shapeT n d = true -> numT n d -> LinB n d
 | 0, _, h, _ => by cases h
 | n + 1, d, h, hn => by
  by_cases hk : d.kids = []
  ·have hs := scal_big h hn
   rw [<- toL_len] at hs
   refine ⟨⟨_, _, linesT_leaf hk⟩, ?_, fun e => absurd hk e, fun x hx => ?_, fun _ x hx => ?_⟩
   ·rw [linesT_leaf hk, sizeT_succ]
    simp only [List.length_cons, List.length_nil]
    omega
   ·rw [linesT_leaf hk] at hx
    rcases List.mem_singleton.1 hx with rfl
    omega
   ·rw [linesT_leaf hk] at hx
    rcases List.mem_singleton.1 hx with rfl
    exact hs
  ·have hall : ∀ i t, d.kids[i]? = some t -> (∃ x r, kidLines (linesT n) d i = x :: r) /\ (kidLines (linesT n) d i).length <= sizeT n t /\ ∀ x ∈ kidLines (linesT n) d i, x.length <= 4806 + 2 * depthT (n + 1) d := fun i t ht =>
    kid_lin h ht (lin_ok n t (shape_kid h ht) (hn.2 t (List.mem_of_getElem? ht)))
   have hpos : 0 < d.kids.length := List.length_pos_iff.2 hk
   obtain ⟨h1, h2⟩ := many_lin (g := kidLines (linesT n) d) (f := sizeT n) (l := d.kids) (m := 4806 + 2 * depthT (n + 1) d) d.kids.length (Nat.le_refl _) (fun i t _ ht => (hall i t ht).2)
   rw [List.take_of_length_le (Nat.le_refl _)] at h1
   have hm : (linesT (n + 1) d).length + 1 <= sizeT (n + 1) d := by
    rw [linesT_kids hk, sizeT_succ]
    omega
   refine ⟨?_, by omega, fun _ => hm, fun x hx => ?_, fun e => absurd e hk⟩
   ·obtain ⟨q, hq⟩ : ∃ q, d.kids.length = q + 1 := ⟨d.kids.length - 1, by omega⟩
    obtain ⟨t, ht⟩ := exists_at hpos
    obtain ⟨x, r, hx⟩ := (hall 0 t ht).1
    rw [linesT_kids hk, hq]
    exact manyL_hd hx q
   ·rw [linesT_kids hk] at hx
    exact h2 x hx
theorem manyL_next (g : Nat -> List (List UInt8)) (k : Nat) : manyL g (k + 1) = manyL g k ++ g k := rfl
def txts (L : List (List UInt8)) : List ByteArray := L.map bs
theorem txts_app (a b : List (List UInt8)) : txts (a ++ b) = txts a ++ txts b := List.map_append
theorem txts_len (L : List (List UInt8)) : (txts L).length = L.length := List.length_map _
theorem bs_cat (a b : List UInt8) : bs (a ++ b) = bs a ++ bs b := by
 unfold bs
 apply ByteArray.ext
 simp
theorem bs_self (s : ByteArray) : bs s.data.toList = s := by unfold bs; simp
def RowS (base : Nat) (w : World) (L : List ByteArray) (n : Nat) (v : Value) : Prop := n = L.length /\ w.ownsRow base 9 1 v n (L.map Value.string)
theorem RowS.carry {base n : Nat} {w w' : World} {L : List ByteArray} {v : Value} (h : RowS base w L n v) (hb : ∀ q, v.ownBlock = some q -> w'.heap[q]? = w.heap[q]?) : RowS base w' L n v := ⟨h.1, ownsRow_carry h.2 hb⟩
theorem RowS.lt {base n : Nat} {w : World} {L : List ByteArray} {v : Value} (h : RowS base w L n v) {q : Nat} (hq : v.ownBlock = some q) : base <= q /\ q < w.heap.size := World.ownsRow.lt h.2 q hq
theorem RowS.below {base n : Nat} {w w' : World} {L : List ByteArray} {v : Value} (h : RowS base w L n v) (hb : Below w.heap.size w w') : RowS base w' L n v := h.carry (fun q hq => hb.block q (h.lt hq).2)
theorem RowS.less {base base' n : Nat} {w : World} {L : List ByteArray} {v : Value} (h : RowS base w L n v) (hb : base' <= base) : RowS base' w L n v := ⟨h.1, own_less h.2 hb⟩
theorem RowS.empty {w : World} {base B : Nat} (hB : B = w.heap.size) (hb : base <= w.heap.size) : RowS base (w.alloc (.cells #[] 9)) [] 0 (.slice (some ⟨B, 0, none⟩) 0 0) := ⟨rfl, own_empty hB hb⟩
theorem RowS.open {base n c : Nat} {A : Option Addr} {w : World} {L : List ByteArray} (h : RowS base w L n (.slice A n c)) (hp : 0 < n) : ∃ q, A = some ⟨q, 0, none⟩ /\ base <= q /\ q < w.heap.size /\ n <= c /\ ∀ i s, L[i]? = some s -> w.cell? ⟨q, i, none⟩ = some (.string s) := by
 obtain ⟨rfl, h2⟩ := h
 rcases h2.2 with ⟨h0, h1⟩ | ⟨g, cap, cur, h0, hb, hg, hn, hcm, hcs, ht⟩
 ·omega
 ·cases h0
  refine ⟨g, rfl, hb, row_lt hg, hn, fun i s hi => ?_⟩
  have hil := (List.getElem?_eq_some_iff.1 hi).1
  have : (cur.toList.take (L.length * 1))[i]? = (L.map Value.string)[i]? := by rw [ht]
  rw [List.getElem?_take, if_pos (by omega), Array.getElem?_toList, List.getElem?_map, hi] at this
  rw [cell_of_row w g _ cur _ _ hg]
  simpa using this
theorem own_str1 (w : World) (s : ByteArray) : (w.alloc (.cells #[.string s] 9)).ownsRow w.heap.size 9 1 (.slice (some ⟨w.heap.size, 0, none⟩) 1 1) 1 [.string s] :=
 ⟨rfl, .inr ⟨w.heap.size, 1, #[.string s], rfl, Nat.le_refl _, heap_alloc_new w _, Nat.le_refl _, by unfold maxLen; omega, rfl, rfl⟩⟩
theorem RowS.one (w : World) (s : ByteArray) (base : Nat) (hb : base <= w.heap.size) : RowS base (w.alloc (.cells #[.string s] 9)) [s] 1 (.slice (some ⟨w.heap.size, 0, none⟩) 1 1) := ⟨rfl, own_less (own_str1 w s) hb⟩
theorem rowS_push (wx : World) (base n c : Nat) (A : Option Addr) (L : List ByteArray) (s : ByteArray) (h : RowS base wx L n (.slice A n c)) (hsz : n <= 1048576) (hbase : base <= wx.heap.size) :
  ∃ (A' : Option Addr) (c' : Nat) (w' : World), (Builtin.append_ #[31, 31] 31 #[.slice A n c, .slice (some ⟨wx.heap.size, 0, none⟩) 1 1]).run Tryz.prog (wx.alloc (.cells #[.string s] 9)) = .ok (.slice A' (n + 1) c') w' /\ RowS base w' (L ++ [s]) (n + 1) (.slice A' (n + 1) c') /\ Grb wx (.slice A n c) w' (.slice A' (n + 1) c') := by
 obtain ⟨i0, hi, hz0, hz1, hz2⟩ := info_parts (show (Tryz.prog.info? 9).map (fun i => (i.zero, i.size, i.bytes)) = some (some (.string ⟨#[]⟩), 1, 16) from by kernel_rfl)
 obtain ⟨hn, h⟩ := h
 have hb : Below wx.heap.size wx (wx.alloc (.cells #[.string s] 9)) := bel
 have h' := ownsRow_carry h (fun q hq => hb.block q (World.ownsRow.lt h q hq).2)
 obtain ⟨v', w', hr, h2, h3, h5⟩ := run_append_row (P := Tryz.prog) (wx.alloc (.cells #[.string s] 9)) 31 31 base 9 i0 (.string ⟨#[]⟩) 1 16 Tryz.underlying31 hi hz0 hz1 hz2 rfl (by decide) (.slice A n c) n _ h' wx.heap.size 1 _ _ (own_str1 wx s) (fun u hu => by rcases List.mem_singleton.1 hu with rfl; rfl) (by unfold maxLen; omega) (by omega) (by simp; omega)
 obtain ⟨A', c', rfl⟩ := own_form h2
 exact ⟨A', c', w', hr, ⟨by rw [List.length_append, <- hn]; rfl, by rw [List.map_append]; exact h2⟩, (Grb.of _ hb).trans (Grb.of_at h3 h5)⟩
theorem ok_leaf {n : Nat} {d : TreeD} (h : shapeT (n + 1) d = true) (hk : d.kids = []) : okT (n + 1) d = true := by
 have h1 : depthT (n + 1) d = 1 := by rw [depthT_succ, hk]; rfl
 have h2 : sizeT (n + 1) d = 1 := by rw [sizeT_succ, hk]; rfl
 rw [okT_def, h1, h2, h]
 rfl
theorem scal_4 {d : TreeD} (h : d.kind = 4) : scalText d = keyText d.text := if_pos h
theorem scal_5 {d : TreeD} (h : d.kind = 5) : scalText d = bs [91, 93] := by unfold scalText; rw [if_neg (by omega), if_pos h]
theorem scal_6 {d : TreeD} (h : d.kind = 6) : scalText d = bs [123, 125] := by unfold scalText; rw [if_neg (by omega), if_neg (by omega), if_pos h]
theorem scal_1 {d : TreeD} (h : d.kind = 1) : scalText d = bs litN := by unfold scalText; rw [if_neg (by omega), if_neg (by omega), if_neg (by omega), if_pos h]
theorem scal_2 {d : TreeD} (h : d.kind = 2) : scalText d = if d.flag then bs litT else bs litF := by unfold scalText; rw [if_neg (by omega), if_neg (by omega), if_neg (by omega), if_neg (by omega), if_pos h]
theorem scal_3 {d : TreeD} (h : d.kind = 3) : scalText d = decS d.num := by unfold scalText; rw [if_neg (by omega), if_neg (by omega), if_neg (by omega), if_neg (by omega), if_neg (by omega)]
theorem scal_say {n : Nat} {d : TreeD} (h : 1 <= d.kind /\ d.kind <= 3) : scalText d = bs (sayL (n + 1) d) := by
 rw [sayL_succ]
 by_cases c1 : d.kind = 1
 ·rw [if_pos c1, scal_1 c1]
 by_cases c2 : d.kind = 2
 ·rw [if_neg c1, if_pos c2, scal_2 c2]
  split <;> rfl
 ·rw [if_neg c1, if_neg c2, if_pos (by omega), scal_3 (by omega), bs_self]
theorem kind_of {n : Nat} {d : TreeD} (h : shapeT (n + 1) d = true) : 1 <= d.kind /\ d.kind <= 6 := by
 have hb := (shape_parts h).1
 unfold badH at hb
 simp only [Bool.or_eq_false_iff, Bool.not_eq_false', Bool.and_eq_false_iff] at hb
 obtain ⟨⟨⟨⟨⟨h1, -⟩, -⟩, -⟩, -⟩, -⟩ := hb
 unfold inB at h1
 exact of_decide_eq_true h1
theorem c_impl_KeyText (s : ByteArray) (w : World) (hs : s.size <= 1048576) (hT : Tabs w) :
  Calls Tryz.prog 157 #[.string s] w fun e w' => e = .returned (.string (keyText s)) /\ Below w.heap.size w w' := by
 have HP := hid (c_impl_PlainOk s w hs hT)
 have HQ := hid (fun (W : World) (h : Below w.heap.size w W) => c_impl_Quoted s W hs (hT.below h))
 obtain ⟨r, hr⟩ : ∃ r, r = keyText s := ⟨_, rfl⟩
 rw [<- hr]
 have HR := hid hr
 clear hT hr
 rcases hp : plainB s with _ | _
 ·have HF := hid (show r = quoteB s by rw [HR.out]; unfold keyText; rw [hp]; rfl)
  rw [hp] at HP
  clear hp
  go_enter Tryz.func157, Tryz.ntmps157
  go_wp2_with fail
  refine HP.out.mono ?_
  rintro e w1 ⟨rfl, hb1⟩
  go_wp2_with fail
  refine (HQ.out w1 hb1).mono ?_
  rintro e w2 ⟨rfl, hb2⟩
  have HB := hid (hb1.trans (hb2.mono hb1.size))
  go_wp2_with fail
  go_ret
  exact ⟨by rw [HF.out]; rfl, HB.out⟩
 ·have HF := hid (show r = s by rw [HR.out]; unfold keyText; rw [hp]; rfl)
  rw [hp] at HP
  clear hp
  go_enter Tryz.func157, Tryz.ntmps157
  go_wp2_with fail
  refine HP.out.mono ?_
  rintro e w1 ⟨rfl, hb1⟩
  have HB := hid hb1
  go_wp2_with fail
  go_ret
  exact ⟨by rw [HF.out]; rfl, HB.out⟩
theorem c_spec_KeyText (s : ByteArray) (w : World) (hs : s.size <= 1048576) :
  Calls Tryz.prog 159 #[.string s] w fun e w' => e = .returned (.string (keyText s)) /\ Below w.heap.size w w' := by
 have HP := hid (c_spec_PlainOk s w hs)
 have HQ := hid (fun (W : World) => c_spec_Quoted s W hs)
 obtain ⟨r, hr⟩ : ∃ r, r = keyText s := ⟨_, rfl⟩
 rw [<- hr]
 have HR := hid hr
 clear hr
 rcases hp : plainB s with _ | _
 ·have HF := hid (show r = quoteB s by rw [HR.out]; unfold keyText; rw [hp]; rfl)
  rw [hp] at HP
  clear hp
  go_enter Tryz.func159, Tryz.ntmps159
  go_wp2_with fail
  refine HP.out.mono ?_
  rintro e w1 ⟨rfl, hb1⟩
  go_wp2_with fail
  refine (HQ.out w1).mono ?_
  rintro e w2 ⟨rfl, hb2⟩
  have HB := hid (hb1.trans (hb2.mono hb1.size))
  go_wp2_with fail
  go_ret
  exact ⟨by rw [HF.out]; rfl, HB.out⟩
 ·have HF := hid (show r = s by rw [HR.out]; unfold keyText; rw [hp]; rfl)
  rw [hp] at HP
  clear hp
  go_enter Tryz.func159, Tryz.ntmps159
  go_wp2_with fail
  refine HP.out.mono ?_
  rintro e w1 ⟨rfl, hb1⟩
  have HB := hid hb1
  go_wp2_with fail
  go_ret
  exact ⟨by rw [HF.out]; rfl, HB.out⟩
theorem c_impl_ScalarText (n : Nat) (d : TreeD) (cs : List Value) (w : World) (lo : Nat) (h : C_Tree (n + 1) lo w.heap.size w d cs) (hk : d.kids = []) (hsh : shapeT (n + 1) d = true) (hT : Tabs w) (hP : Pow w) :
  Calls Tryz.prog 156 #[.agg cs.toArray] w fun e w' => e = .returned (.tuple #[.string (scalText d), .bool true]) /\ Below w.heap.size w w' := by
 have hz1 : sizeT (n + 1) d = 1 := by rw [sizeT_succ, hk]; rfl
 have HK := hid (fun (W : World) (hb : Below w.heap.size w W) => ok_leaf hsh hk ▸ c_impl_TreeOk (n + 1) d cs W lo (h.now hb) (by omega) (hT.below hb))
 have HS := hid (fun (W : World) (hb : Below w.heap.size w W) => all_sayI (n + 1) d cs W w lo w.heap.size 0 0 none [] (h.old hb) hsh hb.size (by omega) (bufN_nil _ _) hT hP (Nat.le_refl _) hb)
 have HKT := hid (fun (W : World) (hb : Below w.heap.size w W) => c_impl_KeyText d.text W (by have := strB_size (shape_parts hsh).2.1; omega) (hT.below hb))
 have hk6 := kind_of hsh
 obtain ⟨r, hr⟩ : ∃ r, r = scalText d := ⟨_, rfl⟩
 rw [<- hr]
 obtain ⟨y, hy⟩ : ∃ y, y = sayL (n + 1) d := ⟨_, rfl⟩
 rw [<- hy] at HS
 have HR := hid hr
 have HY := hid hy
 obtain ⟨A4, c4, A5, c5, rfl⟩ := C_Tree.open h
 clear h hsh hT hP hz1 hr hy
 obtain ⟨dk, df, dn, dt, dks, dkd⟩ := d
 simp only at hk hk6 HK HS HKT HR HY ⊢
 subst hk
 simp only [List.length_nil] at HK HS ⊢
 simp only [Nat.zero_add, List.nil_append] at HS
 by_cases k4 : dk = 4
 ·have d4 : (dk == 4) = true := beq_iff_eq.2 k4
  have HF := hid (show r = keyText dt from HR.out.trans (scal_4 k4))
  clear k4
  go_enter Tryz.func156, Tryz.ntmps156
  go_upto_region 3 with (go_at_call 81; refine (HK.out _ bel).mono ?_; rintro e w1 ⟨rfl, hb⟩; (first | (have hcu2 := Cum.join hcu hb; (try clear hcu); (try clear hc); (try clear hfz); (try clear hsz); (try clear hs0); (try clear hs1); (try clear hs2); (try clear hs3); (try clear hs4); ) | have hcu2 := Cum.mk hb); have hcu := hcu2; clear hcu2; obtain ⟨hc, hfz⟩ := bcell hcu.h; have hsz := hcu.h.size; (try simp at hsz); (try have hs0 := lt_of_succ_le hsz); (try (have hs1 := lt_pred hsz; (try (have hs2 := lt_pred hs1; (try (have hs3 := lt_pred hs2; (try have hs4 := lt_pred hs3))))))))
  go_wp2_with fail
  refine (HKT.out _ bel).mono ?_
  rintro e w9 ⟨rfl, hb9⟩
  go_wp2_with fail
  exact bodyPost_ret (v := .tuple #[.string (keyText dt), .bool true]) (by simp only [results, Tryz.results156]; go_simp) rfl ⟨by rw [HF.out], bel⟩
 have d4 : (dk == 4) = false := beq_eq_false_iff_ne.2 k4
 by_cases k5 : dk = 5
 ·have d5 : (dk == 5) = true := beq_iff_eq.2 k5
  have HF := hid (show r = bs [91, 93] from HR.out.trans (scal_5 k5))
  clear k4 k5
  go_enter Tryz.func156, Tryz.ntmps156
  go_upto_region 3 with (go_at_call 81; refine (HK.out _ bel).mono ?_; rintro e w1 ⟨rfl, hb⟩; (first | (have hcu2 := Cum.join hcu hb; (try clear hcu); (try clear hc); (try clear hfz); (try clear hsz); (try clear hs0); (try clear hs1); (try clear hs2); (try clear hs3); (try clear hs4); ) | have hcu2 := Cum.mk hb); have hcu := hcu2; clear hcu2; obtain ⟨hc, hfz⟩ := bcell hcu.h; have hsz := hcu.h.size; (try simp at hsz); (try have hs0 := lt_of_succ_le hsz); (try (have hs1 := lt_pred hsz; (try (have hs2 := lt_pred hs1; (try (have hs3 := lt_pred hs2; (try have hs4 := lt_pred hs3))))))))
  go_wp2_with fail
  exact bodyPost_ret (v := .tuple #[.string ⟨#[91, 93]⟩, .bool true]) (by simp only [results, Tryz.results156]; go_simp) rfl ⟨by rw [HF.out]; rfl, bel⟩
 have d5 : (dk == 5) = false := beq_eq_false_iff_ne.2 k5
 by_cases k6 : dk = 6
 ·have d6 : (dk == 6) = true := beq_iff_eq.2 k6
  have HF := hid (show r = bs [123, 125] from HR.out.trans (scal_6 k6))
  clear k4 k5 k6
  go_enter Tryz.func156, Tryz.ntmps156
  go_upto_region 3 with (go_at_call 81; refine (HK.out _ bel).mono ?_; rintro e w1 ⟨rfl, hb⟩; (first | (have hcu2 := Cum.join hcu hb; (try clear hcu); (try clear hc); (try clear hfz); (try clear hsz); (try clear hs0); (try clear hs1); (try clear hs2); (try clear hs3); (try clear hs4); ) | have hcu2 := Cum.mk hb); have hcu := hcu2; clear hcu2; obtain ⟨hc, hfz⟩ := bcell hcu.h; have hsz := hcu.h.size; (try simp at hsz); (try have hs0 := lt_of_succ_le hsz); (try (have hs1 := lt_pred hsz; (try (have hs2 := lt_pred hs1; (try (have hs3 := lt_pred hs2; (try have hs4 := lt_pred hs3))))))))
  go_wp2_with fail
  exact bodyPost_ret (v := .tuple #[.string ⟨#[123, 125]⟩, .bool true]) (by simp only [results, Tryz.results156]; go_simp) rfl ⟨by rw [HF.out]; rfl, bel⟩
 have d6 : (dk == 6) = false := beq_eq_false_iff_ne.2 k6
 have HF := hid (show r = ⟨y.toArray⟩ by rw [HR.out, HY.out]; exact scal_say (d := ⟨dk, df, dn, dt, dks, []⟩) ⟨hk6.1, by show dk <= 3; omega⟩)
 obtain ⟨m, hm⟩ : ∃ m, m = y.length := ⟨_, rfl⟩
 rw [<- hm] at HS
 have HM := hid hm
 have hsz : (⟨y.toArray⟩ : ByteArray).size = m := by rw [hm]; show y.toArray.size = y.length; simp
 clear k4 k5 k6 hm
 go_enter Tryz.func156, Tryz.ntmps156
 go_upto_region 3 with (go_at_call 81; refine (HK.out _ bel).mono ?_; rintro e w1 ⟨rfl, hb⟩; (first | (have hcu2 := Cum.join hcu hb; (try clear hcu); (try clear hc); (try clear hfz); (try clear hsz); (try clear hs0); (try clear hs1); (try clear hs2); (try clear hs3); (try clear hs4); ) | have hcu2 := Cum.mk hb); have hcu := hcu2; clear hcu2; obtain ⟨hc, hfz⟩ := bcell hcu.h; have hsz := hcu.h.size; (try simp at hsz); (try have hs0 := lt_of_succ_le hsz); (try (have hs1 := lt_pred hsz; (try (have hs2 := lt_pred hs1; (try (have hs3 := lt_pred hs2; (try have hs4 := lt_pred hs3))))))))
 go_wp2_with fail
 refine (HS.out _ bel).mono ?_
 rintro e w9 ⟨A9, c9, rfl, h9, g9⟩
 have hcv := own_string HM.out (show w9.ownsRow w.heap.size 5 1 (.slice A9 m c9) m (Lib.strCells ⟨y.toArray⟩) from h9.2)
 have hb8 := g9.below (bufN_nil w.heap.size _).2 (show Below w.heap.size w _ from bel).size
 have hb9 : Below w.heap.size w w9 := Below.trans (show Below w.heap.size w _ from bel) hb8
 clear h9 g9 hb8
 go_wp2_with fail
 exact bodyPost_ret (v := .tuple #[.string ⟨y.toArray⟩, .bool true]) (by simp only [results, Tryz.results156]; go_simp) rfl ⟨by rw [HF.out], hb9⟩
theorem c_spec_ScalarText (n : Nat) (d : TreeD) (cs : List Value) (w : World) (lo : Nat) (h : C_Tree (n + 1) lo w.heap.size w d cs) (hk : d.kids = []) (hsh : shapeT (n + 1) d = true) :
  Calls Tryz.prog 158 #[.agg cs.toArray] w fun e w' => e = .returned (.tuple #[.string (scalText d), .bool true]) /\ Below w.heap.size w w' := by
 have hz1 : sizeT (n + 1) d = 1 := by rw [sizeT_succ, hk]; rfl
 have HK := hid (fun (W : World) (hb : Below w.heap.size w W) => ok_leaf hsh hk ▸ c_spec_TreeOk (n + 1) d cs W lo (h.now hb) (by omega))
 have HKT := hid (fun (W : World) => c_spec_KeyText d.text W (by have := strB_size (shape_parts hsh).2.1; omega))
 have hk6 := kind_of hsh
 have hnum : I64 d.num := (num_of h).1
 obtain ⟨r, hr⟩ : ∃ r, r = scalText d := ⟨_, rfl⟩
 rw [<- hr]
 have HR := hid hr
 obtain ⟨A4, c4, A5, c5, rfl⟩ := C_Tree.open h
 clear h hsh hz1 hr
 obtain ⟨dk, df, dn, dt, dks, dkd⟩ := d
 simp only at hk hk6 HK HKT HR hnum ⊢
 subst hk
 simp only [List.length_nil] at HK ⊢
 by_cases k1 : dk = 1
 ·have HF := hid (show r = bs litN from HR.out.trans (scal_1 k1))
  subst k1
  go_enter Tryz.func158, Tryz.ntmps158
  go_upto_region 3 with (go_at_call 22; refine (HK.out _ bel).mono ?_; rintro e w1 ⟨rfl, hb⟩; (first | (have hcu2 := Cum.join hcu hb; (try clear hcu); (try clear hc); (try clear hfz); (try clear hsz); (try clear hs0); (try clear hs1); (try clear hs2); (try clear hs3); (try clear hs4); ) | have hcu2 := Cum.mk hb); have hcu := hcu2; clear hcu2; obtain ⟨hc, hfz⟩ := bcell hcu.h; have hsz := hcu.h.size; (try simp at hsz); (try have hs0 := lt_of_succ_le hsz); (try (have hs1 := lt_pred hsz; (try (have hs2 := lt_pred hs1; (try (have hs3 := lt_pred hs2; (try have hs4 := lt_pred hs3))))))))
  go_wp2_with fail
  exact bodyPost_ret (v := .tuple #[.string ⟨#[110, 117, 108, 108]⟩, .bool true]) (by simp only [results, Tryz.results158]; go_simp) rfl ⟨by rw [HF.out]; rfl, bel⟩
 by_cases k2 : dk = 2
 ·have HF := hid (show r = if df then bs litT else bs litF from HR.out.trans (scal_2 k2))
  subst k2
  rcases df with _ | _
  ·go_enter Tryz.func158, Tryz.ntmps158
   go_upto_region 3 with (go_at_call 22; refine (HK.out _ bel).mono ?_; rintro e w1 ⟨rfl, hb⟩; (first | (have hcu2 := Cum.join hcu hb; (try clear hcu); (try clear hc); (try clear hfz); (try clear hsz); (try clear hs0); (try clear hs1); (try clear hs2); (try clear hs3); (try clear hs4); ) | have hcu2 := Cum.mk hb); have hcu := hcu2; clear hcu2; obtain ⟨hc, hfz⟩ := bcell hcu.h; have hsz := hcu.h.size; (try simp at hsz); (try have hs0 := lt_of_succ_le hsz); (try (have hs1 := lt_pred hsz; (try (have hs2 := lt_pred hs1; (try (have hs3 := lt_pred hs2; (try have hs4 := lt_pred hs3))))))))
   go_wp2_with fail
   exact bodyPost_ret (v := .tuple #[.string ⟨#[102, 97, 108, 115, 101]⟩, .bool true]) (by simp only [results, Tryz.results158]; go_simp) rfl ⟨by rw [HF.out]; rfl, bel⟩
  ·go_enter Tryz.func158, Tryz.ntmps158
   go_upto_region 3 with (go_at_call 22; refine (HK.out _ bel).mono ?_; rintro e w1 ⟨rfl, hb⟩; (first | (have hcu2 := Cum.join hcu hb; (try clear hcu); (try clear hc); (try clear hfz); (try clear hsz); (try clear hs0); (try clear hs1); (try clear hs2); (try clear hs3); (try clear hs4); ) | have hcu2 := Cum.mk hb); have hcu := hcu2; clear hcu2; obtain ⟨hc, hfz⟩ := bcell hcu.h; have hsz := hcu.h.size; (try simp at hsz); (try have hs0 := lt_of_succ_le hsz); (try (have hs1 := lt_pred hsz; (try (have hs2 := lt_pred hs1; (try (have hs3 := lt_pred hs2; (try have hs4 := lt_pred hs3))))))))
   go_wp2_with fail
   exact bodyPost_ret (v := .tuple #[.string ⟨#[116, 114, 117, 101]⟩, .bool true]) (by simp only [results, Tryz.results158]; go_simp) rfl ⟨by rw [HF.out]; rfl, bel⟩
 by_cases k3 : dk = 3
 ·have HF := hid (show r = decS dn from HR.out.trans (scal_3 k3))
  subst k3
  go_enter Tryz.func158, Tryz.ntmps158
  go_upto_region 3 with (go_at_call 22; refine (HK.out _ bel).mono ?_; rintro e w1 ⟨rfl, hb⟩; (first | (have hcu2 := Cum.join hcu hb; (try clear hcu); (try clear hc); (try clear hfz); (try clear hsz); (try clear hs0); (try clear hs1); (try clear hs2); (try clear hs3); (try clear hs4); ) | have hcu2 := Cum.mk hb); have hcu := hcu2; clear hcu2; obtain ⟨hc, hfz⟩ := bcell hcu.h; have hsz := hcu.h.size; (try simp at hsz); (try have hs0 := lt_of_succ_le hsz); (try (have hs1 := lt_pred hsz; (try (have hs2 := lt_pred hs1; (try (have hs3 := lt_pred hs2; (try have hs4 := lt_pred hs3))))))))
  go_wp2_with fail
  refine (c_spec_Decimal dn _ hnum).mono ?_
  rintro e w9 ⟨rfl, hb9⟩
  go_wp2_with fail
  exact bodyPost_ret (v := .tuple #[.string (decS dn), .bool true]) (by simp only [results, Tryz.results158]; go_simp) rfl ⟨by rw [HF.out], bel⟩
 by_cases k4 : dk = 4
 ·have HF := hid (show r = keyText dt from HR.out.trans (scal_4 k4))
  subst k4
  go_enter Tryz.func158, Tryz.ntmps158
  go_upto_region 3 with (go_at_call 22; refine (HK.out _ bel).mono ?_; rintro e w1 ⟨rfl, hb⟩; (first | (have hcu2 := Cum.join hcu hb; (try clear hcu); (try clear hc); (try clear hfz); (try clear hsz); (try clear hs0); (try clear hs1); (try clear hs2); (try clear hs3); (try clear hs4); ) | have hcu2 := Cum.mk hb); have hcu := hcu2; clear hcu2; obtain ⟨hc, hfz⟩ := bcell hcu.h; have hsz := hcu.h.size; (try simp at hsz); (try have hs0 := lt_of_succ_le hsz); (try (have hs1 := lt_pred hsz; (try (have hs2 := lt_pred hs1; (try (have hs3 := lt_pred hs2; (try have hs4 := lt_pred hs3))))))))
  go_wp2_with fail
  refine (HKT.out _).mono ?_
  rintro e w9 ⟨rfl, hb9⟩
  go_wp2_with fail
  exact bodyPost_ret (v := .tuple #[.string (keyText dt), .bool true]) (by simp only [results, Tryz.results158]; go_simp) rfl ⟨by rw [HF.out], bel⟩
 by_cases k5 : dk = 5
 ·have HF := hid (show r = bs [91, 93] from HR.out.trans (scal_5 k5))
  subst k5
  go_enter Tryz.func158, Tryz.ntmps158
  go_upto_region 3 with (go_at_call 22; refine (HK.out _ bel).mono ?_; rintro e w1 ⟨rfl, hb⟩; (first | (have hcu2 := Cum.join hcu hb; (try clear hcu); (try clear hc); (try clear hfz); (try clear hsz); (try clear hs0); (try clear hs1); (try clear hs2); (try clear hs3); (try clear hs4); ) | have hcu2 := Cum.mk hb); have hcu := hcu2; clear hcu2; obtain ⟨hc, hfz⟩ := bcell hcu.h; have hsz := hcu.h.size; (try simp at hsz); (try have hs0 := lt_of_succ_le hsz); (try (have hs1 := lt_pred hsz; (try (have hs2 := lt_pred hs1; (try (have hs3 := lt_pred hs2; (try have hs4 := lt_pred hs3))))))))
  go_wp2_with fail
  exact bodyPost_ret (v := .tuple #[.string ⟨#[91, 93]⟩, .bool true]) (by simp only [results, Tryz.results158]; go_simp) rfl ⟨by rw [HF.out]; rfl, bel⟩
 obtain rfl : dk = 6 := by omega
 have HF := hid (show r = bs [123, 125] from HR.out.trans (scal_6 rfl))
 go_enter Tryz.func158, Tryz.ntmps158
 go_upto_region 3 with (go_at_call 22; refine (HK.out _ bel).mono ?_; rintro e w1 ⟨rfl, hb⟩; (first | (have hcu2 := Cum.join hcu hb; (try clear hcu); (try clear hc); (try clear hfz); (try clear hsz); (try clear hs0); (try clear hs1); (try clear hs2); (try clear hs3); (try clear hs4); ) | have hcu2 := Cum.mk hb); have hcu := hcu2; clear hcu2; obtain ⟨hc, hfz⟩ := bcell hcu.h; have hsz := hcu.h.size; (try simp at hsz); (try have hs0 := lt_of_succ_le hsz); (try (have hs1 := lt_pred hsz; (try (have hs2 := lt_pred hs1; (try (have hs3 := lt_pred hs2; (try have hs4 := lt_pred hs3))))))))
 go_wp2_with fail
 exact bodyPost_ret (v := .tuple #[.string ⟨#[123, 125]⟩, .bool true]) (by simp only [results, Tryz.results158]; go_simp) rfl ⟨by rw [HF.out]; rfl, bel⟩
theorem txts_get {L : List (List UInt8)} {i : Nat} {x : List UInt8} (h : L[i]? = some x) : (txts L)[i]? = some (bs x) := by unfold txts; rw [List.getElem?_map, h]; rfl
theorem cell_block {w w' : World} {b o : Nat} (h : w'.heap[b]? = w.heap[b]?) : w'.cell? ⟨b, o, none⟩ = w.cell? ⟨b, o, none⟩ := by unfold World.cell?; simp only [h]
theorem rowS_of {base n : Nat} {w : World} {L : List (List UInt8)} {v : Value} {s : ByteArray} {x : List UInt8} (hL : n = (txts L).length) (hs : s = bs x) (h : w.ownsRow base 9 1 v (n + 1) ((txts L).map Value.string ++ [.string s])) : RowS base w (txts (L ++ [x])) (n + 1) v := by
 refine ⟨by rw [txts_len] at hL ⊢; rw [List.length_append, hL]; rfl, ?_⟩
 subst hs
 rw [txts_app, List.map_append]
 exact h
theorem blank2_next {Q : List (List UInt8)} {j : Nat} {y : List UInt8} (h : Q[j]? = some y) : blank2 (Q.take (j + 1)) = blank2 (Q.take j) ++ [[32, 32] ++ y] := by
 unfold blank2
 rw [List.take_add_one, h, List.map_append]
 rfl
def T_wrI (n : Nat) : Prop := ∀ (d : TreeD) (cs : List Value) (w w0 : World) (lo base : Nat), C_Tree n lo base w d cs -> base <= w.heap.size -> shapeT n d = true -> sizeT n d <= 300 -> depthT n d <= 40 -> Tabs w0 -> Pow w0 -> w0.heap.size <= base -> Below w0.heap.size w0 w ->
  Calls Tryz.prog 83 #[.agg cs.toArray] w fun e w' => ∃ (A : Option Addr) (c : Nat), e = .returned (.slice A (linesT n d).length c) /\ RowS w.heap.size w' (txts (linesT n d)) (linesT n d).length (.slice A (linesT n d).length c) /\ Below w.heap.size w w'
theorem of_wrI (n : Nat) (ih : T_wrI n) : T_wrI (n + 1) := by
 intro d cs w w0 lo base h hbw hsh hsz hn40 hTab hPow hw0 hb00
 have hlb := lin_ok (n + 1) d hsh (num_of h)
 have HLin := hid (fun (t : TreeD) (ht : t ∈ d.kids) => by
  obtain ⟨i, hi⟩ := List.getElem?_of_mem ht
  exact lin_ok n t (shape_kid hsh hi) ((num_of h).2 t ht))
 have HSh := hid hsh
 have HDp := hid (fun (k : Nat) (t : TreeD) (ht : d.kids[k]? = some t) => show depthT n t <= 39 by have := (depth_kid (n := n) ht).2; omega)
 have HSk := hid (fun (k : Nat) (t : TreeD) (ht : d.kids[k]? = some t) => size_kid (n := n) ht)
 have HKk := hid (fun (hk : d.kids ≠ []) => kind_kids hsh hk)
 have HTP := hid (And.intro hTab hPow)
 have HB00 := hid hb00
 by_cases hk : d.kids = []
 ·have hl := linesT_leaf (n := n) hk
  have HSc := hid (fun (W : World) (hb : Below w.heap.size w W) => c_impl_ScalarText n d cs W lo ((h.old (hb.mono hbw)).keep (same_below (Below.refl _ _)) (Nat.le_refl _) (Nat.le_trans hbw hb.size)) hk hsh (hTab.below (hb00.trans (hb.mono (Nat.le_trans hw0 hbw)))) (hPow.below (hb00.trans (hb.mono (Nat.le_trans hw0 hbw)))))
  rw [hl]
  obtain ⟨A4, c4, A5, c5, rfl⟩ := C_Tree.open h
  obtain ⟨s, hs⟩ : ∃ s, s = scalText d := ⟨_, rfl⟩
  rw [<- hs] at HSc ⊢
  have HX := hid (show txts [s.data.toList] = [s] by unfold txts; rw [List.map_cons, bs_self]; rfl)
  obtain ⟨kn, hkn⟩ : ∃ kn, kn = d.kids.length := ⟨_, rfl⟩
  rw [<- hkn] at HSc ⊢
  have hkn0 : kn = 0 := by rw [hkn, hk]; rfl
  subst hkn0
  clear h hlb hk hl hs hkn HLin HKk HSk hsh HDp
  go_enter Tryz.func83, Tryz.ntmps83
  go_wp2_with fail
  refine (HSc.out _ bel).mono ?_
  rintro e w1 ⟨rfl, hb1⟩
  have HB1 := hid (show Below w.heap.size w w1 from Below.trans bel (hb1.mono (by simp)))
  clear hb1
  go_wp2_with fail
  go_ret
  exact ⟨_, _, rfl, by rw [HX.out]; exact RowS.one _ _ _ HB1.out.size, (have hb1 := HB1.out; bel)⟩
 have hl := linesT_kids (n := n) hk
 have hmore := hlb.more hk
 have hkd := HKk.out hk
 obtain ⟨LL, hLL⟩ : ∃ LL, LL = linesT (n + 1) d := ⟨_, rfl⟩
 rw [<- hLL] at hl hmore ⊢
 have HL := hid hl
 have HMore := hid (show LL.length <= 299 by omega)
 have HPre := hid (fun (k : Nat) (hk : k <= d.kids.length) => (many_lin (g := kidLines (linesT n) d) (f := sizeT n) (l := d.kids) (m := 4806 + 2 * depthT (n + 1) d) k hk (fun i t _ ht => (kid_lin hsh ht (HLin.out t (List.mem_of_getElem? ht))).2)).1)
 have HDk := hid (fun (k : Nat) => Nat.le_trans (szL_take_le (sizeT n) d.kids k) (show szL (sizeT n) d.kids <= 299 by rw [sizeT_succ] at hsz; omega))
 obtain ⟨v4, v5, rfl, a0, a2, a3, a4, a5⟩ := C_Tree.out h
 obtain ⟨A4, c4, rfl, hlk, hck, hK⟩ := a4
 obtain ⟨A5, c5, rfl, hlc, hcc, hA⟩ := a5
 clear h hlb hl hmore hLL hsh
 obtain ⟨dk, df, dn, dt, dks, dkd⟩ := d
 simp only at a0 a2 a3 hlk hK hlc hA HSk HKk HLin HL HPre HDk HDp hkd hk ⊢
 have hpos : 0 < dkd.length := List.length_pos_iff.2 hk
 have d0 : ((dkd.length : Int) == 0) = false := beq_eq_false_iff_ne.2 (by omega)
 have d0' : (dkd.length == 0) = false := beq_eq_false_iff_ne.2 (by omega)
 have d0i : dkd.isEmpty = false := by cases dkd with | nil => exact absurd rfl hk | cons _ _ => rfl
 obtain ⟨g, hg⟩ : ∃ g, g = kidLines (linesT n) ⟨dk, df, dn, dt, dks, dkd⟩ := ⟨_, rfl⟩
 rw [<- hg] at HL HPre
 have HG := hid hg
 obtain ⟨W0, hW0⟩ : ∃ W, W = w.alloc (.cells #[.int .i64 dk, .bool df, .int .i64 dn, .string dt, .slice A4 dks.length c4, .slice A5 dkd.length c5] 34) := ⟨_, rfl⟩
 have hB0 : Below w.heap.size w W0 := by rw [hW0]; exact bel
 have HR0 := hid (show W0.heap[w.heap.size]? = some (.cells #[.int .i64 dk, .bool df, .int .i64 dn, .string dt, .slice A4 dks.length c4, .slice A5 dkd.length c5] 34 (0, 0)) by rw [hW0]; exact heap_at rfl)
 have HW0 := hid hW0
 have hz0 : w.heap.size + 1 = W0.heap.size := by rw [hW0]; simp
 have HB0 := hid hB0
 clear hW0 hB0 hk hg
 go_enter Tryz.func83, Tryz.ntmps83
 go_upto_region 5 with fail
 rw [<- HW0.out]
 obtain ⟨x0, x1, x2, x3, x4, x5, xf⟩ := row6 ((bel : Below W0.heap.size W0 (W0.alloc (.cells #[] 9))).block _ (row_lt HR0.out) |>.trans HR0.out)
 have l0 : w.heap.size < (W0.alloc (.cells #[] 9)).heap.size := by simp; omega
 go_wp2_with fail
 go_loopw [5, 26] (fun s5 v wr => ∃ (k N : Nat) (A : Option Addr) (c : Nat), k <= dkd.length /\ v = .int .i64 k /\ s5 = .slice A N c /\ RowS W0.heap.size wr (txts (manyL g k)) N (.slice A N c) /\ Below W0.heap.size W0 wr) (fun _ v _ => dkd.length - (Lib.intOf v).toNat)
 case atStart => exact ⟨0, 0, _, _, Nat.zero_le _, rfl, rfl, RowS.empty rfl (Nat.le_refl _), bel⟩
 case round =>
  clear x0 x1 x2 x3 x4 x5 xf l0
  obtain ⟨k, N, A, c, hk, rfl, rfl, hrow, hbr⟩ := hrel
  have HRow := hid hrow
  have HBr := hid hbr
  have HT := hid ((hbr.block _ (row_lt HR0.out)).trans HR0.out)
  have hNz : N <= 299 := by rw [hrow.1, txts_len]; exact Nat.le_trans (HPre.out k hk) (HDk.out k)
  have hbwr : Below w.heap.size w wr := HB0.out.trans (hbr.mono (by omega))
  have hsr := hbr.size
  obtain ⟨x0, x1, x2, x3, x4, x5, xf⟩ := row6 HT.out
  have l1 := row_lt HT.out
  by_cases hlt : k < dkd.length
  rotate_left
  ·obtain rfl : k = dkd.length := by omega
   have hke : decide (dkd.length < dkd.length) = false := decide_eq_false (Nat.lt_irrefl _)
   have HLn := hid (show N = LL.length by rw [hrow.1, txts_len, HL.out])
   have HBw := hid hbwr
   clear hrow hbr hA hK hbwr
   go_wp2_with fail
   go_ret
   rw [<- HLn.out, HL.out]
   exact ⟨A, c, rfl, HRow.out.less (by omega), HBw.out⟩
  obtain ⟨p, o, rfl, -, hbl, hcell⟩ := hA hpos
  obtain ⟨t, ht⟩ := exists_at hlt
  obtain ⟨es, -, hcs, hC⟩ := hcell k t ht
  obtain ⟨eA4, ec4, eA5, ec5, rfl, ea0, ea2, ea3⟩ := hC.flat
  have hbrb : Below base w wr := hbwr.mono hbw
  have hc0 := (hbrb.cell (p := ⟨p, o + k * 6 + 0, none⟩) (by simp; omega)).trans (hcs 0 (by omega))
  simp at hc0
  have hc1 := (hbrb.cell (p := ⟨p, o + k * 6 + 1, none⟩) (by simp; omega)).trans (hcs 1 (by omega))
  simp at hc1
  have hc2 := (hbrb.cell (p := ⟨p, o + k * 6 + 2, none⟩) (by simp; omega)).trans (hcs 2 (by omega))
  simp at hc2
  have hc3 := (hbrb.cell (p := ⟨p, o + k * 6 + 3, none⟩) (by simp; omega)).trans (hcs 3 (by omega))
  simp at hc3
  have hc4 := (hbrb.cell (p := ⟨p, o + k * 6 + 4, none⟩) (by simp; omega)).trans (hcs 4 (by omega))
  simp at hc4
  have hc5 := (hbrb.cell (p := ⟨p, o + k * 6 + 5, none⟩) (by simp; omega)).trans (hcs 5 (by omega))
  simp at hc5
  have hbr1 : p < wr.heap.size := by omega
  have hk0 : (0 : Int) <= k := by omega
  have hk1 : (k : Int) < dkd.length := by omega
  have hltb : decide (k < dkd.length) = true := decide_eq_true hlt
  have HC := hid hC
  have HLt := hid (HLin.out t (List.mem_of_getElem? ht))
  have HSt := hid (shape_kid HSh.out ht)
  have hszt : sizeT n t <= 300 := by have := HSk.out k t ht; omega
  have hdt := HDp.out k t ht
  have HTk := hid ht
  have HBw := hid hbwr
  clear hcs hcell hA hC ht hrow hbr hbwr hbrb
  go_upto_region 8 with fail
  obtain ⟨wk, hwk⟩ : ∃ W, W = wr.alloc (.cells #[.int .i64 t.kind, .bool t.flag, .int .i64 t.num, .string t.text, .slice eA4 t.keys.length ec4, .slice eA5 t.kids.length ec5] 34) := ⟨_, rfl⟩
  have hbk : Below wr.heap.size wr wk := by rw [hwk]; exact bel
  have X8 : wk.heap[wr.heap.size]? = some (.cells #[.int .i64 t.kind, .bool t.flag, .int .i64 t.num, .string t.text, .slice eA4 t.keys.length ec4, .slice eA5 t.kids.length ec5] 34 (0, 0)) := by rw [hwk]; exact heap_at rfl
  rw [<- hwk]
  have hsk2 := hbk.size
  have hbk0 : Below w.heap.size w wk := HBw.out.trans (hbk.mono HBw.out.size)
  have HBk := hid hbk0
  have HBk1 := hid (HBr.out.trans (hbk.mono HBr.out.size))
  have HRk := hid (HRow.out.below hbk)
  have HTk2 := hid ((hbk.block _ l1).trans HT.out)
  have HX8 := hid X8
  have HIh := hid (ih t _ wk w0 lo base (HC.out.old (hbk0.mono hbw)) (by have := hbk0.size; omega) HSt.out hszt (by omega) HTP.out.1 HTP.out.2 hw0 (HB00.out.trans (hbk0.mono (by omega))))
  have hlk8 := row_lt X8
  clear hwk hbk X8 hbk0 x0 x1 x2 x3 x4 x5 xf hc0 hc1 hc2 hc3 hc4 hc5 l1
  obtain ⟨y0, y1, y2, y3, y4, y5, yf⟩ := row6 HX8.out
  go_wp2_with fail
  refine HIh.out.mono ?_
  rintro e w9 ⟨A9, c9, rfl, h9, hb9⟩
  obtain ⟨x, r, hxr⟩ := HLt.out.hd
  have hlen9 := HLt.out.many
  have hlong := HLt.out.long
  have hleaf := HLt.out.leaf
  rw [hxr] at h9 hlen9 hlong hleaf
  simp only [List.length_cons] at h9 hlen9
  obtain ⟨q, rfl, hq1, hq2, hq3, hq4⟩ := h9.open (Nat.succ_pos _)
  have hx0 : w9.cell? ⟨q, 0, none⟩ = some (.string (bs x)) := hq4 0 (bs x) rfl
  have hsx : (bs x).size <= 4900 := by have := hlong x (by simp); rw [show (bs x).size = x.length from size_mk _]; omega
  have HQ4 := hid hq4
  have HLong := hid hlong
  have HLeaf := hid hleaf
  have HXR := hid hxr
  have HR9 := hid (HRk.out.below hb9)
  have HT9 := hid ((hb9.block _ (by omega)).trans HTk2.out)
  have HX9 := hid ((hb9.block _ hlk8).trans HX8.out)
  have HB9 := hid (HBk.out.trans (hb9.mono HBk.out.size))
  have HB09 := hid (HBk1.out.trans (hb9.mono HBk1.out.size))
  have hs9 := hb9.size
  have hoq : ∀ z, (Value.slice A N c).ownBlock = some z -> W0.heap.size <= z /\ z < wr.heap.size := fun z hz => HRow.out.lt hz
  have HOq := hid hoq
  have hr1 : r.length <= 299 := by omega
  have hc91 : r.length + 1 <= c9 := hq3
  rw [hxr]
  simp only [List.length_cons]
  clear h9 hb9 hq4 hlong hleaf hoq y0 y1 y2 y3 y4 y5 yf hxr
  obtain ⟨x0, x1, x2, x3, x4, x5, xf⟩ := row6 HT9.out
  obtain ⟨y0, y1, y2, y3, y4, y5, yf⟩ := row6 HX9.out
  have lt9 := row_lt HT9.out
  have lx9 := row_lt HX9.out
  have hb9 := HB9.out
  have hW9 : W0.heap.size <= w9.heap.size := by omega
  have hqo : (Value.slice A N c).ownBlock ≠ some q := fun e => by have := (HOq.out q e).2; omega
  go_upto_if 35 with fail
  go_cut [5, 8] from 36 to 72 (fun s5 s8 wx => ∃ (A1 : Option Addr) (c1 o M cM : Nat) (first : List UInt8) (Q : List (List UInt8)), s5 = .slice A1 (N + 1) c1 /\ s8 = .slice (some ⟨q, o, none⟩) M cM /\ M = Q.length /\ M <= 300 /\ M <= cM /\ g k = first :: blank2 Q /\ RowS W0.heap.size wx (txts (manyL g k ++ [first])) (N + 1) (.slice A1 (N + 1) c1) /\ Grb w9 (.slice A N c) wx (.slice A1 (N + 1) c1) /\ ∀ j y, Q[j]? = some y -> w9.cell? ⟨q, o + j, none⟩ = some (.string (bs y)) /\ y.length <= 4900)
  case first =>
   rcases hkd with rfl | ⟨rfl, hkl⟩
   ·obtain ⟨A1, c1, w10, hr10, h10, g10⟩ := rowS_push w9 W0.heap.size N c A _ (⟨#[45, 32]⟩ ++ bs x) HR9.out (by omega) hW9
    have hcat : (⟨#[45, 32]⟩ : ByteArray) ++ bs x = bs ([45, 32] ++ x) := (bs_cat [45, 32] x).symm
    have H10 := hid (And.intro h10 g10)
    have HCat := hid hcat
    have hsum : ((⟨#[45, 32]⟩ : ByteArray) ++ bs x).size <= 5000 := by rw [ByteArray.size_append]; show 2 + (bs x).size <= 5000; omega
    have HKi := hid (show g k = ([45, 32] ++ x) :: blank2 r by rw [HG.out]; exact kid_item (show (5 : Int) ≠ 6 by decide) HTk.out HXR.out)
    have hone : 1 <= r.length + 1 := by omega
    clear h10 g10 hcat
    have hfin : ∀ (o : Nat) (cM : Nat) (s5 s8 : Value) (wx : World), (o = 1 ∨ r.length = 0) -> r.length <= cM -> s5 = .slice A1 (N + 1) c1 -> s8 = .slice (some ⟨q, o, none⟩) r.length cM -> wx = w10 -> ∃ (A1 : Option Addr) (c1 o M cM : Nat) (first : List UInt8) (Q : List (List UInt8)), s5 = .slice A1 (N + 1) c1 /\ s8 = .slice (some ⟨q, o, none⟩) M cM /\ M = Q.length /\ M <= 300 /\ M <= cM /\ g k = first :: blank2 Q /\ RowS W0.heap.size wx (txts (manyL g k ++ [first])) (N + 1) (.slice A1 (N + 1) c1) /\ Grb w9 (.slice A N c) wx (.slice A1 (N + 1) c1) /\ ∀ j y, Q[j]? = some y -> w9.cell? ⟨q, o + j, none⟩ = some (.string (bs y)) /\ y.length <= 4900 := by
     rintro o cM s5 s8 wx ho hcM rfl rfl rfl
     refine ⟨A1, c1, o, r.length, cM, [45, 32] ++ x, r, rfl, rfl, rfl, by omega, hcM, HKi.out, by rw [txts_app]; have h1 := H10.out.1; rw [HCat.out] at h1; exact h1, H10.out.2, fun j y hy => ⟨?_, ?_⟩⟩
     ·have hj := (List.getElem?_eq_some_iff.1 hy).1
      obtain rfl : o = 1 := by omega
      rw [show 1 + j = j + 1 by omega]
      exact HQ4.out (j + 1) (bs y) (txts_get (by rw [List.getElem?_cons_succ]; exact hy))
     ·have := HLong.out y (List.mem_cons_of_mem _ (List.mem_of_getElem? hy))
      omega
    have HFin := hid hfin
    clear hfin
    rcases Nat.lt_or_ge 1 c9 with hc9 | hc9
    ·go_wp2_with (at_builtin; refine wpList_append_of rfl (.tmp 36) (.tmp 41) 31 rfl _ _ _ w10 rfl rfl hr10 ?_)
     go_meet
     exact HFin.out 1 (c9 - 1) _ _ _ (.inl rfl) (by omega) rfl rfl rfl
    ·obtain rfl : c9 = 1 := by omega
     have HR0 := hid (show r.length = 0 by omega)
     clear hc9
     go_wp2_with (at_builtin; refine wpList_append_of rfl (.tmp 36) (.tmp 41) 31 rfl _ _ _ w10 rfl rfl hr10 ?_)
     go_meet
     exact HFin.out 0 0 _ _ _ (.inr HR0.out) (by omega) rfl (by rw [HR0.out]) rfl
   ·obtain ⟨qk, oq, rfl, -, hql, hqc⟩ := hK (by omega)
    obtain ⟨ks, hks⟩ := exists_at (show k < dks.length by omega)
    obtain ⟨es, -, hcs, rfl, hss⟩ := hqc k ks hks
    have hkc := (hb9.cell (p := ⟨qk, oq + k * 1 + 0, none⟩) (by simp; omega)).trans (hcs 0 (by omega))
    simp at hkc
    have hqw : qk < w9.heap.size := by omega
    have hk2 : (k : Int) < dks.length := by have := (List.getElem?_eq_some_iff.1 hks).1; omega
    have hs4 := shape_key HSh.out hks
    clear hkl
    have hkb := key_big hs4
    have HKs := hid hks
    have HKT := hid (fun (W : World) (hb : Below w9.heap.size w9 W) => c_impl_KeyText ks W (by omega) (HTP.out.1.below (HB00.out.trans ((HB9.out.trans (hb.mono (by omega))).mono (by omega)))))
    obtain ⟨kt, hkt⟩ : ∃ kt, kt = keyText ks := ⟨_, rfl⟩
    rw [<- hkt] at HKT hkb
    have HKt := hid hkt
    obtain ⟨i0, hi, hz0', hz1, hz2⟩ := info_parts (show (Tryz.prog.info? 9).map (fun i => (i.zero, i.size, i.bytes)) = some (some (.string ⟨#[]⟩), 1, 16) from by kernel_rfl)
    have HI0 := hid hi
    clear hcs hqc hks hkt hi hK
    by_cases htk : t.kids = []
    ·have e0 : ((t.kids.length : Int) == 0) = true := by rw [htk]; rfl
     have e0' : (t.kids.length == 0) = true := by rw [htk]; rfl
     have hxl := HLeaf.out htk x (by simp)
     have hsx2 : (bs x).size <= 2402 := by rw [show (bs x).size = x.length from size_mk _]; exact hxl
     have HKi := hid (show g k = [(keyText ks).data.toList ++ [58, 32] ++ x] by rw [HG.out]; exact (kid_one rfl HTk.out HKs.out htk).trans (by rw [HXR.out]; rfl))
     have hsm1 : (kt ++ (⟨#[58, 32]⟩ : ByteArray)).size <= 2404 := by rw [ByteArray.size_append]; show kt.size + 2 <= 2404; omega
     have hsm2 : ¬ 9223372036854775807 < kt.size + 2 := by omega
     have hsm3 : ¬ 9223372036854775807 < kt.size + 2 + (bs x).size := by omega
     have hsm4 : (kt ++ (⟨#[58, 32]⟩ : ByteArray) ++ bs x).size <= 5000 := by rw [ByteArray.size_append]; omega
     have HCat := hid (show kt ++ (⟨#[58, 32]⟩ : ByteArray) ++ bs x = bs ((keyText ks).data.toList ++ [58, 32] ++ x) by rw [bs_cat, bs_cat, bs_self, HKt.out]; rfl)
     clear htk hxl
     go_upto_region 13 with fail
     go_cut [5] from 36 to 72 (fun s5 wx => ∃ (g2 cap2 : Nat), s5 = .slice (some ⟨g2, 0, none⟩) (N + 1) cap2 /\ RowS W0.heap.size wx (txts (manyL g (k + 1))) (N + 1) (.slice (some ⟨g2, 0, none⟩) (N + 1) cap2) /\ Grb w9 (.slice A N c) wx (.slice (some ⟨g2, 0, none⟩) (N + 1) cap2))
     case first =>
      go_region_law (first | (refine step_append_lies _ rfl _ _ 31 rfl W0.heap.size 9 i0 (.string ⟨#[]⟩) 1 16 Tryz.underlying31 HI0.out hz0' hz1 hz2 rfl (by decide) _ N ((txts (manyL g k)).map Value.string) rfl ((HR9.out.below hb4).below (bel : Below w4.heap.size w4 _)).2 ⟨w4.heap.size, 0, none⟩ 1 1 [.string (kt ++ (⟨#[58, 32]⟩ : ByteArray) ++ bs x)] rfl rfl (World.news_of_block (heap_alloc_new w4 _)) (fun u hu => by rcases List.mem_singleton.1 hu with rfl; rfl) (by decide) (by unfold maxLen; omega) (by omega) (by simp; omega) _ rfl ?_; intro g2 cap2 w2 hown2 hgrow2 hat2 hlt2) | (go_simp; go_at_call 157; refine (HKT.out _ bel).mono ?_; rintro e4 w4 ⟨rfl, hb4d⟩; have hb4 : Below w9.heap.size w9 w4 := bel; have hx4 := (hb4.cell (p := ⟨q, 0, none⟩) hq2).trans hx0; have hs4b := hb4.size))
      all_goals
       have hg3 : Grb (w4.alloc (.cells #[.string (kt ++ (⟨#[58, 32]⟩ : ByteArray) ++ bs x)] 9)) (.slice A N c) w2 (.slice (some ⟨g2, 0, none⟩) (N + 1) cap2) := Grb.of_at hgrow2 (hat2.elim (fun h => .inl h.symm) (fun h => .inr (congrArg some h)))
       have hg2 := ((Grb.of (.slice A N c) hb4).trans (Grb.of _ (bel : Below w4.heap.size w4 (w4.alloc (.cells #[.string (kt ++ (⟨#[58, 32]⟩ : ByteArray) ++ bs x)] 9))))).trans hg3
       have HRw2 := hid (show RowS W0.heap.size w2 (txts (manyL g (k + 1))) (N + 1) _ by rw [manyL_next, HKi.out]; exact rowS_of HR9.out.1 HCat.out hown2)
       (try go_wp2_with fail)
       go_meet
       exact ⟨g2, cap2, rfl, HRw2.out, hg2⟩
     case rest =>
      obtain ⟨g2, cap2, rfl, hrw2, hg2⟩ := hcut
      have HRw2 := hid hrw2
      have HBw2 := hid (HB09.out.trans ((hg2.below HR9.out.2 hW9).mono (Nat.le_refl _)))
      clear hrw2 hg2 x0 x1 x2 x3 x4 x5 xf y0 y1 y2 y3 y4 y5 yf hx0 hkc hb9 e0 e0' hsm1 hsm2 hsm3 hsm4
      go_wp2_with fail
      go_roundw
      case rel => exact ⟨k + 1, N + 1, _, _, by omega, by go_num, rfl, HRw2.out, HBw2.out⟩
      case measure => simp [Lib.intOf]; omega
    ·have e0 : ((t.kids.length : Int) == 0) = false := beq_eq_false_iff_ne.2 (by have := List.length_pos_iff.2 htk; omega)
     have e0' : (t.kids.length == 0) = false := beq_eq_false_iff_ne.2 (by have := List.length_pos_iff.2 htk; omega)
     have HKi := hid (show g k = ((keyText ks).data.toList ++ [58]) :: blank2 (x :: r) by rw [HG.out]; exact (kid_more rfl HTk.out HKs.out htk).trans (by rw [HXR.out]))
     have hsm1 : (kt ++ (⟨#[58]⟩ : ByteArray)).size <= 2403 := by rw [ByteArray.size_append]; show kt.size + 1 <= 2403; omega
     have hsm2 : ¬ 9223372036854775807 < kt.size + 1 := by omega
     have HCat := hid (show kt ++ (⟨#[58]⟩ : ByteArray) = bs ((keyText ks).data.toList ++ [58]) by rw [bs_cat, bs_self, HKt.out]; rfl)
     clear htk
     go_wp2_with fail
     refine (HKT.out w9 (Below.refl _ _)).mono ?_
     rintro e w4 ⟨rfl, hb4⟩
     have hs4b := hb4.size
     obtain ⟨A1, c1, w10, hr10, h10, g10⟩ := rowS_push w4 W0.heap.size N c A _ (kt ++ (⟨#[58]⟩ : ByteArray)) (HR9.out.below hb4) (by omega) (by omega)
     rw [HCat.out] at h10
     have HRw2 := hid (show RowS W0.heap.size w10 (txts (manyL g k ++ [(keyText ks).data.toList ++ [58]])) (N + 1) (.slice A1 (N + 1) c1) by rw [txts_app]; exact h10)
     have HG2 := hid ((Grb.of (.slice A N c) hb4).trans g10)
     clear h10 g10 hb4
     go_wp2_with (at_builtin; refine wpList_append_of rfl (.tmp 63) (.tmp 71) 31 rfl _ _ _ w10 rfl rfl hr10 ?_)
     go_meet
     exact ⟨A1, c1, 0, r.length + 1, c9, _, x :: r, rfl, rfl, rfl, by omega, hc91, HKi.out, HRw2.out, HG2.out, fun j y hy => ⟨by rw [Nat.zero_add]; exact HQ4.out j (bs y) (txts_get hy), by have := HLong.out y (List.mem_of_getElem? hy); omega⟩⟩
  case rest =>
   obtain ⟨A1, c1, o, M, cM, first, Q, rfl, rfl, hM, hM3, hMc, hgk, hrow1, hg1, hcl⟩ := hcut
   have HR1 := hid hrow1
   have HG1 := hid hg1
   have HCl := hid hcl
   have HGk := hid hgk
   have HM := hid hM
   clear hrow1 hg1 hcl hgk hM x0 x1 x2 x3 x4 x5 xf y0 y1 y2 y3 y4 y5 yf hx0
   go_wp2_with fail
   go_loopw [5, 75] (fun s5 v wx => ∃ (j N2 : Nat) (A2 : Option Addr) (c2 : Nat), j <= M /\ v = .int .i64 j /\ s5 = .slice A2 N2 c2 /\ N2 = N + 1 + j /\ RowS W0.heap.size wx (txts (manyL g k ++ (first :: blank2 (Q.take j)))) N2 (.slice A2 N2 c2) /\ Grb w9 (.slice A N c) wx (.slice A2 N2 c2)) (fun _ v _ => M - (Lib.intOf v).toNat)
   case atStart => exact ⟨0, N + 1, A1, c1, Nat.zero_le _, rfl, rfl, rfl, HR1.out, HG1.out⟩
   case round =>
    obtain ⟨j, N2, A2, c2, hj, rfl, rfl, hN2, hrw, hgr⟩ := hrel
    have HRw := hid hrw
    have HGr := hid hgr
    have hsz2 := hgr.grown.size
    have hWr : W0.heap.size <= wr.heap.size := by omega
    have HN2 := hid hN2
    have hN2b : N2 <= 700 := by omega
    clear hrw hgr hN2
    by_cases hlt2 : j < M
    ·obtain ⟨y, hy⟩ := exists_at (show j < Q.length by have := HM.out; omega)
     obtain ⟨hcy, hyl⟩ := HCl.out j y hy
     have hcy2 := (cell_block (o := o + j) (HGr.out.keep hq2 hqo)).trans hcy
     have hj0 : (0 : Int) <= j := by omega
     have hj1 : (j : Int) < M := by omega
     have hltb2 : decide (j < M) = true := decide_eq_true hlt2
     have hqw : q < wr.heap.size := by omega
     have hbz : (bs y).size <= 4900 := by rw [show (bs y).size = y.length from size_mk _]; exact hyl
     have hsum : ((⟨#[32, 32]⟩ : ByteArray) ++ bs y).size <= 5000 := by rw [ByteArray.size_append]; show 2 + (bs y).size <= 5000; omega
     obtain ⟨A3, c3, w3, hr3, h3, g3⟩ := rowS_push wr W0.heap.size N2 c2 A2 _ (⟨#[32, 32]⟩ ++ bs y) HRw.out (by omega) hWr
     have H3 := hid (show RowS W0.heap.size w3 (txts (manyL g k ++ (first :: blank2 (Q.take (j + 1))))) (N2 + 1) (.slice A3 (N2 + 1) c3) by
      have e : manyL g k ++ (first :: blank2 (Q.take (j + 1))) = (manyL g k ++ (first :: blank2 (Q.take j))) ++ [[32, 32] ++ y] := by rw [blank2_next hy]; simp
      rw [e, txts_app]
      have e2 : (⟨#[32, 32]⟩ : ByteArray) ++ bs y = bs ([32, 32] ++ y) := (bs_cat [32, 32] y).symm
      rw [e2] at h3
      exact h3)
     have HG3 := hid (HGr.out.trans g3)
     clear h3 g3 hcy hy
     go_wp2_with (at_builtin; refine wpList_append_of rfl (.tmp 79) (.tmp 82) 31 rfl _ _ _ w3 rfl rfl hr3 ?_)
     go_roundw
     case rel => exact ⟨j + 1, N2 + 1, A3, c3, by omega, by go_num, rfl, by have := HN2.out; omega, H3.out, HG3.out⟩
     case measure => simp [Lib.intOf]; omega
    ·obtain rfl : j = M := by omega
     have hke : decide (j < j) = false := decide_eq_false (Nat.lt_irrefl _)
     have HRf := hid (show RowS W0.heap.size wr (txts (manyL g (k + 1))) N2 (.slice A2 N2 c2) by
      have h1 := HRw.out
      rw [List.take_of_length_le (Nat.le_of_eq HM.out.symm), <- HGk.out] at h1
      exact h1)
     have HBf := hid (HB09.out.trans ((HGr.out.below HR9.out.2 hW9).mono (Nat.le_refl _)))
     go_wp2_with fail
     go_roundw
     case rel => exact ⟨k + 1, N2, A2, c2, by omega, by go_num, rfl, HRf.out, HBf.out⟩
     case measure => simp [Lib.intOf]; omega
theorem all_wrI : ∀ n, T_wrI n
 | 0 => fun _ _ _ _ _ _ h _ _ _ _ _ _ _ _ => (C_Tree.none h).elim
 | n + 1 => of_wrI n (all_wrI n)
end Go.Proofs.YtohcpifekcehjaaGreatDoor
