/- Steps to FnIndentedNormal. No conditions. -/
import Derived.Test.YtohcpifekcehjaaGreatDoorKfni15
import Derived.Test.YtohcpifekcehjaaGreatDoorKfni16
import Derived.Test.YtohcpifekcehjaaGreatDoorKfni8
import Derived.Test.YtohcpifekcehjaaGreatDoorKfni5
import Derived.Deep.AppendLies
import Derived.Deep.CutRange
import Derived.Deep.CutBlock
import Derived.Test.YtohcpifekcehjaaGreatDoorKfni12
import Derived.Test.YtohcpifekcehjaaGreatDoorKfni4
set_option maxHeartbeats 16000000
set_option maxRecDepth 20000
namespace Go.Proofs.YtohcpifekcehjaaGreatDoor
open Go.RowKit Go.Lib
theorem Jl3 (w0 : World) (b g N cap : Nat) (h0 : In0 w0 b g) : ∀ n, Jjg w0 b g N cap n /\ Jjw w0 b g N cap n /\ JlT w0 b g N cap n /\ JlX w0 b g N cap n := by
 intro n;induction n using Nat.strongRecOn with
 | ind n ih =>
  have hv : Jjg w0 b g N cap n := by
   cases n with
   | zero => intro d x r m w _ _ _ _ hn; unfold JG at hn; simp only at hn; omega
   | succ n => exact Jgk w0 b g N cap n h0 (ih n (Nat.lt_succ_self n)).2.2.1 (ih n (Nat.lt_succ_self n)).2.2.2
  have hb : Jjw w0 b g N cap n := by
   cases n with
   | zero => intro i d x r m w _ _ _ _ hn; unfold JG at hn; simp only at hn; omega
   | succ n => exact Jgo w0 b g N cap n h0 (ih n (Nat.lt_succ_self n)).1
  exact ⟨hv, hb, Jie w0 b g N cap n h0 (fun k hk => (ih k hk).2.1) (fun k hk => (ih k hk).1), Jg3 w0 b g N cap n h0 (fun k hk => (ih k hk).2.1)⟩
theorem JdC (a : UInt8) : ∀ (l : List UInt8) (x : UInt8) (r : List UInt8), l.dropWhile (· == a) = x :: r -> x ≠ a
 | [], x, r, h => by cases h
 | y :: l, x, r, h => by
  rw [List.dropWhile_cons] at h;by_cases e : (y == a) = true
  ·rw [if_pos e] at h
   exact JdC a l x r h
  rw [if_neg e] at h;cases h
  exact fun g => e (beq_iff_eq.2 g)
theorem JgL {l : List UInt8} (h : ¬ JK l = []) : JcM (bs (JK l)) := by
 have hz : (bs (JK l)).size = (JK l).length := size_mk _;refine ⟨by rw [hz]; exact List.length_pos_iff.2 h, fun e => ?_⟩;have hb : (bs (JK l)).data.toList[(bs (JK l)).size - 1]? = some ((bs (JK l)).get! ((bs (JK l)).size - 1)) := J7 (by rw [hz]; have := List.length_pos_iff.2 h; omega);have e1 : (bs (JK l)).data.toList = JK l := rfl
 obtain ⟨x, r, hd⟩ : ∃ x r, (l.take (JR true false l)).reverse.dropWhile (· == 32) = x :: r := by
  rcases hd : (l.take (JR true false l)).reverse.dropWhile (· == 32) with _ | ⟨x, r⟩
  ·exact absurd (show JK l = [] by unfold JK trimRightB; rw [hd]; rfl) h
  exact ⟨x, r, rfl⟩
 have hbl : JK l = (x :: r).reverse := by
  unfold JK trimRightB;rw [hd]
 have hlast : (JK l)[(bs (JK l)).size - 1]? = some x := by
  rw [hz, <- List.getLast?_eq_getElem?, hbl];simp
 rw [e1, hlast] at hb;unfold Jb at e;rw [<- Option.some.inj hb] at e;exact JdC 32 _ _ _ hd (UInt8.toNat_inj.1 (by have e32 : (32 : UInt8).toNat = 32 := rfl; omega))
theorem Jln {i : Nat} {l : List UInt8} {x : LineD} (h : x ∈ Zr i l) (hl : l.length <= 20000) (hi : i <= 20001) : Jlh x := by
 unfold Zr at h;by_cases c : JK l = []
 ·rw [if_pos c] at h; cases h
 rw [if_neg c] at h;rcases List.mem_singleton.1 h with rfl
 have h1 := XV l;have h2 := ZG (JK l) 32;have hz : (bs (trimLeftB (JK l) 32)).size = (trimLeftB (JK l) 32).length := size_mk _;have h3 : Vh (JK l) = (JK l).length - (trimLeftB (JK l) 32).length := rfl;refine ⟨by show Vh (JK l) + (bs (trimLeftB (JK l) 32)).size <= 20000; omega, hi, ?_⟩;have he := JgL c;have := (JeN (i := 0) he he.1).1;exact this
theorem JdE {P : List (List UInt8)} (hP : ∀ l ∈ P, l.length <= 20000) : ∀ (k : Nat), k <= 20001 -> InOk (Zz P k) /\ (Zz P k).length <= k
 | 0, _ => ⟨fun x hx => (by unfold Zz at hx; cases hx), Nat.le_refl _⟩
 | k + 1, hk => by
  obtain ⟨h1, h2⟩ := JdE hP k (by omega);unfold Zz;rcases hp : P[k]? with _ | l
  ·simp only [List.append_nil]
   exact ⟨h1, by omega⟩
  simp only;refine ⟨fun x hx => ?_, ?_⟩
  ·rcases List.mem_append.1 hx with hx | hx
   ·exact h1 x hx
   exact Jln hx (hP l (List.mem_of_getElem? hp)) hk
  rw [List.length_append];have : (Zr (k + 1) l).length <= 1 := by unfold Zr; split <;> simp
  omega
theorem UW : ∀ (l acc : List UInt8), (QH acc l).length = l.count 10 + 1
 | [], acc => rfl
 | c :: l, acc => by
  by_cases hc : c = 10
  ·subst hc
   rw [Jea, List.length_cons, UW l [], List.count_cons_self]
  rw [Jeo hc, UW l _, List.count_cons_of_ne hc]
theorem JcH {s : ByteArray} (h : (JM s).2.code = 0) : InOk (JM s).1 /\ (JM s).1.length <= 20001 := by
 unfold JM at h ⊢;by_cases c : (QN s).code ≠ 0
 ·rw [if_pos c] at h; exact absurd h c
 rw [if_neg c] at h ⊢;have hs : s.size <= 20000 := WH (by omega);rcases hf : (QH [] s.data.toList).findIdx? Zf with _ | k
 ·rw [hf] at h
  simp only;have hlen := UW s.data.toList [];have hc := List.count_le_length (a := (10 : UInt8)) (l := s.data.toList);rw [Jp] at hc;obtain ⟨h1, h2⟩ := JdE (P := QH [] s.data.toList) (fun l hl => by have := Z8 _ _ _ hl; rw [Jp] at this; simp at this; omega) (QH [] s.data.toList).length (by omega);exact ⟨h1, by omega⟩
 rw [hf] at h;cases h
theorem YE {s : ByteArray} (h : ¬ (JM s).2.code = 0) : JD s = ((JM s).2, VF) := by
 unfold JD;rw [if_pos h];rfl
theorem YC {s : ByteArray} (h : (JM s).2.code = 0) (hL : (JM s).1 = []) : JD s = (Qd 4 (s.data.toList.count 10 + 1), VF) := by
 unfold JD;rw [if_neg (by rw [h]; decide), hL, UW];rfl
theorem Z3 {s : ByteArray} {x : LineD} {r : List LineD} (h : (JM s).2.code = 0) (hL : (JM s).1 = x :: r) (hx : x.ind ≠ 0) : JD s = (Qd 4 x.at', VF) := by
 unfold JD;rw [if_neg (by rw [h]; decide), hL];simp only;rw [if_pos hx];rfl
theorem Zp {s : ByteArray} {x : LineD} {r : List LineD} (h : (JM s).2.code = 0) (hL : (JM s).1 = x :: r) (hx : x.ind = 0) : JD s = (match Jn (3 * Qh (x :: r) + 3) (.value 1) (x :: r) 0 with
   | .bad f => (f, Xy)
   | .good t [] _ => (Jv, t)
   | .good _ (y :: _) _ => (Qd 4 y.at', Xy)) := by
 unfold JD;rw [if_neg (by rw [h]; decide), hL];simp only;rw [if_neg (by rw [hx]; decide)];rfl
theorem JkN (s : ByteArray) (w : World) : Calls Tryz.prog 50 #[.string s, .string ⟨#[10]⟩] w fun e w' => e = .returned (.int .i64 (s.data.toList.count 10 : Nat)) /\ w = w' := by
 have h := Any.strings_Count_one JiZ s 10 w;change Calls Tryz.prog 50 _ _ _ at h
 exact h.mono (fun _ _ h => ⟨h.1, h.2.symm⟩)
theorem Vt (s : ByteArray) (w : World) (hs : s.size <= 1048576) (hV : CTab w) (hT : Tabs w) (hE : ErrR w) (hM : MaxL w) :
  Calls Tryz.prog 18 #[.string s] w (ReadE (JD s) w) := by
 have HT := hid (And.intro hV (And.intro hT (And.intro hE hM)));have HLI := hid (fun (W : World) (hb : Below w.heap.size w W) => Jcq s W hs (hT.below hb) (hM.below hb));obtain ⟨⟨lf, la, lp⟩, hlf⟩ : ∃ f, f = (JM s).2 := ⟨_, rfl⟩
 obtain ⟨L, hL⟩ : ∃ L, L = (JM s).1 := ⟨_, rfl⟩
 have hpair : JM s = (L, ⟨lf, la, lp⟩) := by rw [hL, hlf]
 rw [hpair] at HLI;obtain ⟨r, hr⟩ : ∃ r, r = JD s := ⟨_, rfl⟩
 rw [<- hr];have HR := hid hr;have HLf := hid (And.intro hlf hL);clear hV hT hE hM hlf hL hpair hr;by_cases hc : lf = 0
 rotate_left
 ·have d1 : (lf != 0) = true := bne_iff_ne.2 hc
  have d2 : (lf == 0) = false := JmH hc;have HF := hid (show r = (⟨lf, la, lp⟩, VF) by rw [HR.out, YE (by rw [<- HLf.out.1]; exact hc), <- HLf.out.1]);clear hc;go_enter Tryz.func18, Tryz.ntmps18
  go_wp2_with fail
  refine (HLI.out _ Jj).mono ?_;rintro e w1 ⟨A, c, rfl, -, hb1⟩;simp only [Uv];have HT1 := hid ((hb1.block w.heap.size (by simp; omega)).trans ((Below.heap_alloc _ _ _ (by simp)).trans (Je (w := w) (o := .cells #[.int .i64 0, .bool false, .int .i64 0, .string ⟨#[]⟩, .slice none 0 0, .slice none 0 0] 34) rfl)));have HU1 := hid ((hb1.block (w.heap.size + 1) (by simp)).trans (Je (w := w.alloc (.cells #[.int .i64 0, .bool false, .int .i64 0, .string ⟨#[]⟩, .slice none 0 0, .slice none 0 0] 34)) (o := .cells #[.int .i64 0, .int .i64 0, .string ⟨#[]⟩] 23) (by simp)))
  have HB1 := hid (Jj : Below w.heap.size w w1);obtain ⟨x0, x1, x2, x3, x4, x5, xf⟩ := Jf HT1.out;obtain ⟨y0, y1, y2, yf⟩ := Qi HU1.out;have l0 := Ja HT1.out;have l1 := Ja HU1.out;clear hb1;go_wp2_with fail
  go_region_law (fail)
  all_goals
   (try go_wp2_with fail)
   exact bodyPost_ret (v := .tuple #[.agg #[.int .i64 0, .bool false, .int .i64 0, .string ⟨#[]⟩, .slice none 0 0, .slice none 0 0], .agg #[.int .i64 lf, .int .i64 la, .string lp]]) (by simp only [results, Tryz.results18]; go_simp) rfl (ReadE.bad HF.out (have hb01 := HB1.out; Jj))
 obtain rfl := hc;have hcode : (JM s).2.code = 0 := by rw [<- HLf.out.1]
 obtain ⟨hok, hlen⟩ := JcH hcode;rw [<- HLf.out.2] at hok hlen;have HOk := hid hok;have HC := hid hcode;clear hok hcode;go_enter Tryz.func18, Tryz.ntmps18
 go_wp2_with fail
 refine (HLI.out _ Jj).mono ?_;rintro e w1 ⟨A, c, rfl, hrow, hb1⟩;simp only [Uv];have HRow := hid hrow;obtain ⟨N, hN⟩ : ∃ N, N = L.length := ⟨_, rfl⟩
 rw [<- hN];have HT1 := hid ((hb1.block w.heap.size (by simp; omega)).trans ((Below.heap_alloc _ _ _ (by simp)).trans (Je (w := w) (o := .cells #[.int .i64 0, .bool false, .int .i64 0, .string ⟨#[]⟩, .slice none 0 0, .slice none 0 0] 34) rfl)));have HU1 := hid ((hb1.block (w.heap.size + 1) (by simp)).trans (Je (w := w.alloc (.cells #[.int .i64 0, .bool false, .int .i64 0, .string ⟨#[]⟩, .slice none 0 0, .slice none 0 0] 34)) (o := .cells #[.int .i64 0, .int .i64 0, .string ⟨#[]⟩] 23) (by simp)))
 have HB1 := hid (Jj : Below w.heap.size w w1);obtain ⟨x0, x1, x2, x3, x4, x5, xf⟩ := Jf HT1.out;obtain ⟨y0, y1, y2, yf⟩ := Qi HU1.out;have l0 := Ja HT1.out;have l1 := Ja HU1.out;clear hrow hb1;rcases L with _ | ⟨x, t⟩
 ·obtain rfl : N = 0 := hN
  have HF := hid (show r = (Qd 4 (s.data.toList.count 10 + 1), VF) by rw [HR.out, YC HC.out HLf.out.2.symm]);obtain ⟨k, hk⟩ : ∃ k, k = s.data.toList.count 10 := ⟨_, rfl⟩
  have HCt := hid (fun W => JkN s W);rw [<- hk] at HCt HF;have hkz : k <= 1048576 := by rw [hk]; exact Nat.le_trans List.count_le_length (by rw [Jp]; exact hs)
  have HE : Hid (Uv (Qd 4 (k + 1)) = #[.int .i64 4, .int .i64 (1 + (k : Int)), .string ⟨#[]⟩]) := hid (by unfold Uv Qd; simp only; rw [show ((k + 1 : Nat) : Int) = 1 + (k : Int) by omega]);clear hk;go_wp2_with fail
  refine (HCt.out _).mono ?_;rintro e w2 ⟨rfl, rfl⟩;go_wp2_with fail
  exact bodyPost_ret (v := .tuple #[.agg #[.int .i64 0, .bool false, .int .i64 0, .string ⟨#[]⟩, .slice none 0 0, .slice none 0 0], .agg #[.int .i64 4, .int .i64 (1 + (k : Int)), .string ⟨#[]⟩]]) (by simp only [results, Tryz.results18]; go_simp) rfl (HE.out ▸ ReadE.bad HF.out (have hb01 := HB1.out; Jj))
 have HN := hid hN;have hN0 : 0 < N := by rw [hN]; exact Nat.succ_pos _
 have hNz : N <= 20001 := by rw [hN]; exact hlen
 obtain ⟨g, cap, cur, hv, hgb, hgr, hcap, -, -, hcell⟩ := HRow.out.row YM (Nat.succ_pos _);simp only [Value.slice.injEq] at hv;obtain ⟨rfl, -, rfl⟩ := hv;have hgb2 : w.heap.size + 2 <= g := by simp at hgb; omega
 have lg := Ja hgr;have HGr := hid hgr;have HCell := hid hcell
 have hc0 : w1.cell? ⟨g, 0, none⟩ = some (.int .i64 (x.ind : Nat)) := by
  have h := hcell 0 x rfl 0 (by decide);rw [cell_of_row _ _ _ _ _ _ hgr]
  simpa [YA] using h
 have hc2 : w1.cell? ⟨g, 2, none⟩ = some (.int .i64 (x.at' : Nat)) := by
  have h := hcell 0 x rfl 2 (by decide);rw [cell_of_row _ _ _ _ _ _ hgr]
  simpa [YA] using h
 have hcf : ∀ o, w1.frozen? ⟨g, o, none⟩ = false := fun o => QJ hgr o
 have hNI : (0 : Int) < N := by omega
 have e0 : ((N : Int) == 0) = false := JmH (by omega);have e0' : (N == 0) = false := JmH (by omega);have hcapN : N <= c := by rw [hN]; exact hcap
 obtain ⟨xi, xt, xa⟩ := x;simp only at hc0 hc2;clear hgb hgr hcell hN hlen hcap;by_cases hx : xi = 0
 rotate_left
 ·have d1 : ((xi : Int) != 0) = true := bne_iff_ne.2 (by omega)
  have d2 : ((xi : Int) == 0) = false := JmH (by omega);have d3 : (xi == 0) = false := JmH hx;have HF := hid (show r = (Qd 4 xa, VF) by rw [HR.out, Z3 HC.out HLf.out.2.symm hx]);go_wp2_with fail
  go_region_law (fail)
  all_goals
   (try go_wp2_with fail)
   exact bodyPost_ret (v := .tuple #[.agg #[.int .i64 0, .bool false, .int .i64 0, .string ⟨#[]⟩, .slice none 0 0, .slice none 0 0], .agg #[.int .i64 4, .int .i64 (xa : Nat), .string ⟨#[]⟩]]) (by simp only [results, Tryz.results18]; go_simp) rfl (ReadE.bad HF.out (have hb01 := HB1.out; Jj))
 obtain ⟨n, hn⟩ : ∃ n, n = 3 * Qh (⟨xi, xt, xa⟩ :: t) + 3 := ⟨_, rfl⟩
 have hF := HR.out.trans (Zp HC.out HLf.out.2.symm hx);rw [<- hn] at hF;have HF := hid hF;have HNd := hid (show JG (.value 1) (⟨xi, xt, xa⟩ :: t) <= n from Nat.le_of_eq hn.symm);clear hn hF;obtain rfl := hx;have HAll := hid (fun (b : Nat) (hb : w.heap.size <= b) => (Jl3 w b g N c ⟨HT.out.1, HT.out.2.1, HT.out.2.2.1, hb, by omega⟩ n).1);have HNe := hid hN0;have hle1 := HB1.out.size
 clear hN0;go_upto_region 8 with fail
 clear hc0 hc2;obtain ⟨w2, hw2⟩ : ∃ W, W = w1.alloc (.cells #[.int .i64 0, .int .i64 la, .string lp] 23) := ⟨_, rfl⟩
 rw [<- hw2];have hb2 : Below w1.heap.size w1 w2 := by rw [hw2]; exact Jj
 have HZ2 := hid (show w1.heap.size + 1 = w2.heap.size by rw [hw2]; simp);have hz2 : w1.heap.size < w2.heap.size := by rw [hw2]; simp
 have hz2a : w1.heap.size + 1 <= w2.heap.size := by rw [hw2]; simp
 have hz2b : w2.heap.size <= w1.heap.size + 1 := by rw [hw2]; simp
 obtain ⟨w3, hw3⟩ : ∃ W, W = w2.alloc (.cells #[.slice (some ⟨g, 0, none⟩) N c, .int .i64 0, .int .i64 0, .int .i64 0, .int .i64 0, .string ⟨#[]⟩] 61) := ⟨_, rfl⟩
 have HW3 := hid hw3;have hb3 : Below w2.heap.size w2 w3 := by rw [hw3]; exact Jj
 have hz3 : w2.heap.size < w3.heap.size := by rw [hw3]; simp
 have hI3 : InAt 61 w2.heap.size g N c (⟨0, xt, xa⟩ :: t) 0 Jv w3 := ⟨0, cur, (Nat.zero_add _).trans HN.out.symm, hcapN, hNz, by omega, by rw [hw3]; exact Je rfl, (hb3.block _ (by omega)).trans ((hb2.block g lg).trans HGr.out), fun i x hx => by
  have h0 := HCell.out i x hx 0 (by decide);have h1 := HCell.out i x hx 1 (by decide);have h2 := HCell.out i x hx 2 (by decide);refine ⟨?_, ?_, ?_⟩
  ·simpa [YA] using h0
  ·simpa [YA] using h1
  simpa [YA] using h2⟩
 have HI3 := hid hI3;have HB3 := hid ((HB1.out.trans (hb2.mono HB1.out.size)).trans (hb3.mono (by have := HB1.out.size; omega)));have HT3 := hid ((hb3.block _ (by omega)).trans ((hb2.block _ l0).trans HT1.out));have HU3 := hid ((hb3.block _ (by omega)).trans ((hb2.block _ l1).trans HU1.out));have hsw : w.heap.size + 1 < w1.heap.size := l1;clear hw2 hb2 hw3 hb3 hI3 x0 x1 x2 x3 x4 x5 xf y0 y1 y2 yf l0 l1
 go_wp2_with fail
 rw [<- HW3.out];refine (HAll.out w2.heap.size (by omega) 1 _ _ 0 w3 (by decide) (by decide) (Nat.zero_le _) HOk.out HNd.out HB3.out HI3.out).mono ?_;intro e w4 hv4;obtain ⟨res, hres⟩ : ∃ q, q = Jn n (.value 1) (⟨0, xt, xa⟩ :: t) 0 := ⟨_, rfl⟩
 rw [<- hres] at hv4;have HF2 := HF.out;rw [<- hres] at HF2;have HF3 := hid HF2;obtain ⟨cs, L', m', f', rfl, hT, hI4, hO4, hA4, hm4⟩ := hv4;have hs4 := hA4.size;have hB4 : Below w.heap.size w w4 := HB3.out.trans (hA4.below HB3.out.size (fun i hi => by omega));have HT4 := hid ((hA4.block _ (by omega) (by omega)).trans HT3.out);have HU4 := hid ((hA4.block _ (by omega) (by omega)).trans HU3.out)
 have HB4 := hid hB4;have HI4 := hid hI4;obtain ⟨u0, u1, u2, u3, U4, u4, u44, U5, u5, u55, rfl⟩ := hT
 have hG : (f'.code ≠ 0 /\ r = (f', VF)) ∨ (f' = Jv /\ ∃ t5, (L' = [] -> r = (Jv, t5)) /\ (∀ y q, L' = y :: q -> r = (Qd 4 y.at', VF)) /\ OwnT 9 (fun x => w3.heap.size <= x /\ x < w4.heap.size) w4 t5 [.int .i64 u0, .bool u1, .int .i64 u2, .string u3, .slice U4 u4 u44, .slice U5 u5 u55]) := by
  rcases res with fb | ⟨t5, L5, m5⟩
  ·obtain ⟨rfl, hne⟩ := hm4
   exact .inl ⟨hne, HF3.out⟩
  obtain ⟨e1, e2, e3, e4⟩ := hm4;refine .inr ⟨e1, t5, fun e => ?_, fun y q e => ?_, e4⟩
  all_goals
   subst e2;subst e;exact HF3.out
 have HG := hid hG;clear hA4 hB4 hI4 hm4 hG hres HF2 hO4;obtain ⟨p4, hbx⟩ := HI4.out.open;have hpos := hbx.pos;obtain ⟨a0, a1, a2, a3, a4, a5, af⟩ := Jf hbx.row;have lb := Ja hbx.row;have HLn := hid hbx.line;have lg4 := hbx.lines;obtain ⟨x0, x1, x2, x3, x4, x5, xf⟩ := Jf HT4.out;obtain ⟨y0, y1, y2, yf⟩ := Qi HU4.out;have l0 := Ja HT4.out;have l1 := Ja HU4.out;obtain ⟨fc, fa, fp⟩ := f'
 simp only at a3 a4 a5;clear hbx;rcases L' with _ | ⟨⟨yi, yt, ya⟩, q⟩
 ·obtain rfl : p4 = N := by simpa using hpos
  rcases HG.out with ⟨hne, hre⟩ | ⟨he, t5, hre, -, hown⟩
  ·have d1 : (fc != 0) = true := bne_iff_ne.2 hne
   have d2 : (fc == 0) = false := JmH hne;have HRe := hid hre;clear hne hre;go_upto_region 13 with fail
   go_region_law (fail)
   all_goals
    (try go_wp2_with fail)
    exact bodyPost_ret (v := .tuple #[.agg #[.int .i64 0, .bool false, .int .i64 0, .string ⟨#[]⟩, .slice none 0 0, .slice none 0 0], .agg #[.int .i64 fc, .int .i64 fa, .string fp]]) (by simp only [results, Tryz.results18]; go_simp) rfl (ReadE.bad HRe.out (have hb04 := HB4.out; Jj))
  have HRe := hid (hre rfl);have HOwn := hid hown;cases he
  clear hre hown;go_wp2_with fail
  exact bodyPost_ret (v := .tuple #[.agg #[.int .i64 u0, .bool u1, .int .i64 u2, .string u3, .slice U4 u4 u44, .slice U5 u5 u55], .agg #[.int .i64 0, .int .i64 0, .string ⟨#[]⟩]]) (by simp only [results, Tryz.results18]; go_simp) rfl ⟨[.int .i64 u0, .bool u1, .int .i64 u2, .string u3, .slice U4 u4 u44, .slice U5 u5 u55], by rw [HRe.out]; rfl, by rw [HRe.out]; exact (HOwn.out.up (by decide)).carry (fun q hq => Aside.block (S := fun q => q = w.heap.size ∨ q = w.heap.size + 1) QC q hq.2 (by omega)) (fun q hq => ⟨by omega, by simp; omega⟩), (have hb04 := HB4.out; Jj)⟩
 ·have hpN : (p4 : Int) < N := by rw [List.length_cons] at hpos; omega
  have hp0 : (0 : Int) <= p4 := by omega
  obtain ⟨c0, c1, c2, cf⟩ := HLn.out _ _ rfl;simp only at c0 c1 c2;go_wp2_with fail
  have HI5 := hid (HI4.out.below (w' := w4.alloc (.cells #[.int .i64 u0, .bool u1, .int .i64 u2, .string u3, .slice U4 u4 u44, .slice U5 u5 u55] 34)) Jj);refine (VE w2.heap.size g N c _ m' ⟨fc, fa, fp⟩ 4 ya _ HI5.out).mono ?_;rintro e w5 ⟨rfl, hI5, hA5⟩;obtain ⟨F5, hF5⟩ : ∃ F5, F5 = US ⟨fc, fa, fp⟩ 4 ya := ⟨_, rfl⟩
  rw [<- hF5] at hI5
  have hG5 : F5.code ≠ 0 /\ r = (F5, VF) := by
   rcases HG.out with ⟨hne, hre⟩ | ⟨he, t5, -, hre, -⟩
   ·have e : F5 = ⟨fc, fa, fp⟩ := hF5.trans (if_neg hne)
    subst e;exact ⟨hne, hre⟩
   have e : F5 = Qd 4 ya := by rw [hF5, he]; exact if_pos rfl
   subst e;exact ⟨by show (4 : Int) ≠ 0; decide, hre _ _ rfl⟩
  have HB5 := hid (show Below w.heap.size w w5 from (HB4.out.trans (have hle := HB4.out.size; Below.alloc (Below.refl _ _) hle _)).trans (hA5.below (by have := HB4.out.size; simp; omega) (fun i hi => by omega)));have HT5 := hid ((hA5.block _ (by simp; omega) (by omega)).trans ((Below.heap_alloc _ _ _ (by omega)).trans HT4.out));have HU5 := hid ((hA5.block _ (by simp; omega) (by omega)).trans ((Below.heap_alloc _ _ _ (by omega)).trans HU4.out))
  have HG5 := hid hG5;obtain ⟨p5, hbx⟩ := hI5.open;clear a0 a1 a2 a3 a4 a5 af lb x0 x1 x2 x3 x4 x5 xf y0 y1 y2 yf l0 l1 c0 c1 c2 cf hI5 hA5 hF5 hG5;obtain ⟨a0, a1, a2, a3, a4, a5, af⟩ := Jf hbx.row;have lb := Ja hbx.row;obtain ⟨x0, x1, x2, x3, x4, x5, xf⟩ := Jf HT5.out;obtain ⟨y0, y1, y2, yf⟩ := Qi HU5.out;have l0 := Ja HT5.out;have l1 := Ja HU5.out;obtain ⟨gc, ga, gp⟩ := F5
  simp only at a3 a4 a5;have d1 : (gc != 0) = true := bne_iff_ne.2 HG5.out.1;have d2 : (gc == 0) = false := JmH HG5.out.1;clear hbx;go_upto_region 13 with fail
  go_region_law (fail)
  all_goals
   (try go_wp2_with fail)
   exact bodyPost_ret (v := .tuple #[.agg #[.int .i64 0, .bool false, .int .i64 0, .string ⟨#[]⟩, .slice none 0 0, .slice none 0 0], .agg #[.int .i64 gc, .int .i64 ga, .string gp]]) (by simp only [results, Tryz.results18]; go_simp) rfl (ReadE.bad HG5.out.2 (have hb05 := HB5.out; Jj))
theorem Jk6 (b g N cap : Nat) : ∀ n, JjX b g N cap n /\ Jjv b g N cap n /\ JlO b g N cap n /\ Jl5 b g N cap n := by
 intro n;induction n using Nat.strongRecOn with
 | ind n ih =>
  have hv : JjX b g N cap n := by
   cases n with
   | zero => intro d x r m w _ _ _ _ hn; unfold JG at hn; simp only at hn; omega
   | succ n => exact Jfd b g N cap n (ih n (Nat.lt_succ_self n)).2.2.1 (ih n (Nat.lt_succ_self n)).2.2.2
  have hb : Jjv b g N cap n := by
   cases n with
   | zero => intro i d a r m w _ _ _ _ hn; unfold JG at hn; simp only at hn; omega
   | succ n => exact Je8 b g N cap n (ih n (Nat.lt_succ_self n)).1
  exact ⟨hv, hb, Jg6 b g N cap n (fun k hk => (ih k hk).2.1) (fun k hk => (ih k hk).1), Jh1 b g N cap n (fun k hk => (ih k hk).2.1)⟩
theorem JdY {s : ByteArray} (h : (JM s).2.code = 0) : s.size <= 20000 := by
 unfold JM at h;by_cases c : (QN s).code ≠ 0
 ·rw [if_pos c] at h; exact absurd h c
 exact WH (by omega)
theorem Ws (s : ByteArray) (w : World) (hs : s.size <= 1048576) :
  Calls Tryz.prog 19 #[.string s] w (ReadE (JD s) w) := by
 have HLI := hid (fun (W : World) => Jbd s W hs);obtain ⟨⟨lf, la, lp⟩, hlf⟩ : ∃ f, f = (JM s).2 := ⟨_, rfl⟩
 obtain ⟨L, hL⟩ : ∃ L, L = (JM s).1 := ⟨_, rfl⟩
 have hpair : JM s = (L, ⟨lf, la, lp⟩) := by rw [hL, hlf]
 rw [hpair] at HLI;obtain ⟨r, hr⟩ : ∃ r, r = JD s := ⟨_, rfl⟩
 rw [<- hr];have HR := hid hr;have HLf := hid (And.intro hlf hL);clear hlf hL hpair hr;by_cases hc : lf = 0
 rotate_left
 ·have d1 : (lf != 0) = true := bne_iff_ne.2 hc
  have d2 : (lf == 0) = false := JmH hc;have HF := hid (show r = (⟨lf, la, lp⟩, VF) by rw [HR.out, YE (by rw [<- HLf.out.1]; exact hc), <- HLf.out.1]);clear hc;go_enter Tryz.func19, Tryz.ntmps19
  go_wp2_with fail
  refine (HLI.out _).mono ?_;rintro e w1 ⟨A, c, rfl, -, hb1⟩;simp only [Uv];have HT1 := hid ((hb1.block w.heap.size (by simp; omega)).trans ((Below.heap_alloc _ _ _ (by simp)).trans (Je (w := w) (o := .cells #[.int .i64 0, .bool false, .int .i64 0, .string ⟨#[]⟩, .slice none 0 0, .slice none 0 0] 34) rfl)));have HU1 := hid ((hb1.block (w.heap.size + 1) (by simp)).trans (Je (w := w.alloc (.cells #[.int .i64 0, .bool false, .int .i64 0, .string ⟨#[]⟩, .slice none 0 0, .slice none 0 0] 34)) (o := .cells #[.int .i64 0, .int .i64 0, .string ⟨#[]⟩] 23) (by simp)))
  have HB1 := hid (Jj : Below w.heap.size w w1);obtain ⟨x0, x1, x2, x3, x4, x5, xf⟩ := Jf HT1.out;obtain ⟨y0, y1, y2, yf⟩ := Qi HU1.out;have l0 := Ja HT1.out;have l1 := Ja HU1.out;clear hb1;go_wp2_with fail
  go_region_law (fail)
  all_goals
   (try go_wp2_with fail)
   exact bodyPost_ret (v := .tuple #[.agg #[.int .i64 0, .bool false, .int .i64 0, .string ⟨#[]⟩, .slice none 0 0, .slice none 0 0], .agg #[.int .i64 lf, .int .i64 la, .string lp]]) (by simp only [results, Tryz.results19]; go_simp) rfl (ReadE.bad HF.out (have hb01 := HB1.out; Jj))
 obtain rfl := hc;have hcode : (JM s).2.code = 0 := by rw [<- HLf.out.1]
 obtain ⟨hok, hlen⟩ := JcH hcode;rw [<- HLf.out.2] at hok hlen;have HOk := hid hok;have HC := hid hcode;clear hok hcode;go_enter Tryz.func19, Tryz.ntmps19
 go_wp2_with fail
 refine (HLI.out _).mono ?_;rintro e w1 ⟨A, c, rfl, hrow, hb1⟩;simp only [Uv];have HRow := hid hrow;obtain ⟨N, hN⟩ : ∃ N, N = L.length := ⟨_, rfl⟩
 rw [<- hN];have HT1 := hid ((hb1.block w.heap.size (by simp; omega)).trans ((Below.heap_alloc _ _ _ (by simp)).trans (Je (w := w) (o := .cells #[.int .i64 0, .bool false, .int .i64 0, .string ⟨#[]⟩, .slice none 0 0, .slice none 0 0] 34) rfl)));have HU1 := hid ((hb1.block (w.heap.size + 1) (by simp)).trans (Je (w := w.alloc (.cells #[.int .i64 0, .bool false, .int .i64 0, .string ⟨#[]⟩, .slice none 0 0, .slice none 0 0] 34)) (o := .cells #[.int .i64 0, .int .i64 0, .string ⟨#[]⟩] 23) (by simp)))
 have HB1 := hid (Jj : Below w.heap.size w w1);obtain ⟨x0, x1, x2, x3, x4, x5, xf⟩ := Jf HT1.out;obtain ⟨y0, y1, y2, yf⟩ := Qi HU1.out;have l0 := Ja HT1.out;have l1 := Ja HU1.out;clear hrow hb1;rcases L with _ | ⟨x, t⟩
 ·obtain rfl : N = 0 := hN
  have HF0 := hid (HR.out.trans (YC HC.out HLf.out.2.symm));have hsz := JdY HC.out;go_wp2_with fail
  obtain ⟨w1b, hw1b⟩ : ∃ W, W = w1.alloc (.cells #[.int .i64 0, .int .i64 la, .string lp] 23) := ⟨_, rfl⟩
  have hb1b : Below w1.heap.size w1 w1b := by rw [hw1b]; exact Jj
  rw [<- hw1b];refine (JfT s w1b hsz).mono ?_;rintro e w2 ⟨l, v, rfl, hl, -, hrw, hb2⟩;obtain ⟨A2, c2, rfl⟩ := JP hrw;have HF := hid (show r = (Qd 4 l.length, VF) by rw [HF0.out, <- UW s.data.toList [], <- hl, List.length_map]);have hb12 := hb1b.trans (hb2.mono hb1b.size);have HT2 := hid ((hb12.block _ l0).trans HT1.out);have HU2 := hid ((hb12.block _ l1).trans HU1.out)
  have HB2 := hid (HB1.out.trans (hb12.mono HB1.out.size));clear hw1b hb1b hb2 hb12 hl hrw x0 x1 x2 x3 x4 x5 xf y0 y1 y2 yf;obtain ⟨x0, x1, x2, x3, x4, x5, xf⟩ := Jf HT2.out;obtain ⟨y0, y1, y2, yf⟩ := Qi HU2.out;have l02 := Ja HT2.out;have l12 := Ja HU2.out;go_wp2_with fail
  exact bodyPost_ret (v := .tuple #[.agg #[.int .i64 0, .bool false, .int .i64 0, .string ⟨#[]⟩, .slice none 0 0, .slice none 0 0], .agg #[.int .i64 4, .int .i64 (l.length : Nat), .string ⟨#[]⟩]]) (by simp only [results, Tryz.results19]; go_simp) rfl (ReadE.bad HF.out (have hb02 := HB2.out; Jj))
 have HN := hid hN;have hN0 : 0 < N := by rw [hN]; exact Nat.succ_pos _
 have hNz : N <= 20001 := by rw [hN]; exact hlen
 obtain ⟨g, cap, cur, hv, hgb, hgr, hcap, -, -, hcell⟩ := HRow.out.row YM (Nat.succ_pos _);simp only [Value.slice.injEq] at hv;obtain ⟨rfl, -, rfl⟩ := hv;have hgb2 : w.heap.size + 2 <= g := by simp at hgb; omega
 have lg := Ja hgr;have HGr := hid hgr;have HCell := hid hcell
 have hc0 : w1.cell? ⟨g, 0, none⟩ = some (.int .i64 (x.ind : Nat)) := by
  have h := hcell 0 x rfl 0 (by decide);rw [cell_of_row _ _ _ _ _ _ hgr]
  simpa [YA] using h
 have hc2 : w1.cell? ⟨g, 2, none⟩ = some (.int .i64 (x.at' : Nat)) := by
  have h := hcell 0 x rfl 2 (by decide);rw [cell_of_row _ _ _ _ _ _ hgr]
  simpa [YA] using h
 have hcf : ∀ o, w1.frozen? ⟨g, o, none⟩ = false := fun o => QJ hgr o
 have hNI : (0 : Int) < N := by omega
 have e0 : ((N : Int) == 0) = false := JmH (by omega);have e0' : (N == 0) = false := JmH (by omega);have hcapN : N <= c := by rw [hN]; exact hcap
 obtain ⟨xi, xt, xa⟩ := x;simp only at hc0 hc2;clear hgb hgr hcell hN hlen hcap;by_cases hx : xi = 0
 rotate_left
 ·have d1 : ((xi : Int) != 0) = true := bne_iff_ne.2 (by omega)
  have d2 : ((xi : Int) == 0) = false := JmH (by omega);have d3 : (xi == 0) = false := JmH hx;have HF := hid (show r = (Qd 4 xa, VF) by rw [HR.out, Z3 HC.out HLf.out.2.symm hx]);go_wp2_with fail
  go_region_law (fail)
  all_goals
   (try go_wp2_with fail)
   exact bodyPost_ret (v := .tuple #[.agg #[.int .i64 0, .bool false, .int .i64 0, .string ⟨#[]⟩, .slice none 0 0, .slice none 0 0], .agg #[.int .i64 4, .int .i64 (xa : Nat), .string ⟨#[]⟩]]) (by simp only [results, Tryz.results19]; go_simp) rfl (ReadE.bad HF.out (have hb01 := HB1.out; Jj))
 obtain ⟨n, hn⟩ : ∃ n, n = 3 * Qh (⟨xi, xt, xa⟩ :: t) + 3 := ⟨_, rfl⟩
 have hF := HR.out.trans (Zp HC.out HLf.out.2.symm hx);rw [<- hn] at hF;have HF := hid hF;have HNd := hid (show JG (.value 1) (⟨xi, xt, xa⟩ :: t) <= n from Nat.le_of_eq hn.symm);clear hn hF;obtain rfl := hx;have HAll := hid (fun (b : Nat) => (Jk6 b g N c n).1);have HNe := hid hN0;have hle1 := HB1.out.size;clear hN0;go_upto_region 8 with fail
 clear hc0 hc2;obtain ⟨w2, hw2⟩ : ∃ W, W = w1.alloc (.cells #[.int .i64 0, .int .i64 la, .string lp] 23) := ⟨_, rfl⟩
 rw [<- hw2];have hb2 : Below w1.heap.size w1 w2 := by rw [hw2]; exact Jj
 have hz2 : w1.heap.size < w2.heap.size := by rw [hw2]; simp
 have hz2a : w1.heap.size + 1 <= w2.heap.size := by rw [hw2]; simp
 have hz2b : w2.heap.size <= w1.heap.size + 1 := by rw [hw2]; simp
 obtain ⟨w3, hw3⟩ : ∃ W, W = w2.alloc (.cells #[.slice (some ⟨g, 0, none⟩) N c, .int .i64 0, .int .i64 0, .int .i64 0, .int .i64 0, .string ⟨#[]⟩] 67) := ⟨_, rfl⟩
 have HW3 := hid hw3;have hb3 : Below w2.heap.size w2 w3 := by rw [hw3]; exact Jj
 have hz3 : w2.heap.size < w3.heap.size := by rw [hw3]; simp
 have hI3 : InAt 67 w2.heap.size g N c (⟨0, xt, xa⟩ :: t) 0 Jv w3 := ⟨0, cur, (Nat.zero_add _).trans HN.out.symm, hcapN, hNz, by omega, by rw [hw3]; exact Je rfl, (hb3.block _ (by omega)).trans ((hb2.block g lg).trans HGr.out), fun i x hx => by
  have h0 := HCell.out i x hx 0 (by decide);have h1 := HCell.out i x hx 1 (by decide);have h2 := HCell.out i x hx 2 (by decide);refine ⟨?_, ?_, ?_⟩
  ·simpa [YA] using h0
  ·simpa [YA] using h1
  simpa [YA] using h2⟩
 have HI3 := hid hI3;have HB3 := hid ((HB1.out.trans (hb2.mono HB1.out.size)).trans (hb3.mono (by have := HB1.out.size; omega)));have HT3 := hid ((hb3.block _ (by omega)).trans ((hb2.block _ l0).trans HT1.out));have HU3 := hid ((hb3.block _ (by omega)).trans ((hb2.block _ l1).trans HU1.out));have hsw : w.heap.size + 1 < w1.heap.size := l1;clear hw2 hb2 hw3 hb3 hI3 x0 x1 x2 x3 x4 x5 xf y0 y1 y2 yf l0 l1
 go_wp2_with fail
 rw [<- HW3.out];refine (HAll.out w2.heap.size 1 _ _ 0 w3 (by decide) (by decide) (Nat.zero_le _) HOk.out HNd.out HI3.out).mono ?_;intro e w4 hv4;obtain ⟨res, hres⟩ : ∃ q, q = Jn n (.value 1) (⟨0, xt, xa⟩ :: t) 0 := ⟨_, rfl⟩
 rw [<- hres] at hv4;have HF2 := HF.out;rw [<- hres] at HF2;have HF3 := hid HF2;obtain ⟨cs, L', m', f', rfl, hT, hI4, hO4, hA4, hm4⟩ := hv4;have hs4 := hA4.size;have hB4 : Below w.heap.size w w4 := HB3.out.trans (hA4.below HB3.out.size (fun i hi => by omega));have HT4 := hid ((hA4.block _ (by omega) (by omega)).trans HT3.out);have HU4 := hid ((hA4.block _ (by omega) (by omega)).trans HU3.out)
 have HB4 := hid hB4;have HI4 := hid hI4;obtain ⟨u0, u1, u2, u3, U4, u4, u44, U5, u5, u55, rfl⟩ := hT
 have hG : (f'.code ≠ 0 /\ r = (f', VF)) ∨ (f' = Jv /\ ∃ t5, (L' = [] -> r = (Jv, t5)) /\ (∀ y q, L' = y :: q -> r = (Qd 4 y.at', VF)) /\ OwnT 9 (fun x => w3.heap.size <= x /\ x < w4.heap.size) w4 t5 [.int .i64 u0, .bool u1, .int .i64 u2, .string u3, .slice U4 u4 u44, .slice U5 u5 u55]) := by
  rcases res with fb | ⟨t5, L5, m5⟩
  ·obtain ⟨rfl, hne⟩ := hm4
   exact .inl ⟨hne, HF3.out⟩
  obtain ⟨e1, e2, e3, e4⟩ := hm4;refine .inr ⟨e1, t5, fun e => ?_, fun y q e => ?_, e4⟩
  all_goals
   subst e2;subst e;exact HF3.out
 have HG := hid hG;clear hA4 hB4 hI4 hm4 hG hres HF2 hO4;go_upto_region 10 with fail
 obtain ⟨w5, hw5⟩ : ∃ W, W = w4.alloc (.cells #[.int .i64 u0, .bool u1, .int .i64 u2, .string u3, .slice U4 u4 u44, .slice U5 u5 u55] 34) := ⟨_, rfl⟩
 rw [<- hw5];have hb5 : Below w4.heap.size w4 w5 := by rw [hw5]; exact Jj
 have HV5 := hid (show w5.heap[w4.heap.size]? = some (.cells #[.int .i64 u0, .bool u1, .int .i64 u2, .string u3, .slice U4 u4 u44, .slice U5 u5 u55] 34 (0, 0)) by rw [hw5]; exact Je rfl);have HI5 := hid (HI4.out.below hb5);have HT5 := hid ((hb5.block _ (Ja HT4.out)).trans HT4.out);have HU5 := hid ((hb5.block _ (Ja HU4.out)).trans HU4.out);have HB5 := hid (HB4.out.trans (hb5.mono HB4.out.size))
 have HBb5 := hid hb5;have hs5 := hb5.size;have lb2 := HI4.out.lt.1;have lg2 := HI4.out.lt.2;have lt4 := Ja HT4.out;have lu4 := Ja HU4.out;clear hw5 hb5;obtain ⟨p4, hbx⟩ := HI5.out.open;have hpos := hbx.pos;obtain ⟨a0, a1, a2, a3, a4, a5, af⟩ := Jf hbx.row;have lb := Ja hbx.row;have HLn := hid hbx.line;have lg5 := hbx.lines;clear hbx;have hp0 : (0 : Int) <= p4 := by omega
 rcases HG.out with ⟨hne, hre⟩ | ⟨he, t5, hre1, hre2, hown⟩
 ·obtain ⟨fc, fa, fp⟩ := f'
  simp only at a3 a4 a5 hne;have d1 : (fc != 0) = true := bne_iff_ne.2 hne;have d2 : (fc == 0) = false := JmH hne;have HRe := hid hre;clear hne hre;refine Jm 18 (by kernel_rfl) (by kernel_rfl) (by decide) ?_
  iterate 18 (apply Exists.intro; refine And.intro ?_ ?_; (focus (intro W hW; (try simp only [Act.put, List.setIfInBounds_toArray, List.set_cons_zero, List.set_cons_succ]); first | (exact wpList_skip rfl ⟨rfl, rfl, Below.refl _ _⟩) | (obtain ⟨hcW, hfW⟩ := JE hW; have hsW := hW.size; (try simp at hsW); (try have hsW0 := Jd hsW); (try (have hsW1 := Jc hsW; (try (have hsW2 := Jc hsW1)))); go_wp2_with fail; exact ⟨rfl, rfl, Jj⟩))))
  intro wd hbwd
  (try simp only [Act.put, List.setIfInBounds_toArray, List.set_cons_zero, List.set_cons_succ])
  (try simp only [List.drop_succ_cons, List.drop_nil])
  have HTd := hid ((hbwd.block _ (Ja HT5.out)).trans HT5.out);have HUd := hid ((hbwd.block _ (Ja HU5.out)).trans HU5.out);have HId := hid (HI5.out.below hbwd);have HBd := hid (HB5.out.trans (hbwd.mono HB5.out.size));clear hbwd a0 a1 a2 a3 a4 a5 af lb;obtain ⟨pd, hbx⟩ := HId.out.open;obtain ⟨a0, a1, a2, a3, a4, a5, af⟩ := Jf hbx.row;simp only at a3 a4 a5;have lb := Ja hbx.row
  obtain ⟨x0, x1, x2, x3, x4, x5, xf⟩ := Jf HTd.out;obtain ⟨y0, y1, y2, yf⟩ := Qi HUd.out;have l0 := Ja HTd.out;have l1 := Ja HUd.out;clear hbx;go_upto_region 13 with fail
  go_region_law (fail)
  all_goals
   (try go_wp2_with fail)
   exact bodyPost_ret (v := .tuple #[.agg #[.int .i64 0, .bool false, .int .i64 0, .string ⟨#[]⟩, .slice none 0 0, .slice none 0 0], .agg #[.int .i64 fc, .int .i64 fa, .string fp]]) (by simp only [results, Tryz.results19]; go_simp) rfl (ReadE.bad HRe.out (have hb0d := HBd.out; Jj))
 ·subst he
  have a3' : w5.cell? ⟨w2.heap.size, 3, none⟩ = some (.int .i64 0) := a3;clear a3;rcases L' with _ | ⟨⟨yi, yt, ya⟩, q⟩
  ·obtain rfl : p4 = N := by simpa using hpos
   have HRe := hid (hre1 rfl);have HOwn := hid (hown.carry (w' := w5) (fun q hq => HBb5.out.block q hq.2) (fun _ h => h));have hNN : decide ((p4 : Int) < p4) = false := JmF (by omega);have hNN2 : decide (p4 < p4) = false := JmF (by omega);clear hre1 hre2 hown hpos HLn HG HI4 HI3 HAll HNe HW3;refine Jm 18 (by kernel_rfl) (by kernel_rfl) (by decide) ?_
   iterate 18 (apply Exists.intro; refine And.intro ?_ ?_; (focus (intro W hW; (try simp only [Act.put, List.setIfInBounds_toArray, List.set_cons_zero, List.set_cons_succ]); first | (exact wpList_skip rfl ⟨rfl, rfl, Below.refl _ _⟩) | (obtain ⟨hcW, hfW⟩ := JE hW; have hsW := hW.size; (try simp at hsW); (try have hsW0 := Jd hsW); (try (have hsW1 := Jc hsW; (try (have hsW2 := Jc hsW1)))); go_wp2_with fail; exact ⟨rfl, rfl, Jj⟩))))
   intro wd hbwd
   (try simp only [Act.put, List.setIfInBounds_toArray, List.set_cons_zero, List.set_cons_succ])
   (try simp only [List.drop_succ_cons, List.drop_nil])
   have HTd := hid ((hbwd.block _ (Ja HT5.out)).trans HT5.out);have HUd := hid ((hbwd.block _ (Ja HU5.out)).trans HU5.out);have HVd := hid ((hbwd.block _ (Ja HV5.out)).trans HV5.out);have HId := hid (HI5.out.below hbwd);have HBd := hid (HB5.out.trans (hbwd.mono HB5.out.size));have HOwn2 := hid (HOwn.out.carry (w' := wd) (fun q hq => hbwd.block q (by omega)) (fun _ h => h))
   have hsd := hbwd.size;clear hbwd a0 a1 a2 a3' a4 a5 af lb;obtain ⟨pd, hbx⟩ := HId.out.open;obtain ⟨a0, a1, a2, a3, a4, a5, af⟩ := Jf hbx.row;have a3' : wd.cell? ⟨w2.heap.size, 3, none⟩ = some (.int .i64 0) := a3;have lb := Ja hbx.row;obtain ⟨x0, x1, x2, x3, x4, x5, xf⟩ := Jf HTd.out;obtain ⟨y0, y1, y2, yf⟩ := Qi HUd.out;obtain ⟨z0, z1, z2, z3, z4, z5, zf⟩ := Jf HVd.out;have l0 := Ja HTd.out
   have l1 := Ja HUd.out;have l2 := Ja HVd.out;clear hbx a3;go_wp2_with fail
   exact bodyPost_ret (v := .tuple #[.agg #[.int .i64 u0, .bool u1, .int .i64 u2, .string u3, .slice U4 u4 u44, .slice U5 u5 u55], .agg #[.int .i64 0, .int .i64 0, .string ⟨#[]⟩]]) (by simp only [results, Tryz.results19]; go_simp) rfl ⟨[.int .i64 u0, .bool u1, .int .i64 u2, .string u3, .slice U4 u4 u44, .slice U5 u5 u55], by rw [HRe.out]; rfl, by rw [HRe.out]; exact (HOwn2.out.up (by decide)).carry (fun q hq => Aside.block (S := fun q => q = w.heap.size ∨ q = w.heap.size + 1) QC q (by omega) (by omega)) (fun q hq => ⟨by omega, by simp; omega⟩), (have hb0d := HBd.out; Jj)⟩
  have hpN : (p4 : Int) < N := by rw [List.length_cons] at hpos; omega
  have hdN : decide ((p4 : Int) < N) = true := JmG hpN;have hdN2 : decide (p4 < N) = true := JmG (by omega);have HRe := hid (show r = (Qd 4 ya, VF) from hre2 _ _ rfl);clear hre1 hre2 hown HLn HG HI4 HI3 HAll HNe HW3;refine Jm 18 (by kernel_rfl) (by kernel_rfl) (by decide) ?_
  iterate 18 (apply Exists.intro; refine And.intro ?_ ?_; (focus (intro W hW; (try simp only [Act.put, List.setIfInBounds_toArray, List.set_cons_zero, List.set_cons_succ]); first | (exact wpList_skip rfl ⟨rfl, rfl, Below.refl _ _⟩) | (obtain ⟨hcW, hfW⟩ := JE hW; have hsW := hW.size; (try simp at hsW); (try have hsW0 := Jd hsW); (try (have hsW1 := Jc hsW; (try (have hsW2 := Jc hsW1)))); go_wp2_with fail; exact ⟨rfl, rfl, Jj⟩))))
  intro wd hbwd
  (try simp only [Act.put, List.setIfInBounds_toArray, List.set_cons_zero, List.set_cons_succ])
  (try simp only [List.drop_succ_cons, List.drop_nil])
  have HTd := hid ((hbwd.block _ (Ja HT5.out)).trans HT5.out);have HUd := hid ((hbwd.block _ (Ja HU5.out)).trans HU5.out);have HId := hid (HI5.out.below hbwd);have HBd := hid (HB5.out.trans (hbwd.mono HB5.out.size));have hsd := hbwd.size;clear hbwd a0 a1 a2 a3' a4 a5 af lb;obtain ⟨pd, hbx⟩ := HId.out.open;obtain rfl : pd = p4 := by have := hbx.pos; omega
  obtain ⟨a0, a1, a2, a3, a4, a5, af⟩ := Jf hbx.row;have lb := Ja hbx.row;have lgd := hbx.lines;obtain ⟨c0, c1, c2, cf⟩ := hbx.line _ _ rfl;simp only at c0 c1 c2;clear hbx;go_upto_if 59 with (fail)
  go_cut [] from 60 to 72 (fun wx => InAt 67 w2.heap.size g N c (⟨yi, yt, ya⟩ :: q) m' (Qd 4 ya) wx /\ Aside (fun z => z = w2.heap.size) wd wx)
  case first =>
   go_upto_region 11 with fail
   go_region_law (go_simp; go_at_call 56; refine (VW w2.heap.size g N c _ m' Jv 4 ya _ (HId.out.below Jj)).mono ?_; rintro e6 w6 ⟨rfl, hI6, hA6⟩)
   all_goals
    (try go_wp2_with fail)
    go_meet
    exact ⟨hI6, (Aside.of_below (Jj : Below wd.heap.size wd _)).trans hA6⟩
  case rest =>
   obtain ⟨hI6, hA6⟩ := hcut;have hs6 := hA6.size;have HT6 := hid ((hA6.block _ (Ja HTd.out) (by omega)).trans HTd.out);have HU6 := hid ((hA6.block _ (Ja HUd.out) (by omega)).trans HUd.out);have HB6 := hid (HBd.out.trans (hA6.below HBd.out.size (fun i hi => by omega)));clear a0 a1 a2 a3 a4 a5 af lb lgd c0 c1 c2 cf;obtain ⟨p6, hbx⟩ := hI6.open;obtain ⟨a0, a1, a2, a3, a4, a5, af⟩ := Jf hbx.row
   have lb := Ja hbx.row;have a3' : wc.cell? ⟨w2.heap.size, 3, none⟩ = some (.int .i64 4) := a3;have a4' : wc.cell? ⟨w2.heap.size, 4, none⟩ = some (.int .i64 (ya : Nat)) := a4;have a5' : wc.cell? ⟨w2.heap.size, 5, none⟩ = some (.string ⟨#[]⟩) := a5;obtain ⟨x0, x1, x2, x3, x4, x5, xf⟩ := Jf HT6.out;obtain ⟨y0, y1, y2, yf⟩ := Qi HU6.out;have l0 := Ja HT6.out;have l1 := Ja HU6.out;clear hbx hI6 hA6 a3 a4 a5
   go_upto_region 13 with fail
   go_region_law (fail)
   all_goals
    (try go_wp2_with fail)
    exact bodyPost_ret (v := .tuple #[.agg #[.int .i64 0, .bool false, .int .i64 0, .string ⟨#[]⟩, .slice none 0 0, .slice none 0 0], .agg #[.int .i64 4, .int .i64 (ya : Nat), .string ⟨#[]⟩]]) (by simp only [results, Tryz.results19]; go_simp) rfl (ReadE.bad HRe.out (have hb06 := HB6.out; Jj))
theorem Jca (s : ByteArray) (h : (JD s).1.code = 0) : (JD s).1 = Jv := by
 by_cases hf : (JM s).2.code = 0
 rotate_left
 ·rw [YE hf] at h
  exact absurd h hf
 rcases hL : (JM s).1 with _ | ⟨x, r⟩
 ·rw [YC hf hL] at h
  exact absurd (show (4 : Int) = 0 from h) (by decide)
 by_cases hx : x.ind = 0
 rotate_left
 ·rw [Z3 hf hL hx] at h
  exact absurd (show (4 : Int) = 0 from h) (by decide)
 rw [Zp hf hL hx] at h ⊢;rcases hk : Jn (3 * Qh (x :: r) + 3) (.value 1) (x :: r) 0 with f | ⟨t, L, m⟩
 ·rw [hk] at h
  exact absurd h (QX _ _ _ _ _ hk (Nat.le_refl _) (by unfold JlE; simp))
 ·rcases L with _ | ⟨y, q⟩
  ·rfl
  rw [hk] at h;exact absurd (show (4 : Int) = 0 from h) (by decide)
theorem Jas (s : ByteArray) (h : ¬ (JD s).1.code = 0) : (JD s).2 = VF := by
 by_cases hf : (JM s).2.code = 0
 rotate_left
 ·rw [YE hf]
 rcases hL : (JM s).1 with _ | ⟨x, r⟩
 ·rw [YC hf hL]
 by_cases hx : x.ind = 0
 rotate_left
 ·rw [Z3 hf hL hx]
 rw [Zp hf hL hx] at h ⊢;rcases hk : Jn (3 * Qh (x :: r) + 3) (.value 1) (x :: r) 0 with f | ⟨t, L, m⟩
 ·rfl
 ·rcases L with _ | ⟨y, q⟩
  ·rw [hk] at h
   exact absurd rfl h
  rfl
theorem Jfb (s : ByteArray) : Jl 10 (JD s).2 <= 1073741824 := by
 by_cases h : (JD s).1.code = 0
 ·have := (V8 (Jc5 h).1).1
  omega
 rw [Jas s h];decide
theorem Jhf (s : ByteArray) : s.data.toList.length = s.size := Array.length_toList
theorem Jkt {d : TreeD} (h : Va d = false) : d.kind <= 6 /\ (d.kind < 5 -> d.kids = []) := by
 unfold Va at h;simp only [Bool.or_eq_false_iff, Bool.not_eq_false', Bool.and_eq_false_iff, bne_eq_false_iff_eq, decide_eq_false_iff_not, Nat.not_lt, Nat.le_zero, List.length_eq_zero_iff] at h;obtain ⟨⟨⟨⟨⟨h1, -⟩, -⟩, -⟩, -⟩, h6⟩ := h;refine ⟨?_, fun hk => h6.resolve_right (by omega)⟩;unfold Q6 at h1;exact (of_decide_eq_true h1).2
theorem VD {n : Nat} {d : TreeD} (h : d.kids = []) : Jt (n + 1) d = [(Jx d).data.toList] := by rw [Jt, if_pos h]
theorem Yq {n : Nat} {d : TreeD} (h : d.kids ≠ []) : Jt (n + 1) d = Qj (J2 (Jt n) d) d.kids.length := by rw [Jt, if_neg h]
theorem JaV {s : ByteArray} (h : s.size <= 400) : (Js s).size <= 2402 := by
 unfold Js;split
 ·omega
 have := Wb s;have e : (JN s).data.toList.length = (JN s).size := Array.length_toList;omega
theorem Jaf {s : ByteArray} (h : Qs s = true) : s.size <= 400 := by
 unfold Qs at h;simp only [Bool.and_eq_true, decide_eq_true_eq] at h;exact h.1
theorem Jky {n : Nat} {d : TreeD} (h : Ju (n + 1) d = true) (hn : ZS (n + 1) d) : (Jx d).size <= 2402 := by
 unfold Jx;split
 ·exact JaV (Jaf (JZ h).2.1)
 split
 ·decide
 split
 ·decide
 split
 ·decide
 split
 ·split <;> decide
 ·have := ZL _ hn.1
  omega
structure LinB (n : Nat) (d : TreeD) : Prop where
 hd : ∃ x r, Jt n d = x :: r
 many : (Jt n d).length <= Jl n d
 more : d.kids ≠ [] -> (Jt n d).length + 1 <= Jl n d
 long : ∀ x ∈ Jt n d, x.length <= 4806 + 2 * Jw n d
 leaf : d.kids = [] -> ∀ x ∈ Jt n d, x.length <= 2402
theorem WQ (L : List (List UInt8)) : (Qp L).length = L.length := List.length_map _
theorem JdQ {f : TreeD -> List (List UInt8)} {d t : TreeD} {i : Nat} {k : ByteArray} (h6 : d.kind = 6) (ht : d.kids[i]? = some t) (hk : d.keys[i]? = some k) (hl : t.kids = []) : J2 f d i = [(Js k).data.toList ++ [58, 32] ++ (f t).headD []] := by
 unfold J2;rw [ht];simp only [if_pos h6, hk, if_pos hl]
theorem JbE {f : TreeD -> List (List UInt8)} {d t : TreeD} {i : Nat} {k : ByteArray} (h6 : d.kind = 6) (ht : d.kids[i]? = some t) (hk : d.keys[i]? = some k) (hl : t.kids ≠ []) : J2 f d i = ((Js k).data.toList ++ [58]) :: Qp (f t) := by
 unfold J2;rw [ht];simp only [if_pos h6, hk, if_neg hl]
theorem JbD {f : TreeD -> List (List UInt8)} {d t : TreeD} {i : Nat} {x : List UInt8} {r : List (List UInt8)} (h6 : d.kind ≠ 6) (ht : d.kids[i]? = some t) (hx : f t = x :: r) : J2 f d i = ([45, 32] ++ x) :: Qp r := by
 unfold J2;rw [ht];simp only [if_neg h6, hx]
theorem Jag {n : Nat} {d : TreeD} (h : Ju (n + 1) d = true) (hk : d.kids ≠ []) : d.kind = 5 ∨ (d.kind = 6 /\ d.keys.length = d.kids.length) := by
 obtain ⟨h1, -, h3, -, -⟩ := JZ h;obtain ⟨k2, p6⟩ := Jkt h1;by_cases c : d.kind = 6
 ·right
  refine ⟨c, ?_⟩;unfold JQ at h3;simp [c] at h3;exact h3
 left
 by_cases c5 : d.kind < 5
 ·exact absurd (p6 c5) hk
 omega
theorem Jei {n i : Nat} {d t : TreeD} (h : Ju (n + 1) d = true) (ht : d.kids[i]? = some t) (hb : LinB n t) :
  (∃ x r, J2 (Jt n) d i = x :: r) /\ (J2 (Jt n) d i).length <= Jl n t /\ ∀ x ∈ J2 (Jt n) d i, x.length <= 4806 + 2 * Jw (n + 1) d := by
 have hne : d.kids ≠ [] := fun e => by rw [e] at ht; cases ht
 obtain ⟨x, r, hx⟩ := hb.hd;have hdk := (Vq (n := n) ht).2
 have hbl : ∀ L : List (List UInt8), (∀ z ∈ L, z.length <= 4806 + 2 * Jw n t) -> ∀ y ∈ Qp L, y.length <= 4806 + 2 * Jw (n + 1) d := fun L hL y hy => by
  have hdk := (Vq (n := n) ht).2;unfold Qp at hy;obtain ⟨z, hz, rfl⟩ := List.mem_map.1 hy;have := hL z hz;simp only [List.length_append, List.length_cons, List.length_nil];omega
 rcases Jag h hne with h5 | ⟨h6, hl⟩
 ·rw [JbD (by omega) ht hx]
  refine ⟨⟨_, _, rfl⟩, ?_, fun y hy => ?_⟩
  ·have := hb.many
   rw [hx] at this;simp only [List.length_cons, WQ] at this ⊢;omega
  have h1 := hb.long;rw [hx] at h1;rcases List.mem_cons.1 hy with rfl | hy
  ·have := h1 x (by simp)
   simp only [List.length_append, List.length_cons, List.length_nil];omega
  exact hbl r (fun z hz => h1 z (by simp [hz])) y hy
 obtain ⟨k, hk⟩ := Jg (show i < d.keys.length by have := (List.getElem?_eq_some_iff.1 ht).1; omega);have hkz := JaV (Wl h hk);rw [<- Jhf] at hkz;by_cases hlf : t.kids = []
 ·rw [JdQ h6 ht hk hlf]
  refine ⟨⟨_, _, rfl⟩, ?_, fun y hy => ?_⟩
  ·have := hb.many
   rw [hx] at this;simp only [List.length_cons, List.length_nil] at this ⊢;omega
  rcases List.mem_singleton.1 hy with rfl
  have := hb.leaf hlf x (by rw [hx]; simp);rw [hx];simp only [List.length_append, List.length_cons, List.length_nil, List.headD_cons];omega
 rw [JbE h6 ht hk hlf];refine ⟨⟨_, _, rfl⟩, ?_, fun y hy => ?_⟩
 ·have := hb.more hlf
  simp only [List.length_cons, WQ];omega
 rcases List.mem_cons.1 hy with rfl | hy
 ·simp only [List.length_append, List.length_cons, List.length_nil]
  omega
 exact hbl _ hb.long y hy
theorem Xs {g : Nat -> List (List UInt8)} {f : TreeD -> Nat} {l : List TreeD} {m : Nat} : ∀ k, k <= l.length -> (∀ i t, i < k -> l[i]? = some t -> (g i).length <= f t /\ ∀ x ∈ g i, x.length <= m) -> (Qj g k).length <= QZ f (l.take k) /\ ∀ x ∈ Qj g k, x.length <= m
 | 0, _, _ => ⟨Nat.zero_le _, fun x hx => by cases hx⟩
 | k + 1, hk, h => by
  obtain ⟨h1, h2⟩ := Xs k (by omega) (fun i t hi => h i t (by omega));obtain ⟨t, ht⟩ := Jg (show k < l.length by omega);obtain ⟨h3, h4⟩ := h k t (Nat.lt_succ_self k) ht;refine ⟨?_, fun x hx => ?_⟩
  ·rw [Qj, List.length_append, Ql f l k t ht]
   omega
  rw [Qj] at hx;rcases List.mem_append.1 hx with hx | hx
  ·exact h2 x hx
  exact h4 x hx
theorem JfF {g : Nat -> List (List UInt8)} {x : List UInt8} {r : List (List UInt8)} (h : g 0 = x :: r) : ∀ k, ∃ y q, Qj g (k + 1) = y :: q
 | 0 => ⟨x, r, by rw [Qj, Qj, h]; rfl⟩
 | k + 1 => by
  obtain ⟨y, q, e⟩ := JfF h k;exact ⟨y, q ++ g (k + 1), by rw [Qj, e]; rfl⟩
theorem Jak : ∀ (n : Nat) (d : TreeD), Ju n d = true -> ZS n d -> LinB n d
 | 0, _, h, _ => by cases h
 | n + 1, d, h, hn => by
  by_cases hk : d.kids = []
  ·have hs := Jky h hn
   rw [<- Jhf] at hs;refine ⟨⟨_, _, VD hk⟩, ?_, fun e => absurd hk e, fun x hx => ?_, fun _ x hx => ?_⟩
   ·rw [VD hk, JJ]
    simp only [List.length_cons, List.length_nil];omega
   ·rw [VD hk] at hx
    rcases List.mem_singleton.1 hx with rfl
    omega
   rw [VD hk] at hx;rcases List.mem_singleton.1 hx with rfl
   exact hs
  have hall : ∀ i t, d.kids[i]? = some t -> (∃ x r, J2 (Jt n) d i = x :: r) /\ (J2 (Jt n) d i).length <= Jl n t /\ ∀ x ∈ J2 (Jt n) d i, x.length <= 4806 + 2 * Jw (n + 1) d := fun i t ht =>
   Jei h ht (Jak n t (J6 h ht) (hn.2 t (List.mem_of_getElem? ht)))
  have hpos : 0 < d.kids.length := List.length_pos_iff.2 hk;obtain ⟨h1, h2⟩ := Xs (g := J2 (Jt n) d) (f := Jl n) (l := d.kids) (m := 4806 + 2 * Jw (n + 1) d) d.kids.length (Nat.le_refl _) (fun i t _ ht => (hall i t ht).2);rw [List.take_of_length_le (Nat.le_refl _)] at h1
  have hm : (Jt (n + 1) d).length + 1 <= Jl (n + 1) d := by
   rw [Yq hk, JJ];omega
  refine ⟨?_, by omega, fun _ => hm, fun x hx => ?_, fun e => absurd e hk⟩
  ·obtain ⟨q, hq⟩ : ∃ q, d.kids.length = q + 1 := ⟨d.kids.length - 1, by omega⟩
   obtain ⟨t, ht⟩ := Jg hpos;obtain ⟨x, r, hx⟩ := (hall 0 t ht).1;rw [Yq hk, hq];exact JfF hx q
  rw [Yq hk] at hx;exact h2 x hx
theorem Jbl (g : Nat -> List (List UInt8)) (k : Nat) : Qj g (k + 1) = Qj g k ++ g k := rfl
def Q5 (L : List (List UInt8)) : List ByteArray := L.map bs
theorem ZC (a b : List (List UInt8)) : Q5 (a ++ b) = Q5 a ++ Q5 b := List.map_append
theorem ZM (L : List (List UInt8)) : (Q5 L).length = L.length := List.length_map _
theorem Zv (a b : List UInt8) : bs (a ++ b) = bs a ++ bs b := by
 unfold bs;apply ByteArray.ext;simp
theorem Z5 (s : ByteArray) : bs s.data.toList = s := by unfold bs; simp
def RowS (base : Nat) (w : World) (L : List ByteArray) (n : Nat) (v : Value) : Prop := n = L.length /\ w.ownsRow base 9 1 v n (L.map Value.string)
theorem RowS.carry {base n : Nat} {w w' : World} {L : List ByteArray} {v : Value} (h : RowS base w L n v) (hb : ∀ q, v.ownBlock = some q -> w'.heap[q]? = w.heap[q]?) : RowS base w' L n v := ⟨h.1, Jh h.2 hb⟩
theorem RowS.lt {base n : Nat} {w : World} {L : List ByteArray} {v : Value} (h : RowS base w L n v) {q : Nat} (hq : v.ownBlock = some q) : base <= q /\ q < w.heap.size := World.ownsRow.lt h.2 q hq
theorem RowS.below {base n : Nat} {w w' : World} {L : List ByteArray} {v : Value} (h : RowS base w L n v) (hb : Below w.heap.size w w') : RowS base w' L n v := h.carry (fun q hq => hb.block q (h.lt hq).2)
theorem RowS.less {base base' n : Nat} {w : World} {L : List ByteArray} {v : Value} (h : RowS base w L n v) (hb : base' <= base) : RowS base' w L n v := ⟨h.1, VP h.2 hb⟩
theorem RowS.empty {w : World} {base B : Nat} (hB : B = w.heap.size) (hb : base <= w.heap.size) : RowS base (w.alloc (.cells #[] 9)) [] 0 (.slice (some ⟨B, 0, none⟩) 0 0) := ⟨rfl, JV hB hb⟩
theorem RowS.open {base n c : Nat} {A : Option Addr} {w : World} {L : List ByteArray} (h : RowS base w L n (.slice A n c)) (hp : 0 < n) : ∃ q, A = some ⟨q, 0, none⟩ /\ base <= q /\ q < w.heap.size /\ n <= c /\ ∀ i s, L[i]? = some s -> w.cell? ⟨q, i, none⟩ = some (.string s) := by
 obtain ⟨rfl, h2⟩ := h;rcases h2.2 with ⟨h0, h1⟩ | ⟨g, cap, cur, h0, hb, hg, hn, hcm, hcs, ht⟩
 ·omega
 cases h0
 refine ⟨g, rfl, hb, Ja hg, hn, fun i s hi => ?_⟩;have hil := (List.getElem?_eq_some_iff.1 hi).1;have : (cur.toList.take (L.length * 1))[i]? = (L.map Value.string)[i]? := by rw [ht]
 rw [List.getElem?_take, if_pos (by omega), Array.getElem?_toList, List.getElem?_map, hi] at this;rw [cell_of_row w g _ cur _ _ hg]
 simpa using this
theorem JeW (w : World) (s : ByteArray) : (w.alloc (.cells #[.string s] 9)).ownsRow w.heap.size 9 1 (.slice (some ⟨w.heap.size, 0, none⟩) 1 1) 1 [.string s] :=
 ⟨rfl, .inr ⟨w.heap.size, 1, #[.string s], rfl, Nat.le_refl _, heap_alloc_new w _, Nat.le_refl _, by unfold maxLen; omega, rfl, rfl⟩⟩
theorem RowS.one (w : World) (s : ByteArray) (base : Nat) (hb : base <= w.heap.size) : RowS base (w.alloc (.cells #[.string s] 9)) [s] 1 (.slice (some ⟨w.heap.size, 0, none⟩) 1 1) := ⟨rfl, VP (JeW w s) hb⟩
theorem YQ (wx : World) (base n c : Nat) (A : Option Addr) (L : List ByteArray) (s : ByteArray) (h : RowS base wx L n (.slice A n c)) (hsz : n <= 1048576) (hbase : base <= wx.heap.size) :
  ∃ (A' : Option Addr) (c' : Nat) (w' : World), (Builtin.append_ #[31, 31] 31 #[.slice A n c, .slice (some ⟨wx.heap.size, 0, none⟩) 1 1]).run Tryz.prog (wx.alloc (.cells #[.string s] 9)) = .ok (.slice A' (n + 1) c') w' /\ RowS base w' (L ++ [s]) (n + 1) (.slice A' (n + 1) c') /\ Grb wx (.slice A n c) w' (.slice A' (n + 1) c') := by
 obtain ⟨i0, hi, hz0, hz1, hz2⟩ := info_parts (show (Tryz.prog.info? 9).map (fun i => (i.zero, i.size, i.bytes)) = some (some (.string ⟨#[]⟩), 1, 16) from by kernel_rfl);obtain ⟨hn, h⟩ := h;have hb : Below wx.heap.size wx (wx.alloc (.cells #[.string s] 9)) := Jj;have h' := Jh h (fun q hq => hb.block q (World.ownsRow.lt h q hq).2);obtain ⟨v', w', hr, h2, h3, h5⟩ := Vl (P := Tryz.prog) (wx.alloc (.cells #[.string s] 9)) 31 31 base 9 i0 (.string ⟨#[]⟩) 1 16 Tryz.underlying31 hi hz0 hz1 hz2 rfl (by decide) (.slice A n c) n _ h' wx.heap.size 1 _ _ (JeW wx s) (fun u hu => by rcases List.mem_singleton.1 hu with rfl; rfl) (by unfold maxLen; omega) (by omega) (by simp; omega)
 obtain ⟨A', c', rfl⟩ := JP h2;exact ⟨A', c', w', hr, ⟨by rw [List.length_append, <- hn]; rfl, by rw [List.map_append]; exact h2⟩, (Grb.of _ hb).trans (Grb.of_at h3 h5)⟩
theorem JlU (n : Nat) (d : TreeD) (cs : List Value) (w w0 : World) (lo base nn c : Nat) (A : Option Addr) (M : List UInt8) (h : C_Tree (n + 1) lo base w d cs) (hsh : Ju (n + 1) d = true) (hk3 : d.kind <= 3) (hbw : base <= w.heap.size) (hsz : nn + 5000 * Jl (n + 1) d <= 1073741824) (hbuf : BufN base w M nn (.slice A nn c)) (hTab : Tabs w0) (hPow : Pow w0) (hw0 : w0.heap.size <= base) (hb00 : Below w0.heap.size w0 w) :
  Calls Tryz.prog 86 #[.slice A nn c, .agg cs.toArray] w fun e w' => ∃ (A' : Option Addr) (c' : Nat), e = .returned (.slice A' (nn + (VK (n + 1) d).length) c') /\ BufN base w' (M ++ VK (n + 1) d) (nn + (VK (n + 1) d).length) (.slice A' (nn + (VK (n + 1) d).length) c') /\ Grb w (.slice A nn c) w' (.slice A' (nn + (VK (n + 1) d).length) c') := by
 have hlen := JhH (n + 1) d hsh (Uh h);have hS := V4 n d;have HSh := hid hsh;have HNum := hid (Uh h);obtain ⟨v4, v5, rfl, a0, a2, a3, a4, a5⟩ := C_Tree.out h;obtain ⟨A4, c4, rfl, hlk, hck, hK⟩ := a4;obtain ⟨A5, c5, rfl, hlc, hcc, hA⟩ := a5;have hsk : ∀ k t, d.kids[k]? = some t -> QZ (Jl n) (d.kids.take k) + Jl n t + 1 <= Jl (n + 1) d := fun k t ht => VL ht
 have HSk := hid hsk;have hbd : Va d = false := (JZ hsh).1;have hls : JQ d = true := (JZ hsh).2.2.1;have HTP := hid (And.intro hTab hPow);have HB00 := hid hb00;clear h hTab hPow hsk hsh hb00;obtain ⟨S, hSz⟩ : ∃ S, S = Jl (n + 1) d := ⟨_, rfl⟩
 rw [<- hSz] at hlen hsz HSk;obtain ⟨r, hr⟩ : ∃ r, r = VK (n + 1) d := ⟨_, rfl⟩
 rw [<- hr] at hlen hS ⊢;have HS := hid hS;have HSz := hid (show S = 1 + QZ (Jl n) d.kids from hSz);clear hr hS hSz;obtain ⟨dk, df, dn, dt, dks, dkd⟩ := d;simp only at a0 a2 a3 hlk hK hlc hA HS HSk HSz hbd hls hk3 ⊢;unfold Va at hbd;unfold JQ at hls;simp only [Bool.or_eq_false_iff, Bool.not_eq_false', Bool.and_eq_false_iff] at hbd;have hin : Q6 dk 1 6 = true := hbd.1.1.1.1.1;have hk6 : 1 <= dk /\ dk <= 6 := by unfold Q6 at hin; exact of_decide_eq_true hin
 obtain ⟨W0, hW0⟩ : ∃ W, W = w.alloc (.cells #[.int .i64 dk, .bool df, .int .i64 dn, .string dt, .slice A4 dks.length c4, .slice A5 dkd.length c5] 34) := ⟨_, rfl⟩
 have hB0 : Below w.heap.size w W0 := by rw [hW0]; exact Jj
 have HR0 := hid (show W0.heap[w.heap.size]? = some (.cells #[.int .i64 dk, .bool df, .int .i64 dn, .string dt, .slice A4 dks.length c4, .slice A5 dkd.length c5] 34 (0, 0)) by rw [hW0]; exact Je rfl);have HW0 := hid hW0;have hbuf0 := hbuf.below hB0;have hbW0 : base <= W0.heap.size := Nat.le_trans hbw hB0.size;have hG0 := hid (Grb.of (.slice A nn c) hB0);have HBf0 := hid hbuf0;have HbW := hid (HB00.out.trans (hB0.mono (Nat.le_trans hw0 hbw)))
 have Hbd := hid hbd;clear hW0 hin hbd;obtain ⟨x0, x1, x2, x3, x4, x5, xf⟩ := Jf HR0.out;have l0 := Ja HR0.out;by_cases k1 : dk = 1
 ·subst k1
  have HX := hid (show r = JfS from HS.out);obtain ⟨A6, c6, w5, hr5, h5, g5⟩ := UG W0 base nn c A M ⟨#[110, 117, 108, 108]⟩ hbuf0 (by show nn + 4 <= _; omega) hbW0;have H5 := hid (And.intro h5 (hG0.out.trans g5));clear h5 g5 hK hA;go_enter Tryz.func86, Tryz.ntmps86
  go_upto_region 1 with fail
  rw [<- HW0.out];go_wp2_with (at_builtin; refine Q1 rfl (.tmp 13) (.const (.string ⟨#[110, 117, 108, 108]⟩)) 28 9 rfl _ _ _ w5 rfl rfl hr5 ?_)
  go_ret
  rw [HX.out];exact ⟨A6, c6, rfl, H5.out.1, H5.out.2⟩
 by_cases k2 : dk = 2
 ·subst k2
  have HX := hid (show r = Uq df from HS.out);clear hK hA;go_enter Tryz.func86, Tryz.ntmps86
  go_upto_region 1 with fail
  rw [<- HW0.out];go_wp2_with fail
  refine (Jej df W0 base nn c A M HBf0.out (by omega) hbW0).mono ?_;rintro e w5 ⟨A6, c6, rfl, h5, g5⟩;have H5 := hid (And.intro h5 (hG0.out.trans g5));clear h5 g5;go_wp2_with fail
  go_ret
  rw [HX.out];exact ⟨A6, c6, rfl, H5.out.1, H5.out.2⟩
 by_cases k3 : dk = 3
 ·subst k3
  have HX := hid (show r = (Qv dn).data.toList from HS.out);have hds := ZL dn a2;clear hK hA;go_enter Tryz.func86, Tryz.ntmps86
  go_upto_region 1 with fail
  rw [<- HW0.out];go_wp2_with fail
  refine (Ja6 dn W0 a2 (HTP.out.2.below HbW.out)).mono ?_;rintro e w4 ⟨rfl, hb4⟩;obtain ⟨A6, c6, w5, hr5, h5, g5⟩ := UG w4 base nn c A M (Qv dn) (HBf0.out.below hb4) (by omega) (Nat.le_trans hbW0 hb4.size);have H5 := hid (And.intro h5 ((hG0.out.trans (Grb.of _ hb4)).trans g5));clear h5 g5 hb4;go_wp2_with (at_builtin; refine Q1 rfl (.tmp 23) (.tmp 26) 28 9 rfl _ _ _ w5 rfl rfl hr5 ?_)
  go_ret
  rw [HX.out, show (Qv dn).data.toList.length = (Qv dn).size from Array.length_toList];exact ⟨A6, c6, rfl, H5.out.1, H5.out.2⟩
 exact absurd hk6 (by omega)
theorem JhQ {n : Nat} {d : TreeD} (h : Ju (n + 1) d = true) (hk : d.kids = []) : Uu (n + 1) d = true := by
 have h1 : Jw (n + 1) d = 1 := by rw [QF, hk]; rfl
 have h2 : Jl (n + 1) d = 1 := by rw [JJ, hk]; rfl
 rw [XG, h1, h2, h];rfl
theorem JkB {d : TreeD} (h : d.kind = 4) : Jx d = Js d.text := if_pos h
theorem JjB {d : TreeD} (h : d.kind = 5) : Jx d = bs [91, 93] := by unfold Jx; rw [if_neg (by omega), if_pos h]
theorem Jj9 {d : TreeD} (h : d.kind = 6) : Jx d = bs [123, 125] := by unfold Jx; rw [if_neg (by omega), if_neg (by omega), if_pos h]
theorem JjR {d : TreeD} (h : d.kind = 1) : Jx d = bs JfS := by unfold Jx; rw [if_neg (by omega), if_neg (by omega), if_neg (by omega), if_pos h]
theorem Jj5 {d : TreeD} (h : d.kind = 2) : Jx d = if d.flag then bs JeF else bs JfQ := by unfold Jx; rw [if_neg (by omega), if_neg (by omega), if_neg (by omega), if_neg (by omega), if_pos h]
theorem Jjf {d : TreeD} (h : d.kind = 3) : Jx d = Qv d.num := by unfold Jx; rw [if_neg (by omega), if_neg (by omega), if_neg (by omega), if_neg (by omega), if_neg (by omega)]
theorem JjE {n : Nat} {d : TreeD} (h : 1 <= d.kind /\ d.kind <= 3) : Jx d = bs (VK (n + 1) d) := by
 rw [V4];by_cases c1 : d.kind = 1
 ·rw [if_pos c1, JjR c1]
 by_cases c2 : d.kind = 2
 ·rw [if_neg c1, if_pos c2, Jj5 c2]
  split <;> rfl
 ·rw [if_neg c1, if_neg c2, if_pos (by omega), Jjf (by omega), Z5]
theorem Jhz {n : Nat} {d : TreeD} (h : Ju (n + 1) d = true) : 1 <= d.kind /\ d.kind <= 6 := by
 have hb := (JZ h).1;unfold Va at hb;simp only [Bool.or_eq_false_iff, Bool.not_eq_false', Bool.and_eq_false_iff] at hb;obtain ⟨⟨⟨⟨⟨h1, -⟩, -⟩, -⟩, -⟩, -⟩ := hb;unfold Q6 at h1;exact of_decide_eq_true h1
theorem U6 (s : ByteArray) (w : World) (hs : s.size <= 1048576) (hT : Tabs w) :
  Calls Tryz.prog 157 #[.string s] w fun e w' => e = .returned (.string (Js s)) /\ Below w.heap.size w w' := by
 have HP := hid (YV s w hs hT);have HQ := hid (fun (W : World) (h : Below w.heap.size w W) => JcC s W hs (hT.below h));obtain ⟨r, hr⟩ : ∃ r, r = Js s := ⟨_, rfl⟩
 rw [<- hr];have HR := hid hr;clear hT hr;rcases hp : Qa s with _ | _
 focus
  have HF := hid (show r = JN s by rw [HR.out]; unfold Js; rw [hp]; rfl);rw [hp] at HP;clear hp;go_enter Tryz.func157, Tryz.ntmps157
  go_wp2_with fail
  refine HP.out.mono ?_;rintro e w1 ⟨rfl, hb1⟩;go_wp2_with fail
  refine (HQ.out w1 hb1).mono ?_;rintro e w2 ⟨rfl, hb2⟩;have HB := hid (hb1.trans (hb2.mono hb1.size))
 rotate_left
 focus
  have HF := hid (show r = s by rw [HR.out]; unfold Js; rw [hp]; rfl);rw [hp] at HP;clear hp;go_enter Tryz.func157, Tryz.ntmps157
  go_wp2_with fail
  refine HP.out.mono ?_;rintro e w1 ⟨rfl, hb1⟩;have HB := hid hb1
 rotate_left
 all_goals
  go_wp2_with fail
  go_ret
  exact ⟨by rw [HF.out]; rfl, HB.out⟩
theorem UY (s : ByteArray) (w : World) (hs : s.size <= 1048576) :
  Calls Tryz.prog 159 #[.string s] w fun e w' => e = .returned (.string (Js s)) /\ Below w.heap.size w w' := by
 have HP := hid (Y2 s w hs);have HQ := hid (fun (W : World) => Jcr s W hs);obtain ⟨r, hr⟩ : ∃ r, r = Js s := ⟨_, rfl⟩
 rw [<- hr];have HR := hid hr;clear hr;rcases hp : Qa s with _ | _
 focus
  have HF := hid (show r = JN s by rw [HR.out]; unfold Js; rw [hp]; rfl);rw [hp] at HP;clear hp;go_enter Tryz.func159, Tryz.ntmps159
  go_wp2_with fail
  refine HP.out.mono ?_;rintro e w1 ⟨rfl, hb1⟩;go_wp2_with fail
  refine (HQ.out w1).mono ?_;rintro e w2 ⟨rfl, hb2⟩;have HB := hid (hb1.trans (hb2.mono hb1.size))
 rotate_left
 focus
  have HF := hid (show r = s by rw [HR.out]; unfold Js; rw [hp]; rfl);rw [hp] at HP;clear hp;go_enter Tryz.func159, Tryz.ntmps159
  go_wp2_with fail
  refine HP.out.mono ?_;rintro e w1 ⟨rfl, hb1⟩;have HB := hid hb1
 rotate_left
 all_goals
  go_wp2_with fail
  go_ret
  exact ⟨by rw [HF.out]; rfl, HB.out⟩
theorem XH (n : Nat) (d : TreeD) (cs : List Value) (w : World) (lo : Nat) (h : C_Tree (n + 1) lo w.heap.size w d cs) (hk : d.kids = []) (hsh : Ju (n + 1) d = true) (hT : Tabs w) (hP : Pow w) :
  Calls Tryz.prog 156 #[.agg cs.toArray] w fun e w' => e = .returned (.tuple #[.string (Jx d), .bool true]) /\ Below w.heap.size w w' := by
 have hz1 : Jl (n + 1) d = 1 := by rw [JJ, hk]; rfl
 have HK := hid (fun (W : World) (hb : Below w.heap.size w W) => JhQ hsh hk ▸ Ww (n + 1) d cs W lo (h.now hb) (by omega) (hT.below hb));have HS := hid (fun (hk3 : d.kind <= 3) (W : World) (hb : Below w.heap.size w W) => JlU n d cs W w lo w.heap.size 0 0 none [] (h.old hb) hsh hk3 hb.size (by omega) (Jfp _ _) hT hP (Nat.le_refl _) hb);have HKT := hid (fun (W : World) (hb : Below w.heap.size w W) => U6 d.text W (by have := Jaf (JZ hsh).2.1; omega) (hT.below hb))
 have hk6 := Jhz hsh;obtain ⟨r, hr⟩ : ∃ r, r = Jx d := ⟨_, rfl⟩
 rw [<- hr];obtain ⟨y, hy⟩ : ∃ y, y = VK (n + 1) d := ⟨_, rfl⟩
 rw [<- hy] at HS;have HR := hid hr;have HY := hid hy;obtain ⟨A4, c4, A5, c5, rfl⟩ := C_Tree.open h;clear h hsh hT hP hz1 hr hy;obtain ⟨dk, df, dn, dt, dks, dkd⟩ := d;simp only at hk hk6 HK HS HKT HR HY ⊢;subst hk;simp only [List.length_nil] at HK HS ⊢;simp only [Nat.zero_add, List.nil_append] at HS;by_cases k4 : dk = 4
 ·have d4 : (dk == 4) = true := beq_iff_eq.2 k4
  have HF := hid (show r = Js dt from HR.out.trans (JkB k4));clear k4;go_enter Tryz.func156, Tryz.ntmps156
  go_upto_region 3 with (go_at_call 81; refine (HK.out _ Jj).mono ?_; rintro e w1 ⟨rfl, hb⟩; (first | (have hcu2 := Cum.join hcu hb; (try clear hcu); (try clear hc); (try clear hfz); (try clear hsz); (try clear hs0); (try clear hs1); (try clear hs2); (try clear hs3); (try clear hs4); ) | have hcu2 := Cum.mk hb); have hcu := hcu2; clear hcu2; obtain ⟨hc, hfz⟩ := JE hcu.h; have hsz := hcu.h.size; (try simp at hsz); (try have hs0 := Jd hsz); (try (have hs1 := Jc hsz; (try (have hs2 := Jc hs1; (try (have hs3 := Jc hs2; (try have hs4 := Jc hs3))))))))
  go_wp2_with fail
  refine (HKT.out _ Jj).mono ?_;rintro e w9 ⟨rfl, hb9⟩;go_wp2_with fail
  exact bodyPost_ret (v := .tuple #[.string (Js dt), .bool true]) (by simp only [results, Tryz.results156]; go_simp) rfl ⟨by rw [HF.out], Jj⟩
 have d4 : (dk == 4) = false := JmH k4;by_cases k5 : dk = 5
 ·have d5 : (dk == 5) = true := beq_iff_eq.2 k5
  have HF := hid (show r = bs [91, 93] from HR.out.trans (JjB k5));clear k4 k5;go_enter Tryz.func156, Tryz.ntmps156
  go_upto_region 3 with (go_at_call 81; refine (HK.out _ Jj).mono ?_; rintro e w1 ⟨rfl, hb⟩; (first | (have hcu2 := Cum.join hcu hb; (try clear hcu); (try clear hc); (try clear hfz); (try clear hsz); (try clear hs0); (try clear hs1); (try clear hs2); (try clear hs3); (try clear hs4); ) | have hcu2 := Cum.mk hb); have hcu := hcu2; clear hcu2; obtain ⟨hc, hfz⟩ := JE hcu.h; have hsz := hcu.h.size; (try simp at hsz); (try have hs0 := Jd hsz); (try (have hs1 := Jc hsz; (try (have hs2 := Jc hs1; (try (have hs3 := Jc hs2; (try have hs4 := Jc hs3))))))))
  go_wp2_with fail
  exact bodyPost_ret (v := .tuple #[.string ⟨#[91, 93]⟩, .bool true]) (by simp only [results, Tryz.results156]; go_simp) rfl ⟨by rw [HF.out]; rfl, Jj⟩
 have d5 : (dk == 5) = false := JmH k5;by_cases k6 : dk = 6
 ·have d6 : (dk == 6) = true := beq_iff_eq.2 k6
  have HF := hid (show r = bs [123, 125] from HR.out.trans (Jj9 k6));clear k4 k5 k6;go_enter Tryz.func156, Tryz.ntmps156
  go_upto_region 3 with (go_at_call 81; refine (HK.out _ Jj).mono ?_; rintro e w1 ⟨rfl, hb⟩; (first | (have hcu2 := Cum.join hcu hb; (try clear hcu); (try clear hc); (try clear hfz); (try clear hsz); (try clear hs0); (try clear hs1); (try clear hs2); (try clear hs3); (try clear hs4); ) | have hcu2 := Cum.mk hb); have hcu := hcu2; clear hcu2; obtain ⟨hc, hfz⟩ := JE hcu.h; have hsz := hcu.h.size; (try simp at hsz); (try have hs0 := Jd hsz); (try (have hs1 := Jc hsz; (try (have hs2 := Jc hs1; (try (have hs3 := Jc hs2; (try have hs4 := Jc hs3))))))))
  go_wp2_with fail
  exact bodyPost_ret (v := .tuple #[.string ⟨#[123, 125]⟩, .bool true]) (by simp only [results, Tryz.results156]; go_simp) rfl ⟨by rw [HF.out]; rfl, Jj⟩
 have d6 : (dk == 6) = false := JmH k6;have hk3 : dk <= 3 := by omega
 have HF := hid (show r = ⟨y.toArray⟩ by rw [HR.out, HY.out]; exact JjE (d := ⟨dk, df, dn, dt, dks, []⟩) ⟨hk6.1, by show dk <= 3; omega⟩);obtain ⟨m, hm⟩ : ∃ m, m = y.length := ⟨_, rfl⟩
 rw [<- hm] at HS;have HM := hid hm;have hsz : (⟨y.toArray⟩ : ByteArray).size = m := by rw [hm]; show y.toArray.size = y.length; simp
 clear k4 k5 k6 hm;go_enter Tryz.func156, Tryz.ntmps156
 go_upto_region 3 with (go_at_call 81; refine (HK.out _ Jj).mono ?_; rintro e w1 ⟨rfl, hb⟩; (first | (have hcu2 := Cum.join hcu hb; (try clear hcu); (try clear hc); (try clear hfz); (try clear hsz); (try clear hs0); (try clear hs1); (try clear hs2); (try clear hs3); (try clear hs4); ) | have hcu2 := Cum.mk hb); have hcu := hcu2; clear hcu2; obtain ⟨hc, hfz⟩ := JE hcu.h; have hsz := hcu.h.size; (try simp at hsz); (try have hs0 := Jd hsz); (try (have hs1 := Jc hsz; (try (have hs2 := Jc hs1; (try (have hs3 := Jc hs2; (try have hs4 := Jc hs3))))))))
 go_wp2_with fail
 refine (HS.out hk3 _ Jj).mono ?_;rintro e w9 ⟨A9, c9, rfl, h9, g9⟩;have hcv := V7 HM.out (show w9.ownsRow w.heap.size 5 1 (.slice A9 m c9) m (Lib.strCells ⟨y.toArray⟩) from h9.2);have hb8 := g9.below (Jfp w.heap.size _).2 (show Below w.heap.size w _ from Jj).size;have hb9 : Below w.heap.size w w9 := Below.trans (show Below w.heap.size w _ from Jj) hb8;clear h9 g9 hb8;go_wp2_with fail
 exact bodyPost_ret (v := .tuple #[.string ⟨y.toArray⟩, .bool true]) (by simp only [results, Tryz.results156]; go_simp) rfl ⟨by rw [HF.out], hb9⟩
theorem Xj (n : Nat) (d : TreeD) (cs : List Value) (w : World) (lo : Nat) (h : C_Tree (n + 1) lo w.heap.size w d cs) (hk : d.kids = []) (hsh : Ju (n + 1) d = true) :
  Calls Tryz.prog 158 #[.agg cs.toArray] w fun e w' => e = .returned (.tuple #[.string (Jx d), .bool true]) /\ Below w.heap.size w w' := by
 have hz1 : Jl (n + 1) d = 1 := by rw [JJ, hk]; rfl
 have HK := hid (fun (W : World) (hb : Below w.heap.size w W) => JhQ hsh hk ▸ Vd (n + 1) d cs W lo (h.now hb) (by omega));have HKT := hid (fun (W : World) => UY d.text W (by have := Jaf (JZ hsh).2.1; omega));have hk6 := Jhz hsh;have hnum : QA d.num := (Uh h).1;obtain ⟨r, hr⟩ : ∃ r, r = Jx d := ⟨_, rfl⟩
 rw [<- hr];have HR := hid hr;obtain ⟨A4, c4, A5, c5, rfl⟩ := C_Tree.open h;clear h hsh hz1 hr;obtain ⟨dk, df, dn, dt, dks, dkd⟩ := d;simp only at hk hk6 HK HKT HR hnum ⊢;subst hk;simp only [List.length_nil] at HK ⊢;by_cases k1 : dk = 1
 ·have HF := hid (show r = bs JfS from HR.out.trans (JjR k1))
  subst k1;go_enter Tryz.func158, Tryz.ntmps158
  go_upto_region 3 with (go_at_call 22; refine (HK.out _ Jj).mono ?_; rintro e w1 ⟨rfl, hb⟩; (first | (have hcu2 := Cum.join hcu hb; (try clear hcu); (try clear hc); (try clear hfz); (try clear hsz); (try clear hs0); (try clear hs1); (try clear hs2); (try clear hs3); (try clear hs4); ) | have hcu2 := Cum.mk hb); have hcu := hcu2; clear hcu2; obtain ⟨hc, hfz⟩ := JE hcu.h; have hsz := hcu.h.size; (try simp at hsz); (try have hs0 := Jd hsz); (try (have hs1 := Jc hsz; (try (have hs2 := Jc hs1; (try (have hs3 := Jc hs2; (try have hs4 := Jc hs3))))))))
  go_wp2_with fail
  exact bodyPost_ret (v := .tuple #[.string ⟨#[110, 117, 108, 108]⟩, .bool true]) (by simp only [results, Tryz.results158]; go_simp) rfl ⟨by rw [HF.out]; rfl, Jj⟩
 by_cases k2 : dk = 2
 ·have HF := hid (show r = if df then bs JeF else bs JfQ from HR.out.trans (Jj5 k2))
  subst k2;rcases df with _ | _
  ·go_enter Tryz.func158, Tryz.ntmps158
   go_upto_region 3 with (go_at_call 22; refine (HK.out _ Jj).mono ?_; rintro e w1 ⟨rfl, hb⟩; (first | (have hcu2 := Cum.join hcu hb; (try clear hcu); (try clear hc); (try clear hfz); (try clear hsz); (try clear hs0); (try clear hs1); (try clear hs2); (try clear hs3); (try clear hs4); ) | have hcu2 := Cum.mk hb); have hcu := hcu2; clear hcu2; obtain ⟨hc, hfz⟩ := JE hcu.h; have hsz := hcu.h.size; (try simp at hsz); (try have hs0 := Jd hsz); (try (have hs1 := Jc hsz; (try (have hs2 := Jc hs1; (try (have hs3 := Jc hs2; (try have hs4 := Jc hs3))))))))
   go_wp2_with fail
   exact bodyPost_ret (v := .tuple #[.string ⟨#[102, 97, 108, 115, 101]⟩, .bool true]) (by simp only [results, Tryz.results158]; go_simp) rfl ⟨by rw [HF.out]; rfl, Jj⟩
  go_enter Tryz.func158, Tryz.ntmps158
  go_upto_region 3 with (go_at_call 22; refine (HK.out _ Jj).mono ?_; rintro e w1 ⟨rfl, hb⟩; (first | (have hcu2 := Cum.join hcu hb; (try clear hcu); (try clear hc); (try clear hfz); (try clear hsz); (try clear hs0); (try clear hs1); (try clear hs2); (try clear hs3); (try clear hs4); ) | have hcu2 := Cum.mk hb); have hcu := hcu2; clear hcu2; obtain ⟨hc, hfz⟩ := JE hcu.h; have hsz := hcu.h.size; (try simp at hsz); (try have hs0 := Jd hsz); (try (have hs1 := Jc hsz; (try (have hs2 := Jc hs1; (try (have hs3 := Jc hs2; (try have hs4 := Jc hs3))))))))
  go_wp2_with fail
  exact bodyPost_ret (v := .tuple #[.string ⟨#[116, 114, 117, 101]⟩, .bool true]) (by simp only [results, Tryz.results158]; go_simp) rfl ⟨by rw [HF.out]; rfl, Jj⟩
 by_cases k3 : dk = 3
 ·have HF := hid (show r = Qv dn from HR.out.trans (Jjf k3))
  subst k3;go_enter Tryz.func158, Tryz.ntmps158
  go_upto_region 3 with (go_at_call 22; refine (HK.out _ Jj).mono ?_; rintro e w1 ⟨rfl, hb⟩; (first | (have hcu2 := Cum.join hcu hb; (try clear hcu); (try clear hc); (try clear hfz); (try clear hsz); (try clear hs0); (try clear hs1); (try clear hs2); (try clear hs3); (try clear hs4); ) | have hcu2 := Cum.mk hb); have hcu := hcu2; clear hcu2; obtain ⟨hc, hfz⟩ := JE hcu.h; have hsz := hcu.h.size; (try simp at hsz); (try have hs0 := Jd hsz); (try (have hs1 := Jc hsz; (try (have hs2 := Jc hs1; (try (have hs3 := Jc hs2; (try have hs4 := Jc hs3))))))))
  go_wp2_with fail
  refine (YX dn _ hnum).mono ?_;rintro e w9 ⟨rfl, hb9⟩;go_wp2_with fail
  exact bodyPost_ret (v := .tuple #[.string (Qv dn), .bool true]) (by simp only [results, Tryz.results158]; go_simp) rfl ⟨by rw [HF.out], Jj⟩
 by_cases k4 : dk = 4
 ·have HF := hid (show r = Js dt from HR.out.trans (JkB k4))
  subst k4;go_enter Tryz.func158, Tryz.ntmps158
  go_upto_region 3 with (go_at_call 22; refine (HK.out _ Jj).mono ?_; rintro e w1 ⟨rfl, hb⟩; (first | (have hcu2 := Cum.join hcu hb; (try clear hcu); (try clear hc); (try clear hfz); (try clear hsz); (try clear hs0); (try clear hs1); (try clear hs2); (try clear hs3); (try clear hs4); ) | have hcu2 := Cum.mk hb); have hcu := hcu2; clear hcu2; obtain ⟨hc, hfz⟩ := JE hcu.h; have hsz := hcu.h.size; (try simp at hsz); (try have hs0 := Jd hsz); (try (have hs1 := Jc hsz; (try (have hs2 := Jc hs1; (try (have hs3 := Jc hs2; (try have hs4 := Jc hs3))))))))
  go_wp2_with fail
  refine (HKT.out _).mono ?_;rintro e w9 ⟨rfl, hb9⟩;go_wp2_with fail
  exact bodyPost_ret (v := .tuple #[.string (Js dt), .bool true]) (by simp only [results, Tryz.results158]; go_simp) rfl ⟨by rw [HF.out], Jj⟩
 by_cases k5 : dk = 5
 ·have HF := hid (show r = bs [91, 93] from HR.out.trans (JjB k5))
  subst k5;go_enter Tryz.func158, Tryz.ntmps158
  go_upto_region 3 with (go_at_call 22; refine (HK.out _ Jj).mono ?_; rintro e w1 ⟨rfl, hb⟩; (first | (have hcu2 := Cum.join hcu hb; (try clear hcu); (try clear hc); (try clear hfz); (try clear hsz); (try clear hs0); (try clear hs1); (try clear hs2); (try clear hs3); (try clear hs4); ) | have hcu2 := Cum.mk hb); have hcu := hcu2; clear hcu2; obtain ⟨hc, hfz⟩ := JE hcu.h; have hsz := hcu.h.size; (try simp at hsz); (try have hs0 := Jd hsz); (try (have hs1 := Jc hsz; (try (have hs2 := Jc hs1; (try (have hs3 := Jc hs2; (try have hs4 := Jc hs3))))))))
  go_wp2_with fail
  exact bodyPost_ret (v := .tuple #[.string ⟨#[91, 93]⟩, .bool true]) (by simp only [results, Tryz.results158]; go_simp) rfl ⟨by rw [HF.out]; rfl, Jj⟩
 obtain rfl : dk = 6 := by omega
 have HF := hid (show r = bs [123, 125] from HR.out.trans (Jj9 rfl));go_enter Tryz.func158, Tryz.ntmps158
 go_upto_region 3 with (go_at_call 22; refine (HK.out _ Jj).mono ?_; rintro e w1 ⟨rfl, hb⟩; (first | (have hcu2 := Cum.join hcu hb; (try clear hcu); (try clear hc); (try clear hfz); (try clear hsz); (try clear hs0); (try clear hs1); (try clear hs2); (try clear hs3); (try clear hs4); ) | have hcu2 := Cum.mk hb); have hcu := hcu2; clear hcu2; obtain ⟨hc, hfz⟩ := JE hcu.h; have hsz := hcu.h.size; (try simp at hsz); (try have hs0 := Jd hsz); (try (have hs1 := Jc hsz; (try (have hs2 := Jc hs1; (try (have hs3 := Jc hs2; (try have hs4 := Jc hs3))))))))
 go_wp2_with fail
 exact bodyPost_ret (v := .tuple #[.string ⟨#[123, 125]⟩, .bool true]) (by simp only [results, Tryz.results158]; go_simp) rfl ⟨by rw [HF.out]; rfl, Jj⟩
end Go.Proofs.YtohcpifekcehjaaGreatDoor
