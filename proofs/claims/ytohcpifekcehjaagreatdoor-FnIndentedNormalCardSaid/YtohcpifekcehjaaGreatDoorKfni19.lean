/- Steps to FnIndentedNormal. No conditions. -/
import Derived.Test.YtohcpifekcehjaaGreatDoorKfni5
import Derived.Test.YtohcpifekcehjaaGreatDoorKfni8
import Derived.Test.YtohcpifekcehjaaGreatDoorKfni7
import Derived.Test.YtohcpifekcehjaaGreatDoorKfni9
import Derived.Test.YtohcpifekcehjaaGreatDoorKfni11
import Derived.Test.YtohcpifekcehjaaGreatDoorKfni10
import Derived.Test.YtohcpifekcehjaaGreatDoorKfni6
import Derived.Test.YtohcpifekcehjaaGreatDoorKfni1
import Derived.Deep.RegionLaw
import Derived.Deep.CutBlock
import Derived.Deep.CutRange
import Derived.Test.YtohcpifekcehjaaGreatDoorKfni4
import Derived.Lib.ConvBytes
set_option maxHeartbeats 16000000
set_option maxRecDepth 20000
namespace Go.Proofs.YtohcpifekcehjaaGreatDoor
open Go.RowKit Go.Lib
theorem toL (l : List UInt8) : (bs l).data.toList = l := by unfold bs; simp
theorem Jd7 (s : ByteArray) : bs s.data.toList = s := by unfold bs; simp
theorem Zl (l : List UInt8) : (bs l).size = l.length := ZT l
theorem Yn (s : ByteArray) : s.data.toList.length = s.size := Array.length_toList
theorem Ja3 {a b : List UInt8} (h : b ≠ []) : (a ++ b).getLast? = b.getLast? := by
 rw [List.getLast?_append];rcases hb : b.getLast? with _ | c
 ·exact absurd (List.getLast?_eq_none_iff.1 hb) h
 rfl
theorem Z0 {l : List UInt8} {i : Nat} {c : UInt8} (h : l[i]? = some c) : i < (bs l).size /\ Jb (bs l) i = (c.toNat : Int) := by
 have := Rd.byte (s := bs l) (j := 0) (JdS l) i h;rw [Nat.zero_add] at this;exact this
theorem VU.drop (x : ByteArray) : ∀ (f i : Nat) (rs : List Nat), x.size - i <= f -> JH x i = some rs -> VU (x.data.toList.drop i) := by
 intro f;induction f with
 | zero =>
  intro i rs hf h;rw [List.drop_of_length_le (by rw [Array.length_toList]; exact (show x.size <= i by omega))];exact VU.nil
 | succ f ih =>
  intro i rs hf h;by_cases hi : i < x.size
  ·by_cases hd : Utf8.decode x i = (65533, 1)
   ·rw [QQ hi hd] at h; cases h
   rw [Qu hi hd] at h;have hdl := Qm x i hi;have hl : x.data.toList.length = x.size := Array.length_toList;have hfit := JT x i hi;rcases hr2 : JH x (i + (Utf8.decode x i).2) with _ | rs'
   ·rw [hr2] at h; cases h
   have hs : x.data.toList.drop i = (x.data.toList.drop i).take (Utf8.decode x i).2 ++ x.data.toList.drop (i + (Utf8.decode x i).2) := by
    rw [<- List.drop_drop, List.take_append_drop]
   have hdv : decodeL (x.data.toList.drop i) ≠ (65533, 1) := by rw [hdl]; exact hd
   have ih' := ih (i + (Utf8.decode x i).2) rs' (by omega) hr2;have hru := VU.rune hdv (by rw [hdl]; exact hfit.2.1) (by rw [hdl, List.length_drop, hl]; omega);rw [hdl] at hru;rw [hs];exact VU.app hru ih'
  rw [List.drop_of_length_le (by rw [Array.length_toList]; exact (show x.size <= i by omega))];exact VU.nil
theorem VU.utf {x : ByteArray} (hx : Qt x = true) : VU x.data.toList := by
 obtain ⟨rs, hrs⟩ := Option.isSome_iff_exists.1 (show (JH x 0).isSome = true from hx);have h := VU.drop x _ 0 rs (Nat.le_refl _) hrs;rw [List.drop_zero] at h;exact h
theorem Uf {l : List UInt8} (h : l.head? ≠ some 32) : trimLeftB l 32 = l := by
 unfold trimLeftB;cases l with
 | nil => rfl
 | cons c l =>
  have hc : (c == 32) = false := JmH (fun e => h (by rw [e]; rfl));rw [List.dropWhile_cons, hc];rfl
theorem Jay (l : List UInt8) : trimLeftB (32 :: l) 32 = trimLeftB l 32 := by
 unfold trimLeftB;rw [List.dropWhile_cons];rfl
theorem Jc9 {l : List UInt8} (h : l.head? ≠ some 32) : ∀ i, trimLeftB (List.replicate i 32 ++ l) 32 = l
 | 0 => Uf h
 | i + 1 => by
  rw [List.replicate_succ, List.cons_append, Jay, Jc9 h i]
theorem JgH {l : List UInt8} (h : l.getLast? ≠ some 32) : trimRightB l 32 = l := by
 unfold trimRightB;have h2 : l.reverse.head? ≠ some 32 := by rw [List.head?_reverse]; exact h
 have h3 := Uf h2;unfold trimLeftB at h3;rw [h3, List.reverse_reverse]
theorem JgB {c : UInt8} {r : List UInt8} {f : Bool} (h1 : c ≠ 34) (h2 : c ≠ 35) : JR f false (c :: r) = 1 + JR (c == 32) false r := by
 have e1 : (c == 34) = false := JmH h1;have e2 : (c == 35) = false := JmH h2;rw [JR, e1, e2, Bool.and_false];simp
def Jan : Bool -> List UInt8 -> Bool
 | f, [] => f
 | _, c :: a => Jan (c == 32) a
theorem JcV : ∀ (a : List UInt8) (f : Bool) (r : List UInt8), (∀ c ∈ a, c ≠ 34 /\ c ≠ 35) -> JR f false (a ++ r) = a.length + JR (Jan f a) false r
 | [], f, r, _ => by simp [Jan]
 | c :: a, f, r, h => by
  have hc := h c (by simp);rw [List.cons_append, JgB hc.1 hc.2, JcV a _ r (fun x hx => h x (by simp [hx])), Jan, List.length_cons];omega
theorem Jap : ∀ {a : List UInt8} {f : Bool}, a ≠ [] -> a.getLast? ≠ some 32 -> Jan f a = false
 | [], _, h, _ => absurd rfl h
 | [c], f, _, h => by
  simp only [Jan];exact JmH (fun e => h (by rw [e]; rfl))
 | c :: d :: a, f, _, h => by
  rw [Jan];exact Jap (a := d :: a) (by simp) (by rw [List.getLast?_cons_cons] at h; exact h)
theorem JiD (r : List UInt8) : JR true false (34 :: r) = 1 + JR false true r := by
 rw [JR];rfl
theorem JgF : ∀ r : List UInt8, JR false true (34 :: r) = 1 + JR false false r
 | [] => by simp [JR]
 | d :: r => by
  rw [JR, if_neg (by decide)];rfl
theorem JfU (d : UInt8) (r : List UInt8) : JR false true (92 :: d :: r) = 2 + JR false true r := by
 rw [JR, if_pos rfl]
theorem XK {c : UInt8} {r : List UInt8} (h1 : c ≠ 34) (h2 : c ≠ 92) (hr : r ≠ []) : JR false true (c :: r) = 1 + JR false true r := by
 cases r with
 | nil => exact absurd rfl hr
 | cons d r =>
  rw [JR, if_neg h2];have : (c != 34) = true := bne_iff_ne.2 h1;rw [this]
theorem XJ {x : Nat} (h : x < 16) : Y4 x ≠ 34 /\ Y4 x ≠ 92 /\ 32 <= (Y4 x).toNat := by
 have h2 := Jhm x h;refine ⟨fun e => ?_, fun e => ?_, ?_⟩;rotate_left
 rotate_left
 ·split at h2 <;> omega
 all_goals
  rw [e] at h2;split at h2 <;> simp at h2 <;> omega
theorem Jk5 (c : UInt8) {r : List UInt8} (hr : r ≠ []) : JR false true (qB c ++ r) = (qB c).length + JR false true r := by
 unfold qB qN;have hlt := c.toNat_lt;repeat' split
 all_goals first
  | (simp only [List.cons_append, List.nil_append, List.length_cons, List.length_nil]; rw [JfU]; done)
  | skip
 ·rename_i h
  simp only [List.cons_append, List.nil_append, List.length_cons, List.length_nil];have f1 := XJ (x := c.toNat / 16) (by omega);have f2 := XJ (x := c.toNat % 16) (by omega);rw [JfU, XK (by decide) (by decide) (by simp), XK (by decide) (by decide) (by simp), XK f1.1 f1.2.1 (by simp), XK f2.1 f2.2.1 hr];omega
 rename_i h1 h2 h3 h4 h5 h6 h7
 simp only [List.cons_append, List.nil_append, List.length_cons, List.length_nil];have e : UInt8.ofNat c.toNat = c := by simp
 rw [e, XK (fun e => h1 (.inl (by rw [e]; rfl))) (fun e => h1 (.inr (by rw [e]; rfl))) hr]
theorem JdF {r : List UInt8} (hr : r ≠ []) : ∀ x : List UInt8, JR false true (x.flatMap qB ++ r) = (x.flatMap qB).length + JR false true r
 | [] => by simp
 | c :: x => by
  rw [List.flatMap_cons, List.append_assoc, Jk5 c (by simp [hr]), JdF hr x, List.length_append];omega
theorem Jmg (c : UInt8) : ∀ y ∈ qB c, 32 <= y.toNat := by
 intro y hy;unfold qB qN at hy;have hlt := c.toNat_lt;repeat' split at hy
 all_goals (simp only [List.mem_cons, List.mem_nil_iff, or_false] at hy)
 all_goals first
  | (rcases hy with rfl | rfl | rfl | rfl | rfl | rfl <;> first | decide | exact (XJ (x := c.toNat / 16) (by omega)).2.2 | exact (XJ (x := c.toNat % 16) (by omega)).2.2)
  | (rcases hy with rfl | rfl <;> (first | decide | (rename_i h; rcases h with h | h <;> simp [h])))
  | (subst hy; simp; omega)
structure Seg (f : Bool) (a : List UInt8) (g : Bool) : Prop where
 scan : ∀ r, JR f false (a ++ r) = a.length + JR g false r
 low : ∀ c ∈ a, 32 <= c.toNat
 vu : VU a
theorem Seg.app {f g h : Bool} {a b : List UInt8} (x : Seg f a g) (y : Seg g b h) : Seg f (a ++ b) h :=
 ⟨fun r => by rw [List.append_assoc, x.scan, y.scan, List.length_append]; omega, fun c hc => by
  rcases List.mem_append.1 hc with hc | hc
  ·exact x.low c hc
  exact y.low c hc, VU.app x.vu y.vu⟩
theorem Seg.free {a : List UInt8} {f : Bool} (h : ∀ c ∈ a, c ≠ 34 /\ c ≠ 35 /\ 32 <= c.toNat) (hv : VU a) : Seg f a (Jan f a) :=
 ⟨fun r => JcV a f r (fun c hc => ⟨(h c hc).1, (h c hc).2.1⟩), fun c hc => (h c hc).2.2, hv⟩
theorem Seg.quote {x : ByteArray} (hx : Qt x = true) : Seg true (JN x).data.toList false := by
 have hq : (JN x).data.toList = 34 :: (x.data.toList.flatMap qB ++ [34]) := by unfold JN; rw [if_pos hx]; simp
 refine ⟨fun r => ?_, fun c hc => ?_, VU.quote hx⟩
 ·rw [hq, List.cons_append, JiD, List.append_assoc, JdF (by simp), List.cons_append, List.nil_append, JgF]
  simp only [List.length_cons, List.length_append, List.length_nil];omega
 rw [hq] at hc;simp only [List.mem_cons, List.mem_append, List.mem_nil_iff, or_false, List.mem_flatMap] at hc;rcases hc with rfl | ⟨y, -, hy⟩ | rfl
 ·decide
 ·exact Jmg y c hy
 decide
structure TxOk (x : List UInt8) : Prop where
 ne : x ≠ []
 hd : x.head? ≠ some 32
 lst : x.getLast? ≠ some 32
 seg : Seg true x false
theorem TxOk.free {a : List UInt8} (hne : a ≠ []) (h : ∀ c ∈ a, c ≠ 34 /\ c ≠ 35 /\ 32 <= c.toNat) (hd : a.head? ≠ some 32) (hl : a.getLast? ≠ some 32) (hv : VU a) : TxOk a := by
 have := Seg.free (f := true) h hv;rw [Jap hne hl] at this;exact ⟨hne, hd, hl, this⟩
theorem TxOk.quote {x : ByteArray} (hx : Qt x = true) : TxOk (JN x).data.toList := by
 have hq : (JN x).data.toList = 34 :: (x.data.toList.flatMap qB ++ [34]) := by unfold JN; rw [if_pos hx]; simp
 refine ⟨by rw [hq]; simp, by rw [hq]; simp, ?_, Seg.quote hx⟩;rw [hq, <- List.cons_append, List.getLast?_append];simp
structure PlainF (s : ByteArray) : Prop where
 pos : 1 <= s.size
 most : s.size <= 400
 utf : Qt s = true
 first : ∀ c ∈ Qe, Jb s 0 ≠ (c.toNat : Int)
 hd : Jb s 0 ≠ 32
 lst : Jb s (s.size - 1) ≠ 32
 all : ∀ i, i < s.size -> VO s i = true
 figs : Jda s = false
 nul : s ≠ bs [110, 117, 108, 108]
 til : s ≠ bs [126]
 tru : s ≠ bs [116, 114, 117, 101]
 fal : s ≠ bs [102, 97, 108, 115, 101]
theorem UU {s : ByteArray} (h : Qa s = true) : PlainF s := by
 unfold Qa at h;simp only [Bool.and_eq_true, Bool.not_eq_true', decide_eq_true_eq, decide_eq_false_iff_not] at h;obtain ⟨⟨⟨⟨⟨⟨⟨⟨⟨⟨⟨h1, h2⟩, h3⟩, h4⟩, h5⟩, h6⟩, h7⟩, h8⟩, h9⟩, h10⟩, h11⟩, h12⟩ := h;refine ⟨h1, h2, h3, fun c hc => ?_, h5, h6, fun i hi => ?_, h8, h9, h10, h11, h12⟩
 ·have := List.any_eq_false.1 h4 c hc
  simpa using this
 unfold QG at h7;exact List.all_eq_true.1 h7 i (List.mem_range.2 hi)
theorem PlainF.byte {s : ByteArray} (h : PlainF s) {i : Nat} (hi : i < s.size) : 32 <= Jb s i /\ Jb s i ≠ 34 /\ Jb s i ≠ 35 /\ Jb s i ≠ 92 /\ Qc s i = false := by
 have := h.all i hi;unfold VO at this;simp only [Bool.not_eq_true', Bool.or_eq_false_iff, decide_eq_false_iff_not] at this;obtain ⟨⟨⟨⟨h1, h2⟩, h3⟩, h4⟩, h5⟩ := this;exact ⟨by omega, h2, h3, h4, h5⟩
theorem ZQ {s : ByteArray} {i : Nat} {c : UInt8} (h : s.data.toList[i]? = some c) : i < s.size /\ Jb s i = (c.toNat : Int) := by
 have := Z0 h;rw [Jd7] at this;exact this
theorem JlA {c : UInt8} {k : Nat} (h : (c.toNat : Int) ≠ (k : Int)) (hk : k < 256) : c ≠ UInt8.ofNat k := fun e => h (by rw [e]; simp; omega)
theorem TxOk.plain {s : ByteArray} (h : PlainF s) : TxOk s.data.toList := by
 have hl := Yn s;have hp := h.pos;refine TxOk.free (fun e => by rw [e] at hl; simp at hl; omega) (fun c hc => ?_) (fun e => ?_) (fun e => ?_) (VU.utf h.utf)
 ·obtain ⟨i, hi⟩ := List.getElem?_of_mem hc
  obtain ⟨b1, b2⟩ := ZQ hi;obtain ⟨c1, c2, c3, -, -⟩ := h.byte b1;rw [b2] at c1 c2 c3;exact ⟨JlA (k := 34) c2 (by decide), JlA (k := 35) c3 (by decide), by omega⟩
 ·rw [List.head?_eq_getElem?] at e
  exact h.hd (ZQ e).2
 rw [List.getLast?_eq_getElem?, hl] at e;exact h.lst (ZQ e).2
theorem TxOk.key {k : ByteArray} (h : Qs k = true) : TxOk (Js k).data.toList := by
 unfold Js;split
 ·rename_i hp
  exact TxOk.plain (UU hp)
 exact TxOk.quote (XC h).1
theorem TxOk.low {a : List UInt8} (hne : a ≠ []) (h : ∀ c ∈ a, c ≠ 34 /\ c ≠ 35 /\ 32 < c.toNat /\ c.toNat < 128) : TxOk a := by
 refine TxOk.free hne (fun c hc => ⟨(h c hc).1, (h c hc).2.1, Nat.le_of_lt (h c hc).2.2.1⟩) (fun e => ?_) (fun e => ?_) (VU.low (fun c hc => (h c hc).2.2.2))
 ·have := (h 32 (List.mem_of_mem_head? e)).2.2.1
  exact absurd this (by decide)
 have := (h 32 (List.mem_of_getLast? e)).2.2.1;exact absurd this (by decide)
theorem JbM (n : Int) : (Qv n).data.toList = itoa n := by unfold Qv; simp
theorem Jc3 (n : Int) : ∀ c ∈ (Qv n).data.toList, c.toNat = 45 ∨ (48 <= c.toNat /\ c.toNat <= 57) := by
 rw [JbM];unfold itoa;split
 ·intro c hc
  rcases List.mem_cons.1 hc with rfl | hc
  ·exact .inl rfl
  exact .inr (ZU _ c hc)
 intro c hc;exact .inr (ZU _ c hc)
theorem Jen (n : Int) : (Qv n).data.toList ≠ [] := by
 rw [JbM];unfold itoa;split
 ·simp
 exact Jef _
theorem TxOk.dec (n : Int) : TxOk (Qv n).data.toList := TxOk.low (Jen n) (fun c hc => by
 have := Jc3 n c hc
 exact ⟨fun e => by rw [e] at this; simp at this, fun e => by rw [e] at this; simp at this, by omega, by omega⟩)
theorem TxOk.item {x : List UInt8} (h : TxOk x) : TxOk ([45, 32] ++ x) := by
 refine ⟨by simp, by simp, ?_, ?_⟩
 ·rw [Ja3 h.ne]
  exact h.lst
 have h1 : Seg true [45, 32] true := by
  have := Seg.free (f := true) (a := [45, 32]) (by intro c hc; simp at hc; rcases hc with rfl | rfl <;> decide) (VU.low (by intro c hc; simp at hc; rcases hc with rfl | rfl <;> decide));exact this
 exact h1.app h.seg
theorem Jdw : Seg false [58] false := by
 have := Seg.free (f := false) (a := [58]) (by intro c hc; simp at hc; subst hc; decide) (VU.low (by intro c hc; simp at hc; subst hc; decide));exact this
theorem Jdq (f : Bool) : Seg f [32] true := by
 have := Seg.free (f := f) (a := [32]) (by intro c hc; simp at hc; subst hc; decide) (VU.low (by intro c hc; simp at hc; subst hc; decide));exact this
theorem TxOk.colon {x : List UInt8} (h : TxOk x) : TxOk (x ++ [58]) :=
 ⟨by simp, by
  cases x with
  | nil => exact absurd rfl h.ne
  | cons c x => exact h.hd, by rw [List.getLast?_append]; simp, h.seg.app Jdw⟩
theorem TxOk.pair {x y : List UInt8} (h : TxOk x) (k : TxOk y) : TxOk (x ++ [58, 32] ++ y) := by
 refine ⟨by simp, ?_, ?_, ?_⟩
 ·cases x with
  | nil => exact absurd rfl h.ne
  | cons c x => exact h.hd
 ·rw [Ja3 k.ne]
  exact k.lst
 have h2 : Seg true (x ++ ([58] ++ [32])) true := h.seg.app (Jdw.app (Jdq false));exact Seg.app h2 k.seg
def Qw (p : Nat × List UInt8) : List UInt8 := List.replicate p.1 32 ++ p.2
theorem Jbv : ∀ i, Seg true (List.replicate i 32) true
 | 0 => ⟨fun r => by simp, fun c hc => by simp at hc, VU.nil⟩
 | i + 1 => by
  have := (Jdq true).app (Jbv i);rw [List.replicate_succ];exact this
theorem JbL {i : Nat} {x : List UInt8} (h : TxOk x) (k : Nat) : Zr k (Qw (i, x)) = [⟨i, bs x, k⟩] /\ Zf (Qw (i, x)) = false /\ VU (Qw (i, x)) /\ (10 : UInt8) ∉ Qw (i, x) := by
 have hs := (Jbv i).app h.seg
 have hb : JK (Qw (i, x)) = Qw (i, x) := by
  unfold JK;have h1 := hs.scan [];rw [List.append_nil] at h1;have h2 : JR false false [] = 0 := by simp [JR]
  rw [h2, Nat.add_zero] at h1;show trimRightB ((List.replicate i 32 ++ x).take (JR true false (List.replicate i 32 ++ x))) 32 = _
  rw [h1, List.take_length];refine JgH ?_;rw [Ja3 h.ne];exact h.lst
 have ht : trimLeftB (Qw (i, x)) 32 = x := Jc9 h.hd i;have hlow : ∀ c ∈ Qw (i, x), 32 <= c.toNat := hs.low
 refine ⟨?_, ?_, hs.vu, fun hm => ?_⟩
 ·unfold Zr Vh
  rw [hb, if_neg (by unfold Qw; simp [h.ne]), ht];have : (Qw (i, x)).length - x.length = i := by unfold Qw; simp
  rw [this]
 ·unfold Zf
  rw [List.any_eq_false];intro c hc;have := hlow c hc
  simpa using this
 exact absurd (hlow 10 hm) (by decide)
theorem JcE {s : ByteArray} (h : ∀ i, i < s.size -> Qc s i = false) : ∀ f i, Un s f i = none
 | 0, _ => rfl
 | f + 1, i => by
  unfold Un;split
  ·rename_i hi
   rw [h i hi, if_neg (by decide), JcE h f (i + 1)]
  rfl
theorem JdA {s : ByteArray} {n : Nat} (hn : n < s.size) (he : Qc s n = true) (h : ∀ i, i < n -> Qc s i = false) : ∀ f i, i <= n -> n < i + f -> Un s f i = some n
 | 0, i, h1, h2 => by omega
 | f + 1, i, h1, h2 => by
  unfold Un;rw [if_pos (by omega)];rcases Nat.lt_or_ge i n with h3 | h3
  ·rw [h i h3, if_neg (by decide)]
   exact JdA hn he h f (i + 1) (by omega) (by omega)
  obtain rfl : i = n := by omega
  rw [he, if_pos rfl]
theorem U2 {s : ByteArray} {c : UInt8} {r : List UInt8} (h : Jb s 0 ≠ (c.toNat : Int)) : s ≠ bs (c :: r) := fun e => h (by rw [e]; exact (Z0 (l := c :: r) (i := 0) rfl).2)
theorem Jdr {x : List UInt8} (h : TxOk x) : Jy (bs ([45, 32] ++ x)) = some (bs x, 2) := by
 have hx : 0 < x.length := List.length_pos_iff.2 h.ne
 have hne : bs ([45, 32] ++ x) ≠ bs [45] := fun e => by
  have := congrArg ByteArray.size e;rw [Zl, Zl] at this;simp at this
 have hz : (bs ([45, 32] ++ x)).size = x.length + 2 := by rw [Zl]; simp
 have ht : Qb (bs ([45, 32] ++ x)) 2 = bs x := by
  unfold Qb;rw [toL];show bs (trimLeftB x 32) = bs x
  rw [Uf h.hd]
 unfold Jy;rw [if_neg hne, if_pos ⟨by omega, (Z0 (l := [45, 32] ++ x) (i := 0) rfl).2, (Z0 (l := [45, 32] ++ x) (i := 1) rfl).2⟩, ht, hz, Zl];congr 2
 omega
theorem JaM {s : ByteArray} (h : Jb s 0 ≠ 45) : Jy s = none := by
 unfold Jy;rw [if_neg (U2 (c := 45) (r := []) h), if_neg (fun e => h e.2.1)]
theorem Jhc {s : ByteArray} (h0 : Jb s 0 ≠ 34) (h : ∀ i, i < s.size -> Qc s i = false) : Qq s = none := by
 unfold Qq;rw [if_neg (fun e => h0 e.2), JcE h]
theorem Jf7 {s : ByteArray} (h : PlainF s) : ∀ i, i < s.size -> Qc s i = false := fun _ hi => (h.byte hi).2.2.2.2
theorem Jc7 {s : ByteArray} {i : Nat} (h : Jb s i ≠ 58) : Qc s i = false := by
 unfold Qc;rw [JmF h, Bool.and_false, Bool.false_and]
def Tail (R : List UInt8) : Prop := R = [] ∨ ∃ y, TxOk y /\ R = 32 :: y
theorem Tail.trim {R : List UInt8} (h : Tail R) : trimLeftB R 32 = R.drop 1 := by
 rcases h with rfl | ⟨y, hy, rfl⟩
 ·rfl
 rw [Jay, Uf hy.hd];rfl
theorem Tail.ends {K R : List UInt8} (h : Tail R) : Qc (bs (K ++ 58 :: R)) K.length = true := by
 have h1 := Z0 (l := K ++ 58 :: R) (i := K.length) (c := 58) (by rw [List.getElem?_append_right (Nat.le_refl _), Nat.sub_self]; rfl);have hz : (bs (K ++ 58 :: R)).size = K.length + (R.length + 1) := by rw [Zl]; simp
 unfold Qc;rw [JmG h1.1, JmG (show Jb (bs (K ++ 58 :: R)) K.length = 58 from h1.2)];rcases h with rfl | ⟨y, hy, rfl⟩
 ·rw [JmG (by rw [hz]; simp)]
  rfl
 have h2 := Z0 (l := K ++ 58 :: 32 :: y) (i := K.length + 1) (c := 32) (by rw [List.getElem?_append_right (by omega)]; simp);rw [JmG (show Jb (bs (K ++ 58 :: 32 :: y)) (K.length + 1) = 32 from h2.2), Bool.or_true];rfl
theorem XB {k : ByteArray} (hk : Qs k = true) {R : List UInt8} (hR : Tail R) : Qq (bs ((Js k).data.toList ++ 58 :: R)) = some (k, bs (R.drop 1)) /\ Jy (bs ((Js k).data.toList ++ 58 :: R)) = none := by
 have hends := hR.ends (K := (Js k).data.toList)
 have htail : ∀ K : List UInt8, Qb (bs (K ++ 58 :: R)) (K.length + 1) = bs (R.drop 1) := fun K => by
  unfold Qb;rw [toL, show K ++ 58 :: R = (K ++ [58]) ++ R by simp, show K.length + 1 = (K ++ [58]).length by simp, List.drop_left, hR.trim]
 unfold Js at hends ⊢;by_cases hp : Qa k = true
 ·rw [if_pos hp] at hends ⊢
  have h := UU hp;have hl := Yn k;have hpos := h.pos;obtain ⟨s, hs⟩ : ∃ s, s = bs (k.data.toList ++ 58 :: R) := ⟨_, rfl⟩
  have hz : s.size = k.size + (R.length + 1) := by rw [hs, Zl]; simp [hl]
  have hb : ∀ i, i < k.size -> Jb s i = Jb k i := fun i hi => by
   obtain ⟨c, hc⟩ := Jg (show i < k.data.toList.length by omega);rw [(ZQ hc).2, hs];exact (Z0 (by rw [List.getElem?_append_left (by omega)]; exact hc)).2
  have h0 := h.byte (i := 0) (by omega)
  have hbelow : ∀ i, i < k.data.toList.length -> Qc s i = false := fun i hi => by
   rw [hl] at hi;have hki := (h.byte hi).2.2.2.2;by_cases e58 : Jb s i = 58
   ·have e2 : Jb k i = 58 := by rw [<- hb i hi]; exact e58
    unfold Qc at hki;rw [JmG hi, JmG e2, Bool.true_and, Bool.true_and, Bool.or_eq_false_iff] at hki;have g1 := of_decide_eq_false hki.1;have g2 := of_decide_eq_false hki.2;unfold Qc;rw [JmF (show ¬ i + 1 = s.size by omega), JmF (show ¬ Jb s (i + 1) = 32 by rw [hb (i + 1) (by omega)]; exact g2), Bool.or_false, Bool.and_false]
   exact Jc7 e58
  rw [<- hs] at hends ⊢;refine ⟨?_, JaM (by rw [hb 0 (by omega)]; exact h.first 45 (by decide))⟩;unfold Qq;rw [if_neg (fun e => h0.2.1 (by rw [<- hb 0 (by omega)]; exact e.2)), JdA (by omega) hends hbelow s.size 0 (Nat.zero_le _) (by omega)];simp only;have ht : bs (s.data.toList.take k.data.toList.length) = k := by rw [hs, toL, List.take_left, Jd7]
  rw [ht, if_pos hp, hs, htail]
 rw [if_neg hp] at hends ⊢;have hu := XC hk;obtain ⟨s, hs⟩ : ∃ s, s = bs ((JN k).data.toList ++ 58 :: R) := ⟨_, rfl⟩
 have hrd : Rd s 0 ((JN k).data.toList ++ 58 :: R) := by rw [hs]; exact JdS _
 obtain ⟨q1, q2, q3⟩ := Jcj hu.1 hrd;rw [<- hs] at hends ⊢;refine ⟨?_, JaM (by rw [q1]; decide)⟩;unfold Qq;rw [Nat.zero_add] at q3;rw [if_pos ⟨q2, q1⟩, q3];simp only;rw [if_pos ⟨by omega, by rw [Int.toNat_natCast]; exact hends⟩, Int.toNat_natCast, hs, htail]
structure ScalOk (s : ByteArray) (d : TreeD) : Prop where
 tx : TxOk s.data.toList
 item : Jy s = none
 key : Qq s = none
 scal : JL s = some d
theorem ZW {l : List UInt8} {d : TreeD} (h1 : l ≠ []) (h2 : ∀ c ∈ l, c ≠ 34 /\ c ≠ 35 /\ 32 < c.toNat /\ c.toNat < 128) (h3 : Jy (bs l) = none) (h4 : Qq (bs l) = none) (h5 : JL (bs l) = some d) : ScalOk (bs l) d := ⟨by rw [toL]; exact TxOk.low h1 h2, h3, h4, h5⟩
theorem Jit : ScalOk (bs JfS) UD := ZW (by decide) (by decide) (by kernel_rfl) (by kernel_rfl) (by kernel_rfl)
theorem JiO : ScalOk (bs JeF) (Wx true) := ZW (by decide) (by decide) (by kernel_rfl) (by kernel_rfl) (by kernel_rfl)
theorem Jge : ScalOk (bs JfQ) (Wx false) := ZW (by decide) (by decide) (by kernel_rfl) (by kernel_rfl) (by kernel_rfl)
theorem JiF : ScalOk (bs [91, 93]) (JY []) := ZW (by decide) (by decide) (by kernel_rfl) (by kernel_rfl) (by kernel_rfl)
theorem JjT : ScalOk (bs [123, 125]) (QD [] []) := ZW (by decide) (by decide) (by kernel_rfl) (by kernel_rfl) (by kernel_rfl)
theorem Jik {n : Int} (hn : QA n) : ScalOk (Qv n) (Jid n) := by
 have hrd : Rd (Qv n) 0 ((Qv n).data.toList ++ []) := by unfold Rd; simp
 obtain ⟨w1, w2, w3, w4, w5⟩ := JgG hn (fun c hc => by cases hc) hrd
 have hb : ∀ i, i < (Qv n).size -> Jb (Qv n) i = 45 ∨ (48 <= Jb (Qv n) i /\ Jb (Qv n) i <= 57) := fun i hi => by
  obtain ⟨c, hc⟩ := Jg (show i < (Qv n).data.toList.length by rw [Yn]; exact hi);have := Jc3 n c (List.mem_of_getElem? hc);rw [(ZQ hc).2];omega
 have h0 := hb 0 w1;have hlen := Yn (Qv n);refine ⟨TxOk.dec n, ?_, Jhc w3 (fun i hi => Jc7 (by have := hb i hi; omega)), ?_⟩
 ·unfold Jy
  rw [if_neg (fun e => ?_), if_neg (fun e => ?_)]
  ·have h1 := hb 1 (by omega)
   omega
  have h2 : (Qv n).data.toList = [45] := by rw [e, toL]
  rw [JbM] at h2;unfold itoa at h2;split at h2
  ·simp only [List.cons.injEq, true_and] at h2
   exact Jef _ h2
  have := ZU n.toNat 45 (by rw [h2]; simp);unfold Yr at this;simp at this
 have hf : ∀ (c : UInt8) (r : List UInt8), c.toNat ≠ 45 -> ¬ (48 <= c.toNat /\ c.toNat <= 57) -> Qv n ≠ bs (c :: r) := fun c r g1 g2 => U2 (by omega)
 unfold JL;rw [if_neg (hf _ _ (by decide) (by decide)), if_neg (hf _ _ (by decide) (by decide)), if_neg (not_or.2 ⟨hf _ _ (by decide) (by decide), hf _ _ (by decide) (by decide)⟩), if_neg (hf _ _ (by decide) (by decide)), if_neg (hf _ _ (by decide) (by decide)), if_neg (fun e => w3 e.2), w5];rw [if_pos (by simp only; rw [hlen]; omega)]
theorem Jf5 {s : ByteArray} (hp : Qa s = true) : ScalOk s (VR s) := by
 have h := UU hp;have hpos := h.pos;have h0 := h.byte (i := 0) (by omega);refine ⟨TxOk.plain h, JaM (h.first 45 (by decide)), Jhc h0.2.1 (Jf7 h), ?_⟩;unfold JL;rw [if_neg (U2 (h.first 91 (by decide))), if_neg (U2 (h.first 123 (by decide))), if_neg (not_or.2 ⟨h.nul, h.til⟩), if_neg h.tru, if_neg h.fal, if_neg (fun e => h0.2.1 e.2), if_neg ?_, if_pos hp];intro ⟨e1, e2⟩
 unfold JF at e1 e2;rw [if_pos (show 0 < s.size by omega), if_neg (show ¬ Jb s 0 = 45 from h.first 45 (by decide))] at e1 e2
 have hd : Qg s 0 = s.size := by
  unfold VC at e1 e2;rw [if_neg (show ¬ (false = true) by decide)] at e1 e2;split at e1
  ·rename_i c
   rw [if_pos c] at e2;simp at e2
  rename_i c
  rw [if_neg c] at e2;split at e1
  ·simp only at e1
   omega
  rename_i c2
  rw [if_neg c2] at e2;simp at e2
 have hfg : Jda s = true := by
  unfold Jda;rw [List.all_eq_true];intro c hc;obtain ⟨i, hi⟩ := List.getElem?_of_mem hc;obtain ⟨b1, b2⟩ := ZQ hi;have hg := (XW (s := s) (j := 0) (t := i) (Nat.zero_le _) (by omega)).1;rw [b2] at hg;unfold ZA at hg;simp only [Bool.and_eq_true, decide_eq_true_eq] at hg ⊢;omega
 rw [h.figs] at hfg;cases hfg
theorem JgX {s : ByteArray} (hs : Qs s = true) : ScalOk (JN s) (VR s) := by
 have hu := XC hs;have hrd : Rd (JN s) 0 ((JN s).data.toList ++ []) := by unfold Rd; simp
 obtain ⟨q1, q2, q3⟩ := Jcj hu.1 hrd;have hlen := Yn (JN s);rw [Nat.zero_add, hlen] at q3;have hf : ∀ (c : UInt8) (r : List UInt8), c.toNat ≠ 34 -> JN s ≠ bs (c :: r) := fun c r g => U2 (by rw [q1]; omega)
 refine ⟨TxOk.quote hu.1, JaM (by rw [q1]; decide), ?_, ?_⟩
 ·unfold Qq
  rw [if_pos ⟨q2, q1⟩, q3];simp only;rw [if_neg (fun e => ?_)];have := e.2;rw [Int.toNat_natCast] at this;unfold Qc at this;rw [JmF (by omega), Bool.false_and, Bool.false_and] at this;cases this
 unfold JL;rw [if_neg (hf _ _ (by decide)), if_neg (hf _ _ (by decide)), if_neg (not_or.2 ⟨hf _ _ (by decide), hf _ _ (by decide)⟩), if_neg (hf _ _ (by decide)), if_neg (hf _ _ (by decide)), if_pos ⟨q2, q1⟩, q3];show (if ((JN s).size : Int) = (JN s).size /\ s.size <= 400 then some (VR s) else none) = some (VR s)
 rw [if_pos ⟨rfl, hu.2⟩]
theorem JiL {s : ByteArray} (hs : Qs s = true) : ScalOk (Js s) (VR s) := by
 unfold Js;split
 ·rename_i h
  exact Jf5 h
 exact JgX hs
theorem Xd {n : Nat} {d : TreeD} (h : Ju (n + 1) d = true) (hn : ZS (n + 1) d) (hk : d.kids = []) : ScalOk (Jx d) d := by
 obtain ⟨h1, h2, h3, -, -⟩ := JZ h;obtain ⟨⟨k1, k2⟩, p2, p3, p4, p5, -⟩ := Wh h1;have hn1 := hn.1;obtain ⟨kind, flag, num, text, keys, kids⟩ := d;simp only at *;subst hk;unfold Jx;simp only;have hc : kind = 1 ∨ kind = 2 ∨ kind = 3 ∨ kind = 4 ∨ kind = 5 ∨ kind = 6 := by omega
 rcases hc with rfl | rfl | rfl | rfl | rfl | rfl
 ·rw [p2 (by decide), p3 (by decide), p4 (by decide), p5 (by decide)]
  exact Jit
 ·rw [p3 (by decide), p4 (by decide), p5 (by decide)]
  cases flag
  ·exact Jge
  exact JiO
 ·rw [p2 (by decide), p4 (by decide), p5 (by decide)]
  exact Jik hn1
 ·rw [p2 (by decide), p3 (by decide), p5 (by decide)]
  exact JiL h2
 ·rw [p2 (by decide), p3 (by decide), p4 (by decide), p5 (by decide)]
  exact JiF
 rw [p2 (by decide), p3 (by decide), p4 (by decide)]
 have : keys = [] := by
  unfold JQ at h3;simp at h3;exact h3
 rw [this];exact JjT
abbrev Ln := Nat × List UInt8
def sh (p : Ln) : Ln := (p.1 + 2, p.2)
def Vs (f : TreeD -> List Ln) (d : TreeD) (i : Nat) : List Ln := match d.kids[i]? with
 | none => []
 | some t => if d.kind = 6 then (match d.keys[i]? with
   | none => []
   | some k => if t.kids = [] then [(0, (Js k).data.toList ++ [58, 32] ++ (Jx t).data.toList)] else (0, (Js k).data.toList ++ [58]) :: (f t).map sh)
  else (match f t with | [] => [] | (_, x) :: r => (0, [45, 32] ++ x) :: r.map sh)
def lnT : Nat -> TreeD -> List Ln
 | 0, _ => []
 | n + 1, d => if d.kids = [] then [(0, (Jx d).data.toList)] else W4 (Vs (lnT n) d) 0 d.kids.length
theorem U3 {n : Nat} {d : TreeD} (h : d.kids = []) : lnT (n + 1) d = [(0, (Jx d).data.toList)] := by rw [lnT, if_pos h]
theorem UO {n : Nat} {d : TreeD} (h : d.kids ≠ []) : lnT (n + 1) d = W4 (Vs (lnT n) d) 0 d.kids.length := by rw [lnT, if_neg h]
theorem Jdd (g : Nat -> List (List UInt8)) : ∀ n, Qj g n = W4 g 0 n
 | 0 => rfl
 | n + 1 => by rw [Qj, Jdd g n, Jdc, Nat.zero_add]
theorem Jhs {α β : Type} (f : α -> β) {g : Nat -> List α} {h : Nat -> List β} : ∀ (n k : Nat), (∀ i, k <= i -> i < k + n -> h i = (g i).map f) -> W4 h k n = (W4 g k n).map f
 | 0, _, _ => rfl
 | n + 1, k, hh => by
  rw [Q0, Q0, List.map_append, hh k (Nat.le_refl _) (by omega), Jhs f n (k + 1) (fun i h1 h2 => hh i (by omega) (by omega))]
theorem Jig (p : Ln) : Qw (sh p) = [32, 32] ++ Qw p := by
 unfold Qw sh;rw [List.replicate_succ, List.replicate_succ];rfl
theorem Xw (L : List Ln) : Qp (L.map Qw) = (L.map sh).map Qw := by
 unfold Qp;rw [List.map_map, List.map_map];exact List.map_congr_left (fun p _ => (Jig p).symm)
structure LnOkT (n : Nat) (d : TreeD) : Prop where
 hd : ∃ x r, lnT n d = (0, x) :: r
 tx : ∀ p ∈ lnT n d, TxOk p.2
 lines : Jt n d = (lnT n d).map Qw
theorem Jbh {n : Nat} {d : TreeD} (h : Ju (n + 1) d = true) (hk : d.kids ≠ []) : d.kind = 5 ∨ (d.kind = 6 /\ d.keys.length = d.kids.length) := by
 obtain ⟨h1, -, h3, -, -⟩ := JZ h;obtain ⟨⟨k1, k2⟩, -, -, -, -, p6⟩ := Wh h1;by_cases c : d.kind = 6
 ·right
  refine ⟨c, ?_⟩;unfold JQ at h3;simp [c] at h3;exact h3
 left
 by_cases c5 : d.kind < 5
 ·exact absurd (p6 c5) hk
 omega
theorem Jgs {n i : Nat} {d : TreeD} (h : Ju (n + 1) d = true) (hl : d.keys.length = d.kids.length) (hi : i < d.kids.length) : ∃ k, d.keys[i]? = some k /\ Qs k = true := by
 obtain ⟨k, hk⟩ := Jg (show i < d.keys.length by omega);exact ⟨k, hk, JkY h hk⟩
theorem Jgv {n i : Nat} {d t : TreeD} (h : Ju (n + 1) d = true) (hn : ZS (n + 1) d) (ht : d.kids[i]? = some t) (hk : LnOkT n t) :
  (∃ x r, Vs (lnT n) d i = (0, x) :: r) /\ (∀ p ∈ Vs (lnT n) d i, TxOk p.2) /\ J2 (Jt n) d i = (Vs (lnT n) d i).map Qw := by
 have hne : d.kids ≠ [] := fun e => by rw [e] at ht; cases ht
 have hi : i < d.kids.length := (List.getElem?_eq_some_iff.1 ht).1
 obtain ⟨m, rfl⟩ : ∃ m, n = m + 1 := by
  cases n with
  | zero =>
   have h9 := J6 h ht;cases h9
  | succ m => exact ⟨m, rfl⟩
 have hst := J6 h ht;have hnt := hn.2 t (List.mem_of_getElem? ht);obtain ⟨x, r, hx⟩ := hk.hd;unfold Vs J2;rw [ht];simp only;rcases Jbh h hne with h5 | ⟨h6, hl⟩
 ·rw [if_neg (by omega), if_neg (by omega), hk.lines, hx]
  simp only [List.map_cons];refine ⟨⟨_, _, rfl⟩, fun p hp => ?_, ?_⟩
  ·rcases List.mem_cons.1 hp with rfl | hp
   ·exact (hk.tx (0, x) (by rw [hx]; simp)).item
   obtain ⟨q, hq, rfl⟩ := List.mem_map.1 hp;exact hk.tx q (by rw [hx]; simp [hq])
  rw [Xw];rfl
 obtain ⟨k, hkk, hks⟩ := Jgs h hl hi;rw [if_pos h6, if_pos h6, hkk];simp only;by_cases hkt : t.kids = []
 ·rw [if_pos hkt, if_pos hkt]
  have hs := Xd hst hnt hkt;refine ⟨⟨_, _, rfl⟩, fun p hp => ?_, ?_⟩
  ·simp at hp
   subst hp;have := (TxOk.key hks).pair hs.tx
   simpa using this
  rw [hk.lines, U3 hkt];rfl
 rw [if_neg hkt, if_neg hkt];refine ⟨⟨_, _, rfl⟩, fun p hp => ?_, ?_⟩
 ·rcases List.mem_cons.1 hp with rfl | hp
  ·exact (TxOk.key hks).colon
  obtain ⟨q, hq, rfl⟩ := List.mem_map.1 hp;exact hk.tx q hq
 rw [hk.lines, Xw];rfl
theorem JhP {α : Type} {g : Nat -> List α} {x : α} : ∀ (n k : Nat), x ∈ W4 g k n -> ∃ i, k <= i /\ i < k + n /\ x ∈ g i
 | 0, _, h => by cases h
 | n + 1, k, h => by
  rw [Q0] at h;rcases List.mem_append.1 h with h | h
  ·exact ⟨k, Nat.le_refl _, by omega, h⟩
  obtain ⟨i, h1, h2, h3⟩ := JhP n (k + 1) h;exact ⟨i, by omega, by omega, h3⟩
theorem Xl : ∀ (n : Nat) (d : TreeD), Ju n d = true -> ZS n d -> LnOkT n d
 | 0, _, h, _ => by cases h
 | n + 1, d, h, hn => by
  by_cases hk : d.kids = []
  ·have hs := Xd h hn hk
   refine ⟨⟨_, _, U3 hk⟩, fun p hp => ?_, ?_⟩
   ·rw [U3 hk] at hp
    simp at hp;subst hp;exact hs.tx
   rw [U3 hk, Jt, if_pos hk];rfl
  have hall : ∀ i, i < d.kids.length -> (∃ x r, Vs (lnT n) d i = (0, x) :: r) /\ (∀ p ∈ Vs (lnT n) d i, TxOk p.2) /\ J2 (Jt n) d i = (Vs (lnT n) d i).map Qw := fun i hi => by
   obtain ⟨t, ht⟩ := Jg hi;exact Jgv h hn ht (Xl n t (J6 h ht) (hn.2 t (List.mem_of_getElem? ht)))
  have hpos : 0 < d.kids.length := List.length_pos_iff.2 hk;refine ⟨?_, fun p hp => ?_, ?_⟩
  ·obtain ⟨x, r, hx⟩ := (hall 0 hpos).1
   obtain ⟨q, hq⟩ : ∃ q, d.kids.length = q + 1 := ⟨d.kids.length - 1, by omega⟩
   rw [UO hk, hq, Q0, hx];exact ⟨_, _, rfl⟩
  ·rw [UO hk] at hp
   obtain ⟨i, -, h2, h3⟩ := JhP _ _ hp;exact (hall i (by omega)).2.1 p h3
  rw [UO hk, Jt, if_neg hk, Jdd];exact Jhs Qw _ _ (fun i _ h2 => (hall i (by omega)).2.2)
def LnR (i : Nat) (ps : List Ln) (L : List LineD) : Prop := L.map (fun x => (x.ind, x.text)) = ps.map (fun p => (i + p.1, bs p.2))
theorem LnR.nil {i : Nat} {L : List LineD} (h : LnR i [] L) : L = [] := by
 unfold LnR at h
 simpa using h
theorem LnR.app {i : Nat} {a b : List Ln} {L : List LineD} (h : LnR i (a ++ b) L) : ∃ La Lb, L = La ++ Lb /\ LnR i a La /\ LnR i b Lb := by
 unfold LnR at h;rw [List.map_append, List.map_eq_append_iff] at h;obtain ⟨La, Lb, h1, h2, h3⟩ := h;exact ⟨La, Lb, h1, h2, h3⟩
theorem LnR.cons {i : Nat} {p : Ln} {r : List Ln} {L : List LineD} (h : LnR i (p :: r) L) : ∃ y L', L = y :: L' /\ y.ind = i + p.1 /\ y.text = bs p.2 /\ LnR i r L' := by
 unfold LnR at h;cases L with
 | nil => cases h
 | cons y L' =>
  simp only [List.map_cons, List.cons.injEq, Prod.mk.injEq] at h;exact ⟨y, L', rfl, h.1.1, h.1.2, h.2⟩
theorem LnR.sh {i : Nat} {r : List Ln} {L : List LineD} (h : LnR i (r.map sh) L) : LnR (i + 2) r L := by
 unfold LnR at h ⊢;rw [h, List.map_map];refine List.map_congr_left (fun p _ => ?_);show (i + (p.1 + 2), bs p.2) = (i + 2 + p.1, bs p.2)
 rw [show i + (p.1 + 2) = i + 2 + p.1 by omega]
def Stop (i : Nat) (rest : List LineD) : Prop := ∀ y, rest.head? = some y -> y.ind < i
theorem Jde (a b : List LineD) : Qh (a ++ b) = Qh a + Qh b := WO _ a b
theorem VZ (x : LineD) (l : List LineD) : Qh (x :: l) = (x.text.size + 3) + Qh l := rfl
def InB (n : Nat) (d : TreeD) : Prop := ∀ (i : Nat) (L rest : List LineD) (m deep fuel : Nat), LnR i (lnT n d) L -> Stop i rest -> deep + Jw n d <= 9 -> m + Jl n d <= 300 -> 3 * Qh (L ++ rest) + 3 <= fuel ->
 Jn fuel (.value deep) (L ++ rest) m = .good d rest (m + Jl n d)
theorem JbB {d m a : Nat} (h1 : d <= 8) (h2 : m < 300) : J1 d m a = none := by
 unfold J1;rw [if_neg (by omega), if_neg (by omega)]
theorem JcW {n : Nat} {t : TreeD} (h : Ju n t = true) : 1 <= Jw n t /\ 1 <= Jl n t := by
 cases n with
 | zero => cases h
 | succ n => rw [QF, JJ]; omega
theorem Jli {n : Nat} {d : TreeD} (h : Ju (n + 1) d = true) (hn : ZS (n + 1) d) (h5 : d.kind = 5) (hb : ∀ t ∈ d.kids, InB n t) : ∀ (r k : Nat), k + r = d.kids.length -> ∀ (i : Nat) (L rest : List LineD) (m deep fuel : Nat),
  LnR i (W4 (Vs (lnT n) d) k r) L -> Stop i rest -> (∀ t ∈ d.kids, deep + 1 + Jw n t <= 9) -> m + QZ (Jl n) (d.kids.drop k) <= 300 -> 3 * Qh (L ++ rest) + 2 <= fuel ->
  Jn fuel (.list i deep (d.kids.take k)) (L ++ rest) m = .good (JY d.kids) rest (m + QZ (Jl n) (d.kids.drop k)) := by
 intro r;induction r with
 | zero =>
  intro k hk i L rest m deep fuel hL hs _ _ hf;obtain rfl := hL.nil;obtain ⟨f, rfl⟩ : ∃ f, fuel = f + 1 := ⟨fuel - 1, by omega⟩
  rw [List.take_of_length_le (by omega), List.drop_of_length_le (by omega), List.nil_append];cases rest with
  | nil => rfl
  | cons y rest =>
   have := hs y rfl;rw [Jn, if_pos (by omega)];rfl
 | succ r ih =>
  intro k hk i L rest m deep fuel hL hs hd hm hf;obtain ⟨f, rfl⟩ : ∃ f, fuel = f + 1 := ⟨fuel - 1, by omega⟩
  obtain ⟨t, ht⟩ := Jg (show k < d.kids.length by omega);have htm := List.mem_of_getElem? ht;have hst := J6 h ht;have hnt := hn.2 t htm
  have hsz : QZ (Jl n) (d.kids.drop k) = Jl n t + QZ (Jl n) (d.kids.drop (k + 1)) := by
   rw [Jez ht];simp [QZ]
  rw [Q0] at hL;obtain ⟨La, Lb, rfl, hLa, hLb⟩ := hL.app;have hlk := Xl n t hst hnt;obtain ⟨x, q, hx⟩ := hlk.hd
  have hkl : Vs (lnT n) d k = (0, [45, 32] ++ x) :: q.map sh := by
   unfold Vs;rw [ht];simp only;rw [if_neg (by omega), hx]
  rw [hkl] at hLa;obtain ⟨y, La', rfl, hy1, hy2, hLa'⟩ := hLa.cons;have hxo := hlk.tx (0, x) (by rw [hx]; simp);rw [List.cons_append, List.cons_append, Jn, if_neg (by simpa using hy1), hy2, Jdr hxo];simp only;rw [if_neg (by decide)]
  have hnext : Stop (i + 2) (Lb ++ rest) := by
   intro z hz;cases r with
   | zero =>
    obtain rfl := hLb.nil;have := hs z hz;omega
   | succ r =>
    rw [Q0] at hLb;obtain ⟨u, hu⟩ := Jg (show k + 1 < d.kids.length by omega);obtain ⟨x2, q2, hx2⟩ := (Jgv h hn hu (Xl n u (J6 h hu) (hn.2 u (List.mem_of_getElem? hu)))).1;rw [hx2, List.cons_append] at hLb;obtain ⟨y2, Lb', rfl, hy3, -, -⟩ := hLb.cons;simp at hz;subst hz;simp only at hy3;omega
  have hv := hb t htm (i + 2) (⟨i + 2, bs x, y.at'⟩ :: La') (Lb ++ rest) m (deep + 1) f (by
   rw [hx];unfold LnR;have h9 := hLa'.sh;unfold LnR at h9;rw [List.map_cons, List.map_cons, h9]
   rfl) hnext (hd t htm) (by omega) (by
   rw [List.cons_append, List.cons_append, VZ, hy2, Zl] at hf;rw [List.cons_append, VZ, Zl];simp only [List.length_append, List.length_cons, List.length_nil] at hf;rw [List.append_assoc] at hf
   omega)
  rw [List.append_assoc];rw [List.cons_append] at hv;rw [hv];simp only
  rw [<- YH ht, ih (k + 1) (by omega) i Lb rest (m + Jl n t) deep f hLb hs hd (by omega) (by
   rw [List.cons_append, List.cons_append, VZ, List.append_assoc, Jde] at hf
   omega), hsz, Nat.add_assoc]
theorem JkH {n : Nat} {d : TreeD} (h : Ju (n + 1) d = true) (hn : ZS (n + 1) d) (h6 : d.kind = 6) (hl : d.keys.length = d.kids.length) (hb : ∀ t ∈ d.kids, InB n t) : ∀ (r k : Nat), k + r = d.kids.length -> ∀ (i : Nat) (L rest : List LineD) (m deep fuel : Nat),
  LnR i (W4 (Vs (lnT n) d) k r) L -> Stop i rest -> (∀ t ∈ d.kids, deep + 1 + Jw n t <= 9) -> m + QZ (Jl n) (d.kids.drop k) <= 300 -> 3 * Qh (L ++ rest) + 2 <= fuel ->
  Jn fuel (.pairs i deep (d.keys.take k) (d.kids.take k)) (L ++ rest) m = .good (QD d.keys d.kids) rest (m + QZ (Jl n) (d.kids.drop k)) := by
 intro r;induction r with
 | zero =>
  intro k hk i L rest m deep fuel hL hs _ _ hf;obtain rfl := hL.nil;obtain ⟨f, rfl⟩ : ∃ f, fuel = f + 1 := ⟨fuel - 1, by omega⟩
  rw [List.take_of_length_le (by omega), List.take_of_length_le (by omega), List.drop_of_length_le (by omega), List.nil_append];cases rest with
  | nil => rfl
  | cons y rest =>
   have := hs y rfl;rw [Jn, if_pos (.inl (by omega))];rfl
 | succ r ih =>
  intro k hk i L rest m deep fuel hL hs hd hm hf;obtain ⟨f, rfl⟩ : ∃ f, fuel = f + 1 := ⟨fuel - 1, by omega⟩
  obtain ⟨t, ht⟩ := Jg (show k < d.kids.length by omega);obtain ⟨key, hkey, hstr⟩ := Jgs h hl (show k < d.kids.length by omega);have htm := List.mem_of_getElem? ht;have hst := J6 h ht;have hnt := hn.2 t htm;have hdp := JcW hst;have hdt := hd t htm
  have hsz : QZ (Jl n) (d.kids.drop k) = Jl n t + QZ (Jl n) (d.kids.drop (k + 1)) := by
   rw [Jez ht];simp [QZ]
  have hlk : ∀ x ∈ d.keys.take k, JU x key = true := fun x hx => by
   obtain ⟨j, hj⟩ := List.getElem?_of_mem hx;rw [List.getElem?_take] at hj;split at hj
   ·exact Jkg h k j x key (by omega) hj hkey
   cases hj
  have hpk : Qy (d.keys.take k) key = (d.keys.take k).length := JiA hlk;have hkl : (d.keys.take k).length = k := by rw [List.length_take]; omega
  have hll : (d.kids.take k).length = k := by rw [List.length_take]; omega
  have hi1 : J3 (d.keys.take k) k key = d.keys.take (k + 1) := by
   have := Jdt (d.keys.take k) key;rw [hkl] at this;rw [this, <- YH hkey]
  have hi2 : J3 (d.kids.take k) k t = d.kids.take (k + 1) := by
   have := Jdt (d.kids.take k) t;rw [hll] at this;rw [this, <- YH ht]
  have h400 : ¬ 400 < key.size := by have := (XC hstr).2; omega
  rw [Q0] at hL;obtain ⟨La, Lb, rfl, hLa, hLb⟩ := hL.app
  have hnext : Stop (i + 2) (Lb ++ rest) := by
   intro z hz;cases r with
   | zero =>
    obtain rfl := hLb.nil;have := hs z hz;omega
   | succ r =>
    rw [Q0] at hLb;obtain ⟨u, hu⟩ := Jg (show k + 1 < d.kids.length by omega);obtain ⟨x2, q2, hx2⟩ := (Jgv h hn hu (Xl n u (J6 h hu) (hn.2 u (List.mem_of_getElem? hu)))).1;rw [hx2, List.cons_append] at hLb;obtain ⟨y2, Lb', rfl, hy3, -, -⟩ := hLb.cons;simp at hz;subst hz;simp only at hy3;omega
  have hgo : ∀ (fu : Nat), 3 * Qh (Lb ++ rest) + 2 <= fu -> Jn fu (.pairs i deep (J3 (d.keys.take k) (Qy (d.keys.take k) key) key) (J3 (d.kids.take k) (Qy (d.keys.take k) key) t)) (Lb ++ rest) (m + Jl n t) = .good (QD d.keys d.kids) rest (m + QZ (Jl n) (d.kids.drop k)) := fun fu hfu => by
   rw [hpk, hkl, hi1, hi2, ih (k + 1) (by omega) i Lb rest (m + Jl n t) deep fu hLb hs hd (by omega) hfu, hsz, Nat.add_assoc]
  by_cases hkt : t.kids = []
  ·obtain ⟨n', rfl⟩ : ∃ n', n = n' + 1 := by
    cases n with
    | zero => cases hst
    | succ n' => exact ⟨n', rfl⟩
   have hsc := Xd hst hnt hkt
   have hkn : Vs (lnT (n' + 1)) d k = [(0, (Js key).data.toList ++ [58, 32] ++ (Jx t).data.toList)] := by
    unfold Vs;rw [ht];simp only;rw [if_pos h6, hkey];simp only;rw [if_pos hkt]
   rw [hkn] at hLa;obtain ⟨y, La', rfl, hy1, hy2, hLa'⟩ := hLa.cons;obtain rfl := hLa'.nil;have hyt : y.text = bs ((Js key).data.toList ++ 58 :: (32 :: (Jx t).data.toList)) := by rw [hy2]; simp
   obtain ⟨g1, g2⟩ := XB hstr (R := 32 :: (Jx t).data.toList) (.inr ⟨_, hsc.tx, rfl⟩);have hrest : bs ((32 :: (Jx t).data.toList).drop 1) = Jx t := by show bs (Jx t).data.toList = _; exact Jd7 _
   rw [hrest] at g1
   have hpos : (Jx t).size ≠ 0 := by
    have h9 := List.length_pos_iff.2 hsc.tx.ne;rw [Yn] at h9;omega
   have hone : Jl (n' + 1) t = 1 := by rw [JJ, hkt]; rfl
   rw [List.cons_append, List.nil_append, List.cons_append, Jn, hyt, g2, if_neg (by simpa using hy1), g1];simp only;rw [if_neg h400, if_neg (by rw [Xq hlk]; decide), if_neg hpos, JbB (by omega) (by omega), hsc.scal];simp only
   have := hgo f (by
    rw [List.cons_append, List.cons_append, VZ, List.nil_append] at hf
    omega)
   rw [hone] at this;exact this
  have hkn : Vs (lnT n) d k = (0, (Js key).data.toList ++ [58]) :: (lnT n t).map sh := by
   unfold Vs;rw [ht];simp only;rw [if_pos h6, hkey];simp only;rw [if_neg hkt]
  rw [hkn] at hLa;obtain ⟨y, La', rfl, hy1, hy2, hLa'⟩ := hLa.cons;obtain ⟨g1, g2⟩ := XB hstr (R := []) (.inl rfl);have hyt : y.text = bs ((Js key).data.toList ++ 58 :: []) := hy2;obtain ⟨x, q, hx⟩ := (Xl n t hst hnt).hd;have hLs := hLa'.sh
  obtain ⟨z, Lz, hz, hz1, -, -⟩ : ∃ z Lz, La' = z :: Lz /\ z.ind = i + 2 + 0 /\ z.text = bs x /\ LnR (i + 2) q Lz := by
   have h9 := hLs;rw [hx] at h9;exact h9.cons
  obtain ⟨f2, rfl⟩ : ∃ f2, f = f2 + 1 := ⟨f - 1, by
   rw [List.cons_append, List.cons_append, VZ] at hf
   omega⟩
  have hfc : 3 * Qh (La' ++ (Lb ++ rest)) + 9 + 2 <= f2 + 1 + 1 := by
   rw [List.cons_append, List.cons_append, VZ, List.append_assoc] at hf;omega
  have hv := hb t htm (i + 2) La' (Lb ++ rest) m (deep + 1) f2 hLs hnext hdt (by omega) (by omega)
  have hbelow : Jn (f2 + 1) (.below i (deep + 1) y.at') (La' ++ (Lb ++ rest)) m = .good t (Lb ++ rest) (m + Jl n t) := by
   rw [hz];show (if decide (i < z.ind) = true then Jn f2 (.value (deep + 1)) ((z :: Lz) ++ (Lb ++ rest)) m else _) = _
   rw [if_pos (by rw [decide_eq_true_eq]; omega), <- hz, hv]
  rw [List.cons_append, List.cons_append, Jn, hyt, g2, if_neg (by simpa using hy1), g1];simp only;rw [if_neg h400, if_neg (by rw [Xq hlk]; decide), if_pos (show (bs (([] : List UInt8).drop 1)).size = 0 from rfl), List.append_assoc, hbelow];simp only
  exact hgo (f2 + 1) (by
   rw [Jde] at hfc
   omega)
theorem JhX : ∀ (n : Nat) (d : TreeD), Ju n d = true -> ZS n d -> InB n d
 | 0, _, h, _ => by cases h
 | n + 1, d, h, hn => by
  intro i L rest m deep fuel hL hs hd hm hf;obtain ⟨f, rfl⟩ : ∃ f, fuel = f + 1 := ⟨fuel - 1, by omega⟩
  have hdp := JcW h;by_cases hk : d.kids = []
  ·have hsc := Xd h hn hk
   have hone : Jl (n + 1) d = 1 := by rw [JJ, hk]; rfl
   rw [U3 hk] at hL;obtain ⟨y, L', rfl, hy1, hy2, hL'⟩ := hL.cons;obtain rfl := hL'.nil;have hyt : y.text = Jx d := by rw [hy2]; exact Jd7 _
   rw [List.cons_append, List.nil_append, Jn, hyt, JbB (by omega) (by omega)];simp only;rw [hsc.item, hsc.key, hsc.scal, hone];rfl
  have hb : ∀ t ∈ d.kids, InB n t := fun t ht => by
   obtain ⟨j, hj⟩ := List.getElem?_of_mem ht;exact JhX n t (J6 h hj) (hn.2 t ht)
  have hdk : ∀ t ∈ d.kids, deep + 1 + Jw n t <= 9 := fun t ht => by
   obtain ⟨j, hj⟩ := List.getElem?_of_mem ht;have := (Vq (n := n) hj).2;omega
  have hpos : 0 < d.kids.length := List.length_pos_iff.2 hk;have hsz : Jl (n + 1) d = 1 + QZ (Jl n) d.kids := rfl;have hlo := Xl (n + 1) d h hn;obtain ⟨x, q, hx⟩ := hlo.hd;have hL0 := hL;rw [hx] at hL;obtain ⟨y, L', rfl, hy1, hy2, -⟩ := hL.cons;have hyi : y.ind = i := hy1;rw [UO hk] at hL0
  have h0k : Vs (lnT n) d 0 ++ W4 (Vs (lnT n) d) 1 (d.kids.length - 1) = (0, x) :: q := by
   rw [<- hx, UO hk];obtain ⟨z, hz⟩ : ∃ z, d.kids.length = z + 1 := ⟨d.kids.length - 1, by omega⟩
   rw [hz, Q0];rfl
  obtain ⟨t, ht⟩ := Jg hpos;have htk := Xl n t (J6 h ht) (hn.2 t (List.mem_of_getElem? ht));rw [List.cons_append, Jn, JbB (by omega) (by omega)];simp only;rcases Jbh h hk with h5 | ⟨h6, hl⟩
  ·have hit : (Jy y.text).isSome = true := by
    obtain ⟨x2, q2, hx2⟩ := htk.hd
    have hkl : Vs (lnT n) d 0 = (0, [45, 32] ++ x2) :: q2.map sh := by
     unfold Vs;rw [ht];simp only;rw [if_neg (by omega), hx2]
    rw [hkl, List.cons_append, List.cons.injEq, Prod.mk.injEq] at h0k;rw [hy2, <- h0k.1.2, Jdr (htk.tx (0, x2) (by rw [hx2]; simp))];rfl
   rw [if_pos hit, hyi];have := Jli h hn h5 hb d.kids.length 0 (by omega) i (y :: L') rest (m + 1) deep f hL0 hs hdk (by rw [List.drop_zero]; omega) (by omega);rw [List.take_zero, List.drop_zero, List.cons_append] at this;rw [this, hsz]
   have he : JY d.kids = d := by
    obtain ⟨h1, -, -, -, -⟩ := JZ h;obtain ⟨-, p2, p3, p4, p5, -⟩ := Wh h1;obtain ⟨kind, flag, num, text, keys, kids⟩ := d;simp only at *;subst h5;rw [p2 (by decide), p3 (by decide), p4 (by decide), p5 (by decide)];rfl
   rw [he, Nat.add_assoc]
  obtain ⟨key, hkey, hstr⟩ := Jgs h hl hpos
  have hkl : (Jy y.text).isSome = false /\ (Qq y.text).isSome = true := by
   unfold Vs at h0k;rw [ht] at h0k;simp only at h0k;rw [if_pos h6, hkey] at h0k;simp only at h0k;by_cases hkt : t.kids = []
   ·have hst := J6 h ht
    have hnt := hn.2 t (List.mem_of_getElem? ht)
    obtain ⟨n', rfl⟩ : ∃ n', n = n' + 1 := by
     cases n with
     | zero => cases hst
     | succ n' => exact ⟨n', rfl⟩
    have hsc := Xd hst hnt hkt;rw [if_pos hkt, List.cons_append, List.cons.injEq, Prod.mk.injEq] at h0k;obtain ⟨g1, g2⟩ := XB hstr (R := 32 :: (Jx t).data.toList) (.inr ⟨_, hsc.tx, rfl⟩);have hyt : y.text = bs ((Js key).data.toList ++ 58 :: (32 :: (Jx t).data.toList)) := by rw [hy2, <- h0k.1.2]; simp
    rw [hyt, g1, g2];exact ⟨rfl, rfl⟩
   rw [if_neg hkt, List.cons_append, List.cons.injEq, Prod.mk.injEq] at h0k;obtain ⟨g1, g2⟩ := XB hstr (R := []) (.inl rfl);have hyt : y.text = bs ((Js key).data.toList ++ 58 :: []) := by rw [hy2, <- h0k.1.2]
   rw [hyt, g1, g2];exact ⟨rfl, rfl⟩
  rw [if_neg (by rw [hkl.1]; decide), if_pos hkl.2, hyi];have := JkH h hn h6 hl hb d.kids.length 0 (by omega) i (y :: L') rest (m + 1) deep f hL0 hs hdk (by rw [List.drop_zero]; omega) (by omega);rw [List.take_zero, List.take_zero, List.drop_zero, List.cons_append] at this;rw [this, hsz]
  have he : QD d.keys d.kids = d := by
   obtain ⟨h1, -, -, -, -⟩ := JZ h;obtain ⟨-, p2, p3, p4, -, -⟩ := Wh h1;obtain ⟨kind, flag, num, text, keys, kids⟩ := d;simp only at *;subst h6;rw [p2 (by decide), p3 (by decide), p4 (by decide)];rfl
  rw [he, Nat.add_assoc]
theorem JeY : ∀ (x acc r : List UInt8), (10 : UInt8) ∉ x -> QH acc (x ++ 10 :: r) = (acc ++ x) :: QH [] r
 | [], acc, r, _ => by simp [QH]
 | c :: x, acc, r, h => by
  have hc : ¬ c = 10 := fun e => h (by rw [e]; simp)
  rw [List.cons_append, QH, if_neg hc, JeY x (acc ++ [c]) r (fun hm => h (by simp [hm]))];simp
theorem Jdi : ∀ (L : List (List UInt8)) (z : List UInt8), (∀ x ∈ L, (10 : UInt8) ∉ x) -> QH [] (textL L ++ z) = L ++ QH [] z
 | [], z, _ => rfl
 | x :: L, z, h => by
  have e : textL (x :: L) ++ z = x ++ 10 :: (textL L ++ z) := by unfold textL; simp
  rw [e, JeY x [] _ (h x (by simp)), List.nil_append, Jdi L z (fun y hy => h y (by simp [hy]))];rfl
def VS : Nat -> List (List UInt8) -> List LineD
 | _, [] => []
 | k, l :: P => Zr (k + 1) l ++ VS (k + 1) P
theorem ZX : ∀ (a : List (List UInt8)) (k : Nat) (b : List (List UInt8)), VS k (a ++ b) = VS k a ++ VS (k + a.length) b
 | [], k, b => rfl
 | l :: a, k, b => by
  rw [List.cons_append, VS, VS, ZX a (k + 1) b, List.length_cons, List.append_assoc, show k + 1 + a.length = k + (a.length + 1) by omega]
theorem JeU (P : List (List UInt8)) : ∀ n, n <= P.length -> Zz P n = VS 0 (P.take n)
 | 0, _ => rfl
 | n + 1, h => by
  obtain ⟨l, hl⟩ := Jg (show n < P.length by omega);rw [Zz, JeU P n (by omega), hl, YH hl, ZX, List.length_take, Nat.min_eq_left (by omega), Nat.zero_add];simp [VS]
theorem WU : ∀ (P : List (List UInt8)) (k : Nat), (∀ x ∈ P, JK x = []) -> VS k P = []
 | [], _, _ => rfl
 | x :: P, k, h => by
  rw [VS, WU P (k + 1) (fun y hy => h y (by simp [hy]))];unfold Zr;rw [if_pos (h x (by simp))];rfl
theorem XE : ∀ (ps : List Ln) (k : Nat), (∀ p ∈ ps, TxOk p.2) -> LnR 0 ps (VS k (ps.map Qw))
 | [], _, _ => rfl
 | p :: ps, k, h => by
  have ih := XE ps (k + 1) (fun q hq => h q (by simp [hq]));have hl := (JbL (i := p.1) (h p (by simp)) (k + 1)).1;unfold LnR at ih ⊢;rw [List.map_cons, VS, show Qw p = Qw (p.1, p.2) from rfl, hl, List.map_append, ih];simp
def Jj6 (x : List UInt8) : Prop := JK x = [] /\ Zf x = false
theorem JeA {s : ByteArray} {P Q : List (List UInt8)} {ps : List Ln} (hcut : QH [] s.data.toList = P ++ (ps.map Qw ++ Q)) (hf : QN s = Jv) (hP : ∀ x ∈ P, Jj6 x) (hQ : ∀ x ∈ Q, Jj6 x) (hps : ∀ p ∈ ps, TxOk p.2) :
  ∃ L, JM s = (L, Jv) /\ LnR 0 ps L := by
 refine ⟨VS P.length (ps.map Qw), ?_, XE ps _ hps⟩
 have hidx : (P ++ (ps.map Qw ++ Q)).findIdx? Zf = none := by
  rw [List.findIdx?_eq_none_iff];intro x hx;simp only [List.mem_append, List.mem_map] at hx;rcases hx with hx | ⟨p, hp, rfl⟩ | hx
  ·exact (hP x hx).2
  ·exact (JbL (i := p.1) (hps p hp) 0).2.1
  exact (hQ x hx).2
 unfold JM;rw [hf, if_neg (by decide), hcut, hidx];simp only;rw [JeU _ _ (Nat.le_refl _), List.take_length, ZX, ZX, WU P 0 (fun x hx => (hP x hx).1), WU Q _ (fun x hx => (hQ x hx).1), List.append_nil, List.nil_append, Nat.zero_add]
theorem JfR {n : Nat} {d : TreeD} {s : ByteArray} {P Q : List (List UInt8)} (h : Uu n d = true) (hn : ZS n d) (hcut : QH [] s.data.toList = P ++ (Jt n d ++ Q)) (hf : QN s = Jv) (hP : ∀ x ∈ P, Jj6 x) (hQ : ∀ x ∈ Q, Jj6 x) : JD s = (Jv, d) := by
 obtain ⟨h3, hsh⟩ := V8 h;have h8 := Jj3 h;have hlo := Xl n d hsh hn;rw [hlo.lines] at hcut;obtain ⟨L, hL, hR⟩ := JeA hcut hf hP hQ hlo.tx;obtain ⟨x, q, hx⟩ := hlo.hd;have hR0 := hR;rw [hx] at hR;obtain ⟨y, L', rfl, hy1, hy2, -⟩ := hR.cons;have hb := JhX n d hsh hn 0 (y :: L') [] 0 1 (3 * Qh (y :: L') + 3) hR0 (fun z hz => by cases hz) (by omega) (by omega) (by rw [List.append_nil]; omega)
 rw [List.append_nil] at hb;have hy0 : y.ind = 0 := hy1;unfold JD;rw [hL];simp only;rw [if_neg (show ¬ Jv.code ≠ 0 by decide)];rw [if_neg (show ¬ y.ind ≠ 0 by omega), hb]
theorem Jf8 {n : Nat} {d : TreeD} (h : Ju n d = true) (hn : ZS n d) : ∀ x ∈ Jt n d, (10 : UInt8) ∉ x /\ VU x := by
 have hlo := Xl n d h hn;rw [hlo.lines];intro x hx;obtain ⟨p, hp, rfl⟩ := List.mem_map.1 hx;have := JbL (i := p.1) (hlo.tx p hp) 0;exact ⟨this.2.2.2, this.2.2.1⟩
theorem VU.textL : ∀ {L : List (List UInt8)}, (∀ x ∈ L, VU x) -> VU (textL L)
 | [], _ => VU.nil
 | x :: L, h => by
  have e : Go.Proofs.YtohcpifekcehjaaGreatDoor.textL (x :: L) = (x ++ [10]) ++ Go.Proofs.YtohcpifekcehjaaGreatDoor.textL L := by unfold Go.Proofs.YtohcpifekcehjaaGreatDoor.textL; simp
  rw [e];exact VU.app (VU.app (h x (by simp)) (VU.low (by simp))) (VU.textL (fun y hy => h y (by simp [hy])))
def Jmu : List UInt8 := [35, 32, 115, 97, 105, 100, 10, 10]
def Jmt : List UInt8 := [32, 32, 32, 35, 32, 115, 97, 105, 100, 10]
theorem Jme : Jj6 [] := ⟨by kernel_rfl, by kernel_rfl⟩
theorem JeI {n : Nat} {d : TreeD} (h : Uu n d = true) (hn : ZS n d) (hl : (textL (Jt n d)).length <= 20000) : JD (bs (textL (Jt n d))) = (Jv, d) := by
 have hsh := (V8 h).2;have hlo := Jf8 hsh hn;refine JfR (P := []) (Q := [[]]) h hn ?_ (Jgy (VU.textL (fun x hx => (hlo x hx).2)) hl) (fun x hx => by cases hx) (fun x hx => ?_)
 ·rw [toL]
  have := Jdi (Jt n d) [] (fun x hx => (hlo x hx).1);rw [List.append_nil] at this;rw [this];rfl
 simp at hx;subst hx;exact Jme
theorem JeG : JD ⟨#[]⟩ = (⟨4, 1, ⟨#[]⟩⟩, Xy) := by kernel_rfl
def nlB : Nat -> Nat
 | 0 => 0
 | 1 => 1
 | k + 2 => 4 * (1 + nlB (k + 1))
def tlB : Nat -> Nat
 | 0 => 0
 | 1 => 123
 | k + 2 => 4 * (125 + tlB (k + 1) + 2 * nlB (k + 1))
theorem JcI (a b : List (List UInt8)) : (textL (a ++ b)).length = (textL a).length + (textL b).length := by unfold textL; rw [List.flatMap_append, List.length_append]
theorem VB (x : List UInt8) (b : List (List UInt8)) : (textL (x :: b)).length = x.length + 1 + (textL b).length := by unfold textL; simp; omega
theorem UA : ∀ b : List (List UInt8), (textL (Qp b)).length = (textL b).length + 2 * b.length
 | [] => rfl
 | x :: b => by
  have := UA b;show (textL (([32, 32] ++ x) :: Qp b)).length = _
  rw [VB, VB, this];simp;omega
theorem Jlv (k : Nat) : 1 <= nlB (k + 1) := by cases k <;> (unfold nlB; omega)
theorem Jhg (k : Nat) : 123 <= tlB (k + 1) := by cases k <;> (unfold tlB; omega)
theorem Jdm (b : List (List UInt8)) : (Qp b).length = b.length := List.length_map _
theorem JeQ {n : Nat} {d : TreeD} (_h : Ju (n + 1) d = true) (hn : ZS (n + 1) d) (hw : WordOk d.text) : (Jx d).data.toList.length <= 122 := by
 have hkey : ∀ {s : ByteArray}, WordOk s -> (Js s).data.toList.length <= 122 := fun {s} hs => by
  unfold Js;split
  ·rw [Yn]
   have := hs.2;omega
  exact hs.quote
 unfold Jx;split
 ·exact hkey hw
 split
 ·decide
 split
 ·decide
 split
 ·decide
 split
 ·split <;> decide
 ·exact Nat.le_trans (Nat.le_of_eq Array.length_toList) (Nat.le_trans (ZL _ hn.1) (by decide))
theorem Jlj {s : ByteArray} (hs : WordOk s) : (Js s).data.toList.length <= 122 := by
 unfold Js;split
 ·rw [Yn]
  have := hs.2;omega
 exact hs.quote
theorem JfL {g : Nat -> List (List UInt8)} {a b : Nat} : ∀ n, (∀ i, i < n -> (g i).length <= a /\ (textL (g i)).length <= b) -> (Qj g n).length <= n * a /\ (textL (Qj g n)).length <= n * b
 | 0, _ => ⟨Nat.zero_le _, Nat.zero_le _⟩
 | n + 1, h => by
  have h1 := JfL n (fun i hi => h i (by omega));have h2 := h n (by omega);rw [Qj, List.length_append, JcI, Nat.add_mul, Nat.add_mul];omega
theorem UF : ∀ (k : Nat) (d : TreeD), Ju k d = true -> ZS k d -> Jkw k d -> (Jt k d).length <= nlB k /\ (textL (Jt k d)).length <= tlB k
 | 0, _, h, _, _ => by cases h
 | k + 1, d, h, hn, ⟨w1, w2, w3, w4⟩ => by
  by_cases hk : d.kids = []
  ·have := JeQ h hn w1
   rw [Jt, if_pos hk, VB];have h1 := Jlv k;have h2 := Jhg k;have h3 : (textL []).length = 0 := rfl;exact ⟨h1, by omega⟩
  cases k with
  | zero =>
   obtain ⟨t, ht⟩ := Jg (List.length_pos_iff.2 hk);exact absurd (w4 t (List.mem_of_getElem? ht)) (fun e => e)
  | succ k =>
   rw [Jt, if_neg hk]
   have hm := JfL (g := J2 (Jt (k + 1)) d) (a := 1 + nlB (k + 1)) (b := 125 + tlB (k + 1) + 2 * nlB (k + 1)) d.kids.length (fun i hi => by
    obtain ⟨t, ht⟩ := Jg hi;have htm := List.mem_of_getElem? ht;have ih := UF (k + 1) t (J6 h ht) (hn.2 t htm) (w4 t htm);unfold J2;rw [ht];simp only;split
    ·rcases hkk : d.keys[i]? with _ | key
     ·exact ⟨Nat.zero_le _, Nat.zero_le _⟩
     have h122 := Jlj (w2 key (List.mem_of_getElem? hkk));simp only;split
     ·rename_i hkt
      have hs := JeQ (J6 h ht) (hn.2 t htm) (w4 t htm).1;have hp := Jhg k;rw [Jt, if_pos hkt, VB];have h3 : (textL []).length = 0 := rfl;simp only [List.headD_cons, List.length_append, List.length_cons, List.length_nil];exact ⟨by omega, by omega⟩
     rw [VB, UA, List.length_cons, Jdm];simp only [List.length_append, List.length_cons, List.length_nil];exact ⟨by omega, by omega⟩
    rcases hlt : Jt (k + 1) t with _ | ⟨x, r⟩
    ·exact ⟨Nat.zero_le _, Nat.zero_le _⟩
    rw [hlt, VB, List.length_cons] at ih;simp only;rw [VB, UA, List.length_cons, Jdm];simp only [List.length_append, List.length_cons, List.length_nil]
    exact ⟨by omega, by omega⟩)
   have q1 : d.kids.length * (1 + nlB (k + 1)) <= 4 * (1 + nlB (k + 1)) := Nat.mul_le_mul_right _ w3;have q2 : d.kids.length * (125 + tlB (k + 1) + 2 * nlB (k + 1)) <= 4 * (125 + tlB (k + 1) + 2 * nlB (k + 1)) := Nat.mul_le_mul_right _ w3;exact ⟨Nat.le_trans hm.1 q1, Nat.le_trans hm.2 q2⟩
theorem Drawn.lines {d : TreeD} (h : Drawn 4 d) : (textL (Jt 4 d)).length <= 19044 := (UF 4 d h.shape h.num h.word).2
theorem Jhb {y : Int} (h0 : 0 <= y) (h1 : y <= 255) : ∃ b : UInt8, y = (b.toNat : Int) := ⟨UInt8.ofNat y.toNat, by rw [UInt8.toNat_ofNat']; omega⟩
theorem Jd4 {w : World} {g n m o : Nat} {cs : Array Value} {e : TypeId} (h : w.heap[g]? = some (.cells cs e (n, m))) (ho : o < n) : w.frozen? ⟨g, o, none⟩ = false := by
 unfold World.frozen?;have e : decide (n <= o) = false := JmF (by omega);simp only [h, e, Bool.false_and]
theorem JeH (code : List UInt8) (p : Nat) (s : ByteArray) (w : World) (h : CurAt code p w) (hs : s.size <= 100000) :
  Calls Tryz.prog 166 #[.pointer (some ⟨p, 0, none⟩), .string s] w fun e w' => ∃ t : ByteArray, e = .returned (.string t) /\ t.size <= s.size + 1 /\ Dr code p w w' := by
 have hpl := h.lt;have kc := fun (w : World) (s : ByteArray) => Lib.run_convert_string_bytes (P := Tryz.prog) w 9 28 5 s (u := .string) Tryz.underlying9 Tryz.underlying28 Tryz.underlying5
 rcases Nat.eq_zero_or_pos s.size with h0 | h0
 ·have h0i : ((s.size : Int) == 0) = true := beq_iff_eq.2 (by omega)
  have H := hid h;clear h0 kc;go_enter Tryz.func166, Tryz.ntmps166
  go_wp2_with fail
  go_ret
  exact ⟨_, rfl, (by show 1 <= s.size + 1; omega), Dr.refl H.out⟩
 have h0i : ((s.size : Int) == 0) = false := JmH (by omega);have H := hid h;clear h;go_enter Tryz.func166, Tryz.ntmps166
 go_wp2_with fail
 obtain ⟨W, hW⟩ : ∃ W, W = bytesWorld w 5 s := ⟨_, rfl⟩
 rw [<- hW];have hB : ∀ t, t < s.size -> W.cell? ⟨w.heap.size, t, none⟩ = some (.int .u8 (s.data.toList.getD t 0).toNat) := fun t ht => by rw [hW]; exact Lib.bytesWorld_cell w 5 s t ht
 have hrow : ∃ cs m, W.heap[w.heap.size]? = some (.cells cs 5 (cs.size, m)) /\ s.size <= cs.size := ⟨_, _, by rw [hW]; exact Lib.bytesWorld_at_new w 5 s, by unfold bytesCells; simp⟩
 obtain ⟨cs, mm, hrow, hcz⟩ := hrow;have hbw : Below w.heap.size w W := by rw [hW]; exact ⟨rfl, rfl, rfl, by rw [Lib.bytesWorld_size]; omega, fun j hj => Lib.bytesWorld_at_old w 5 s j hj⟩
 have hl := Ja hrow;have HR := hid hrow;have HBt := hid hB;have H1 := hid ((Dr.refl H.out).step hbw);obtain ⟨g, hg⟩ : ∃ g, g = w.heap.size := ⟨_, rfl⟩
 obtain ⟨cp, hcp⟩ : ∃ cp, cp = grownCap w s.size 0 5 := ⟨_, rfl⟩
 rw [<- hg, <- hcp];rw [<- hg] at HBt hl HR;have hgp : g ≠ p := by omega
 have hgw : w.heap.size <= g := by omega
 clear hW hB hcp kc hrow hbw hg;refine (JC code p s.size _ H1.out.cur (by omega)).mono ?_;rintro e w2 ⟨k0, rfl, hk0, hk1, -, hd2⟩;obtain ⟨k, rfl⟩ : ∃ k : Nat, k0 = k := ⟨k0.toNat, by omega⟩
 have hk : k < s.size := by have := hk1 (by omega); omega
 have H2 := hid (H1.out.trans hd2);have D2 := hid hd2;clear hd2 hk1;go_wp2_with fail
 refine (JC code p 4 _ H2.out.cur (by omega)).mono ?_;rintro e w3 ⟨x, rfl, hx0, hx1, -, hd3⟩;have H3 := hid (H2.out.trans hd3);have D3 := hid (D2.out.trans hd3);have hx2 := hx1 (by decide);clear hd3 hx1;have hxx : x = 0 ∨ x = 1 ∨ 2 <= x := by omega
 rcases hxx with q0 | q1 | q2
 ·subst q0
  clear hx0 hx2;go_wp2_with fail
  go_ret
  exact ⟨_, rfl, by simp; omega, H3.out⟩
 ·subst q1
  clear hx0 hx2;go_wp2_with fail
  refine (Ya code p _ H3.out.cur).mono ?_;rintro e w4 ⟨y, rfl, hy0, hy1, hd4⟩;obtain ⟨b, rfl⟩ := Jhb hy0 hy1;have H4 := hid (H3.out.trans hd4);have kb := JbT w4 [b] 1 rfl #[.int .u8 (b.toNat : Int)] rfl w4.heap.size rfl;clear hd4;go_wp2_with fail
  go_ret
  exact ⟨_, rfl, by rw [ByteArray.size_append]; exact Nat.le_refl _, H4.out.alloc _⟩
 have f0 : (x == 0) = false := JmH (by omega);have f1 : (x == 1) = false := JmH (by omega);clear hx0 hx2 q2;go_wp2_with fail
 refine (Ya code p _ H3.out.cur).mono ?_;rintro e w4 ⟨y, rfl, hy0, hy1, hd4⟩;obtain ⟨b, rfl⟩ := Jhb hy0 hy1;have H4 := hid (H3.out.trans hd4);have D4 := hid (D3.out.trans hd4);have hrow4 := (D4.out.block (g := g) hl hgp).trans HR.out;have hfz := Jd4 hrow4 (o := k) (by omega);have hl4 := Ja hrow4;have hck : w4.cell? ⟨g, k, none⟩ = some (.int .u8 (s.data.toList.getD k 0).toNat) := (D4.out.cell (o := k) hl hgp).trans (HBt.out k hk)
 have hkc0 : (0 : Int) <= k := by omega
 have hkc1 : (k : Int) < s.size := by omega
 have hkb : (convert 28 9 (.slice (some ⟨g, 0, none⟩) s.size cp)).run Tryz.prog (w4.setCell ⟨g, k, none⟩ (.int .u8 (b.toNat : Int))) = .ok (.string ⟨(s.data.toList.set k b).toArray⟩) (w4.setCell ⟨g, k, none⟩ (.int .u8 (b.toNat : Int))) := by
  have hlen : s.size = (s.data.toList.set k b).length := by rw [List.length_set]; exact Array.length_toList.symm
  rw [hlen];refine run_convert_bytes_back _ 28 9 5 ⟨g, 0, none⟩ cp (s.data.toList.set k b) Tryz.underlying28 Tryz.underlying5 Tryz.underlying9 (fun j hj => ?_);have hjs : j < s.size := by rw [hlen]; exact hj
  have hjl : j < s.data.toList.length := by rw [List.length_set] at hj; exact hj
  have e2 : (⟨g, 0, none⟩ : Addr).add j = ⟨g, j, none⟩ := by unfold Addr.add; simp; try (intro h; omega)
  rw [e2];by_cases hjk : j = k
  ·subst hjk
   rw [World.cell?_setCell_same _ _ _ hck, List.getElem_set_self]
  rw [World.cell?_setCell_other _ _ _ _ (fun e => hjk (by injection e with e3 e4; exact e4.symm)), (D4.out.cell (g := g) (o := j) hl hgp).trans (HBt.out j hjs), List.getElem_set_ne (fun e => hjk e.symm), List.getD_eq_getElem?_getD, List.getElem?_eq_getElem hjl, Option.getD_some]
 clear hd4 hrow4;go_wp2_with fail
 go_ret
 exact ⟨_, rfl, (by show (s.data.toList.set k b).toArray.size <= s.size + 1; rw [List.size_toArray, List.length_set]; exact Nat.le_trans (Nat.le_of_eq Array.length_toList) (Nat.le_succ _)), H4.out.set hpl hgw _⟩
def JfK (bs : List UInt8) : Array Value := (bs.map fun b => Value.int .u8 (b.toNat : Int)).toArray
theorem Jis (n : Nat) : madeCells (Value.int .u8 0).cells (n * 1) = JfK (List.replicate n 0) := by
 rw [Nat.mul_one, JfK, List.map_replicate];apply Array.ext
 ·simp [size_madeCells]
 intro i h1 h2;simp [madeCells, Value.cells, Nat.mod_one]
theorem Jjm (bs : List UInt8) (i : Nat) (x : UInt8) : (JfK bs).setIfInBounds i (.int .u8 (x.toNat : Int)) = JfK (bs.set i x) := by
 unfold JfK;rw [List.setIfInBounds_toArray, List.map_set]
theorem Jfs {w : World} {g i : Nat} {bs : List UInt8} {t : TypeId} (h : w.heap[g]? = some (.cells (JfK bs) t (0, 0))) (hi : i < bs.length) : w.cell? ⟨g, i, none⟩ = some (.int .u8 (bs[i].toNat : Int)) := by
 rw [cell_of_row _ _ _ _ _ _ h];simp [JfK, hi]
theorem Jai (n : Nat) (x : UInt8) (w : World) (hn : n <= 100000) :
  Calls Tryz.prog 89 #[.int .i64 n, .int .u8 (x.toNat : Int)] w fun e w' => ∃ s : ByteArray, e = .returned (.string s) /\ s.size = n /\ Below w.heap.size w w' := by
 have hmk := Jce (P := Tryz.prog) (z := .int .u8 0) (size := 1) (bytes := 1) Tryz.underlying28 (by kernel_rfl) n (by omega) (by omega);rw [Jis] at hmk;go_enter Tryz.func89, Tryz.ntmps89
 go_wp2_with fail
 go_loopw [6] (fun s6 wr => ∃ (i : Nat) (bs : List UInt8), s6 = .int .i64 i /\ i <= n /\ bs.length = n /\ wr.heap[w.heap.size]? = some (.cells (JfK bs) 5 (0, 0)) /\ Below w.heap.size w wr) (fun s6 _ => n - (intOf s6).toNat)
 case atStart => exact ⟨0, _, rfl, Nat.zero_le _, List.length_replicate, heap_alloc_new _ _, Jj⟩
 case round =>
  obtain ⟨i, bs, rfl, hi, hbs, hrow, hb⟩ := hrel;have HX := hid hb;have HR := hid hrow;by_cases hlt : i < n
  ·have hltd : decide ((i : Int) < n) = true := JmG (by omega)
   have hcell := Jfs hrow (i := i) (by omega);have hfz := frozen_of_row wr w.heap.size i _ _ hrow;have hl := Ja hrow;clear hb hrow;go_wp2_with fail
   go_roundw
   case rel => exact ⟨i + 1, bs.set i x, by go_num, by omega, by rw [List.length_set]; exact hbs, by rw [<- Jjm]; exact heap_setCell_same _ _ _ _ _ _ HR.out, JaE (Nat.le_refl _) HX.out⟩
   case measure => first | omega | (simp [intOf]; omega)
  have hltd : decide ((i : Int) < n) = false := JmF (by omega)
  have hkb : (convert 28 9 (.slice (some ⟨w.heap.size, 0, none⟩) n n)).run Tryz.prog wr = .ok (.string ⟨bs.toArray⟩) wr := by
   rw [<- hbs];refine run_convert_bytes_back _ 28 9 5 ⟨w.heap.size, 0, none⟩ bs.length bs Tryz.underlying28 Tryz.underlying5 Tryz.underlying9 (fun j hj => ?_);have e2 : (⟨w.heap.size, 0, none⟩ : Addr).add j = ⟨w.heap.size, j, none⟩ := by unfold Addr.add; simp; try (intro h; omega)
   rw [e2];exact Jfs hrow hj
  clear hb hrow;go_wp2_with fail
  go_ret
  exact ⟨_, rfl, hbs, HX.out⟩
end Go.Proofs.YtohcpifekcehjaaGreatDoor
