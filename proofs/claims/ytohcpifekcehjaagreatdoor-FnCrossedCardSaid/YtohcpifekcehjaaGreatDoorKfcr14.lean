/- Steps to FnCrossed. No conditions. -/
import Derived.Test.YtohcpifekcehjaaGreatDoorKfcr5
import Derived.Test.YtohcpifekcehjaaGreatDoorKfcr11
import Derived.Test.YtohcpifekcehjaaGreatDoorKfcr10
import Derived.Test.YtohcpifekcehjaaGreatDoorKfcr7
import Derived.Test.YtohcpifekcehjaaGreatDoorKfcr8
import Derived.Test.YtohcpifekcehjaaGreatDoorKfcr12
set_option maxHeartbeats 16000000
set_option maxRecDepth 20000
namespace Go.Proofs.YtohcpifekcehjaaGreatDoor
open Go.RowKit Go.Lib
theorem toL (l : List UInt8) : (bs l).data.toList = l := by unfold bs; simp
theorem bs_toL (s : ByteArray) : bs s.data.toList = s := by unfold bs; simp
theorem bs_size (l : List UInt8) : (bs l).size = l.length := size_list l
theorem toL_size (s : ByteArray) : s.data.toList.length = s.size := Array.length_toList
theorem last_app {a b : List UInt8} (h : b ≠ []) : (a ++ b).getLast? = b.getLast? := by
 rw [List.getLast?_append];rcases hb : b.getLast? with _ | c
 ·exact absurd (List.getLast?_eq_none_iff.1 hb) h
 ·rfl
theorem byte_at {l : List UInt8} {i : Nat} {c : UInt8} (h : l[i]? = some c) : i < (bs l).size /\ byteI (bs l) i = (c.toNat : Int) := by
 have := Rd.byte (s := bs l) (j := 0) (rd_all l) i h;rw [Nat.zero_add] at this;exact this
theorem VU.drop (x : ByteArray) : ∀ (f i : Nat) (rs : List Nat), x.size - i <= f -> runesAt x i = some rs -> VU (x.data.toList.drop i) := by
 intro f;induction f with
 | zero =>
  intro i rs hf h;rw [List.drop_of_length_le (by rw [Array.length_toList]; exact (show x.size <= i by omega))];exact VU.nil
 | succ f ih =>
  intro i rs hf h;by_cases hi : i < x.size
  ·by_cases hd : Utf8.decode x i = (65533, 1)
   ·rw [runesAt_bad hi hd] at h; cases h
   ·rw [runesAt_step hi hd] at h
    have hdl := decodeL_drop x i hi;have hl : x.data.toList.length = x.size := Array.length_toList;have hfit := decode_fits x i hi;rcases hr2 : runesAt x (i + (Utf8.decode x i).2) with _ | rs'
    ·rw [hr2] at h; cases h
    ·have hs : x.data.toList.drop i = (x.data.toList.drop i).take (Utf8.decode x i).2 ++ x.data.toList.drop (i + (Utf8.decode x i).2) := by
      rw [<- List.drop_drop, List.take_append_drop]
     have hdv : decodeL (x.data.toList.drop i) ≠ (65533, 1) := by rw [hdl]; exact hd
     have ih' := ih (i + (Utf8.decode x i).2) rs' (by omega) hr2;have hru := VU.rune hdv (by rw [hdl]; exact hfit.2.1) (by rw [hdl, List.length_drop, hl]; omega);rw [hdl] at hru;rw [hs];exact VU.app hru ih'
  ·rw [List.drop_of_length_le (by rw [Array.length_toList]; exact (show x.size <= i by omega))]
   exact VU.nil
theorem VU.utf {x : ByteArray} (hx : utf8B x = true) : VU x.data.toList := by
 obtain ⟨rs, hrs⟩ := Option.isSome_iff_exists.1 (show (runesAt x 0).isSome = true from hx);have h := VU.drop x _ 0 rs (Nat.le_refl _) hrs;rw [List.drop_zero] at h;exact h
theorem trimL_self {l : List UInt8} (h : l.head? ≠ some 32) : trimLeftB l 32 = l := by
 unfold trimLeftB;cases l with
 | nil => rfl
 | cons c l =>
  have hc : (c == 32) = false := beq_eq_false_iff_ne.2 (fun e => h (by rw [e]; rfl));rw [List.dropWhile_cons, hc];rfl
theorem trimL_blank (l : List UInt8) : trimLeftB (32 :: l) 32 = trimLeftB l 32 := by
 unfold trimLeftB;rw [List.dropWhile_cons];rfl
theorem trimL_rep {l : List UInt8} (h : l.head? ≠ some 32) : ∀ i, trimLeftB (List.replicate i 32 ++ l) 32 = l
 | 0 => trimL_self h
 | i + 1 => by
  rw [List.replicate_succ, List.cons_append, trimL_blank, trimL_rep h i]
theorem trimR_self {l : List UInt8} (h : l.getLast? ≠ some 32) : trimRightB l 32 = l := by
 unfold trimRightB;have h2 : l.reverse.head? ≠ some 32 := by rw [List.head?_reverse]; exact h
 have h3 := trimL_self h2;unfold trimLeftB at h3;rw [h3, List.reverse_reverse]
theorem scan_plain {c : UInt8} {r : List UInt8} {f : Bool} (h1 : c ≠ 34) (h2 : c ≠ 35) : scanB f false (c :: r) = 1 + scanB (c == 32) false r := by
 have e1 : (c == 34) = false := beq_eq_false_iff_ne.2 h1;have e2 : (c == 35) = false := beq_eq_false_iff_ne.2 h2;rw [scanB, e1, e2, Bool.and_false];simp
def lastF : Bool -> List UInt8 -> Bool
 | f, [] => f
 | _, c :: a => lastF (c == 32) a
theorem scan_free : ∀ (a : List UInt8) (f : Bool) (r : List UInt8), (∀ c ∈ a, c ≠ 34 /\ c ≠ 35) -> scanB f false (a ++ r) = a.length + scanB (lastF f a) false r
 | [], f, r, _ => by simp [lastF]
 | c :: a, f, r, h => by
  have hc := h c (by simp);rw [List.cons_append, scan_plain hc.1 hc.2, scan_free a _ r (fun x hx => h x (by simp [hx])), lastF, List.length_cons];omega
theorem lastF_false : ∀ {a : List UInt8} {f : Bool}, a ≠ [] -> a.getLast? ≠ some 32 -> lastF f a = false
 | [], _, h, _ => absurd rfl h
 | [c], f, _, h => by
  simp only [lastF];exact beq_eq_false_iff_ne.2 (fun e => h (by rw [e]; rfl))
 | c :: d :: a, f, _, h => by
  rw [lastF];exact lastF_false (a := d :: a) (by simp) (by rw [List.getLast?_cons_cons] at h; exact h)
theorem scan_open (r : List UInt8) : scanB true false (34 :: r) = 1 + scanB false true r := by
 rw [scanB];rfl
theorem scan_close : ∀ r : List UInt8, scanB false true (34 :: r) = 1 + scanB false false r
 | [] => by simp [scanB]
 | d :: r => by
  rw [scanB, if_neg (by decide)];rfl
theorem scan_esc (d : UInt8) (r : List UInt8) : scanB false true (92 :: d :: r) = 2 + scanB false true r := by
 rw [scanB, if_pos rfl]
theorem scan_in {c : UInt8} {r : List UInt8} (h1 : c ≠ 34) (h2 : c ≠ 92) (hr : r ≠ []) : scanB false true (c :: r) = 1 + scanB false true r := by
 cases r with
 | nil => exact absurd rfl hr
 | cons d r =>
  rw [scanB, if_neg h2];have : (c != 34) = true := bne_iff_ne.2 h1;rw [this]
theorem fig_safe {x : Nat} (h : x < 16) : figU x ≠ 34 /\ figU x ≠ 92 /\ 32 <= (figU x).toNat := by
 have h2 := fig_nat x h;refine ⟨fun e => ?_, fun e => ?_, ?_⟩;rotate_left
 rotate_left
 ·split at h2 <;> omega
 all_goals
  rw [e] at h2;split at h2 <;> simp at h2 <;> omega
theorem scan_qB (c : UInt8) {r : List UInt8} (hr : r ≠ []) : scanB false true (qB c ++ r) = (qB c).length + scanB false true r := by
 unfold qB qN;have hlt := c.toNat_lt;repeat' split
 all_goals first
  | (simp only [List.cons_append, List.nil_append, List.length_cons, List.length_nil]; rw [scan_esc]; done)
  | skip
 ·rename_i h
  simp only [List.cons_append, List.nil_append, List.length_cons, List.length_nil];have f1 := fig_safe (x := c.toNat / 16) (by omega);have f2 := fig_safe (x := c.toNat % 16) (by omega);rw [scan_esc, scan_in (by decide) (by decide) (by simp), scan_in (by decide) (by decide) (by simp), scan_in f1.1 f1.2.1 (by simp), scan_in f2.1 f2.2.1 hr];omega
 ·rename_i h1 h2 h3 h4 h5 h6 h7
  simp only [List.cons_append, List.nil_append, List.length_cons, List.length_nil];have e : UInt8.ofNat c.toNat = c := by simp
  rw [e, scan_in (fun e => h1 (.inl (by rw [e]; rfl))) (fun e => h1 (.inr (by rw [e]; rfl))) hr]
theorem scan_flat {r : List UInt8} (hr : r ≠ []) : ∀ x : List UInt8, scanB false true (x.flatMap qB ++ r) = (x.flatMap qB).length + scanB false true r
 | [] => by simp
 | c :: x => by
  rw [List.flatMap_cons, List.append_assoc, scan_qB c (by simp [hr]), scan_flat hr x, List.length_append];omega
theorem qB_32 (c : UInt8) : ∀ y ∈ qB c, 32 <= y.toNat := by
 intro y hy;unfold qB qN at hy;have hlt := c.toNat_lt;repeat' split at hy
 all_goals (simp only [List.mem_cons, List.mem_nil_iff, or_false] at hy)
 all_goals first
  | (rcases hy with rfl | rfl | rfl | rfl | rfl | rfl <;> first | decide | exact (fig_safe (x := c.toNat / 16) (by omega)).2.2 | exact (fig_safe (x := c.toNat % 16) (by omega)).2.2)
  | (rcases hy with rfl | rfl <;> (first | decide | (rename_i h; rcases h with h | h <;> simp [h])))
  | (subst hy; simp; omega)
structure Seg (f : Bool) (a : List UInt8) (g : Bool) : Prop where
 scan : ∀ r, scanB f false (a ++ r) = a.length + scanB g false r
 low : ∀ c ∈ a, 32 <= c.toNat
 vu : VU a
theorem Seg.app {f g h : Bool} {a b : List UInt8} (x : Seg f a g) (y : Seg g b h) : Seg f (a ++ b) h :=
 ⟨fun r => by rw [List.append_assoc, x.scan, y.scan, List.length_append]; omega, fun c hc => by
  rcases List.mem_append.1 hc with hc | hc
  ·exact x.low c hc
  ·exact y.low c hc, VU.app x.vu y.vu⟩
theorem Seg.free {a : List UInt8} {f : Bool} (h : ∀ c ∈ a, c ≠ 34 /\ c ≠ 35 /\ 32 <= c.toNat) (hv : VU a) : Seg f a (lastF f a) :=
 ⟨fun r => scan_free a f r (fun c hc => ⟨(h c hc).1, (h c hc).2.1⟩), fun c hc => (h c hc).2.2, hv⟩
theorem Seg.quote {x : ByteArray} (hx : utf8B x = true) : Seg true (quoteB x).data.toList false := by
 have hq : (quoteB x).data.toList = 34 :: (x.data.toList.flatMap qB ++ [34]) := by unfold quoteB; rw [if_pos hx]; simp
 refine ⟨fun r => ?_, fun c hc => ?_, VU.quote hx⟩
 ·rw [hq, List.cons_append, scan_open, List.append_assoc, scan_flat (by simp), List.cons_append, List.nil_append, scan_close]
  simp only [List.length_cons, List.length_append, List.length_nil];omega
 ·rw [hq] at hc
  simp only [List.mem_cons, List.mem_append, List.mem_nil_iff, or_false, List.mem_flatMap] at hc;rcases hc with rfl | ⟨y, -, hy⟩ | rfl
  ·decide
  ·exact qB_32 y c hy
  ·decide
structure TxOk (x : List UInt8) : Prop where
 ne : x ≠ []
 hd : x.head? ≠ some 32
 lst : x.getLast? ≠ some 32
 seg : Seg true x false
theorem TxOk.free {a : List UInt8} (hne : a ≠ []) (h : ∀ c ∈ a, c ≠ 34 /\ c ≠ 35 /\ 32 <= c.toNat) (hd : a.head? ≠ some 32) (hl : a.getLast? ≠ some 32) (hv : VU a) : TxOk a := by
 have := Seg.free (f := true) h hv;rw [lastF_false hne hl] at this;exact ⟨hne, hd, hl, this⟩
theorem TxOk.quote {x : ByteArray} (hx : utf8B x = true) : TxOk (quoteB x).data.toList := by
 have hq : (quoteB x).data.toList = 34 :: (x.data.toList.flatMap qB ++ [34]) := by unfold quoteB; rw [if_pos hx]; simp
 refine ⟨by rw [hq]; simp, by rw [hq]; simp, ?_, Seg.quote hx⟩;rw [hq, <- List.cons_append, List.getLast?_append];simp
structure PlainF (s : ByteArray) : Prop where
 pos : 1 <= s.size
 most : s.size <= 400
 utf : utf8B s = true
 first : ∀ c ∈ firstBad, byteI s 0 ≠ (c.toNat : Int)
 hd : byteI s 0 ≠ 32
 lst : byteI s (s.size - 1) ≠ 32
 all : ∀ i, i < s.size -> plainC s i = true
 figs : figsB s = false
 nul : s ≠ bs [110, 117, 108, 108]
 til : s ≠ bs [126]
 tru : s ≠ bs [116, 114, 117, 101]
 fal : s ≠ bs [102, 97, 108, 115, 101]
theorem plain_parts {s : ByteArray} (h : plainB s = true) : PlainF s := by
 unfold plainB at h;simp only [Bool.and_eq_true, Bool.not_eq_true', decide_eq_true_eq, decide_eq_false_iff_not] at h;obtain ⟨⟨⟨⟨⟨⟨⟨⟨⟨⟨⟨h1, h2⟩, h3⟩, h4⟩, h5⟩, h6⟩, h7⟩, h8⟩, h9⟩, h10⟩, h11⟩, h12⟩ := h;refine ⟨h1, h2, h3, fun c hc => ?_, h5, h6, fun i hi => ?_, h8, h9, h10, h11, h12⟩
 ·have := List.any_eq_false.1 h4 c hc
  simpa using this
 ·unfold allR at h7
  exact List.all_eq_true.1 h7 i (List.mem_range.2 hi)
theorem PlainF.byte {s : ByteArray} (h : PlainF s) {i : Nat} (hi : i < s.size) : 32 <= byteI s i /\ byteI s i ≠ 34 /\ byteI s i ≠ 35 /\ byteI s i ≠ 92 /\ endsB s i = false := by
 have := h.all i hi;unfold plainC at this;simp only [Bool.not_eq_true', Bool.or_eq_false_iff, decide_eq_false_iff_not] at this;obtain ⟨⟨⟨⟨h1, h2⟩, h3⟩, h4⟩, h5⟩ := this;exact ⟨by omega, h2, h3, h4, h5⟩
theorem byte_toL {s : ByteArray} {i : Nat} {c : UInt8} (h : s.data.toList[i]? = some c) : i < s.size /\ byteI s i = (c.toNat : Int) := by
 have := byte_at h;rw [bs_toL] at this;exact this
theorem u8_ne {c : UInt8} {k : Nat} (h : (c.toNat : Int) ≠ (k : Int)) (hk : k < 256) : c ≠ UInt8.ofNat k := fun e => h (by rw [e]; simp; omega)
theorem TxOk.plain {s : ByteArray} (h : PlainF s) : TxOk s.data.toList := by
 have hl := toL_size s;have hp := h.pos;refine TxOk.free (fun e => by rw [e] at hl; simp at hl; omega) (fun c hc => ?_) (fun e => ?_) (fun e => ?_) (VU.utf h.utf)
 ·obtain ⟨i, hi⟩ := List.getElem?_of_mem hc
  obtain ⟨b1, b2⟩ := byte_toL hi;obtain ⟨c1, c2, c3, -, -⟩ := h.byte b1;rw [b2] at c1 c2 c3;exact ⟨u8_ne (k := 34) c2 (by decide), u8_ne (k := 35) c3 (by decide), by omega⟩
 ·rw [List.head?_eq_getElem?] at e
  exact h.hd (byte_toL e).2
 ·rw [List.getLast?_eq_getElem?, hl] at e
  exact h.lst (byte_toL e).2
theorem TxOk.key {k : ByteArray} (h : strB k = true) : TxOk (keyText k).data.toList := by
 unfold keyText;split
 ·rename_i hp
  exact TxOk.plain (plain_parts hp)
 ·exact TxOk.quote (strB_utf h).1
theorem TxOk.low {a : List UInt8} (hne : a ≠ []) (h : ∀ c ∈ a, c ≠ 34 /\ c ≠ 35 /\ 32 < c.toNat /\ c.toNat < 128) : TxOk a := by
 refine TxOk.free hne (fun c hc => ⟨(h c hc).1, (h c hc).2.1, Nat.le_of_lt (h c hc).2.2.1⟩) (fun e => ?_) (fun e => ?_) (VU.low (fun c hc => (h c hc).2.2.2))
 ·have := (h 32 (List.mem_of_mem_head? e)).2.2.1
  exact absurd this (by decide)
 ·have := (h 32 (List.mem_of_getLast? e)).2.2.1
  exact absurd this (by decide)
theorem dec_list (n : Int) : (decS n).data.toList = itoa n := by unfold decS; simp
theorem dec_bytes (n : Int) : ∀ c ∈ (decS n).data.toList, c.toNat = 45 ∨ (48 <= c.toNat /\ c.toNat <= 57) := by
 rw [dec_list];unfold itoa;split
 ·intro c hc
  rcases List.mem_cons.1 hc with rfl | hc
  ·exact .inl rfl
  ·exact .inr (dec_figs _ c hc)
 ·intro c hc
  exact .inr (dec_figs _ c hc)
theorem dec_nonempty (n : Int) : (decS n).data.toList ≠ [] := by
 rw [dec_list];unfold itoa;split
 ·simp
 ·exact dec_ne _
theorem TxOk.dec (n : Int) : TxOk (decS n).data.toList := TxOk.low (dec_nonempty n) (fun c hc => by
 have := dec_bytes n c hc
 exact ⟨fun e => by rw [e] at this; simp at this, fun e => by rw [e] at this; simp at this, by omega, by omega⟩)
theorem TxOk.item {x : List UInt8} (h : TxOk x) : TxOk ([45, 32] ++ x) := by
 refine ⟨by simp, by simp, ?_, ?_⟩
 ·rw [last_app h.ne]
  exact h.lst
 ·have h1 : Seg true [45, 32] true := by
   have := Seg.free (f := true) (a := [45, 32]) (by intro c hc; simp at hc; rcases hc with rfl | rfl <;> decide) (VU.low (by intro c hc; simp at hc; rcases hc with rfl | rfl <;> decide));exact this
  exact h1.app h.seg
theorem seg_colon : Seg false [58] false := by
 have := Seg.free (f := false) (a := [58]) (by intro c hc; simp at hc; subst hc; decide) (VU.low (by intro c hc; simp at hc; subst hc; decide));exact this
theorem seg_blank (f : Bool) : Seg f [32] true := by
 have := Seg.free (f := f) (a := [32]) (by intro c hc; simp at hc; subst hc; decide) (VU.low (by intro c hc; simp at hc; subst hc; decide));exact this
theorem TxOk.colon {x : List UInt8} (h : TxOk x) : TxOk (x ++ [58]) :=
 ⟨by simp, by
  cases x with
  | nil => exact absurd rfl h.ne
  | cons c x => exact h.hd, by rw [List.getLast?_append]; simp, h.seg.app seg_colon⟩
theorem TxOk.pair {x y : List UInt8} (h : TxOk x) (k : TxOk y) : TxOk (x ++ [58, 32] ++ y) := by
 refine ⟨by simp, ?_, ?_, ?_⟩
 ·cases x with
  | nil => exact absurd rfl h.ne
  | cons c x => exact h.hd
 ·rw [last_app k.ne]
  exact k.lst
 ·have h2 : Seg true (x ++ ([58] ++ [32])) true := h.seg.app (seg_colon.app (seg_blank false))
  exact Seg.app h2 k.seg
def render (p : Nat × List UInt8) : List UInt8 := List.replicate p.1 32 ++ p.2
theorem seg_blanks : ∀ i, Seg true (List.replicate i 32) true
 | 0 => ⟨fun r => by simp, fun c hc => by simp at hc, VU.nil⟩
 | i + 1 => by
  have := (seg_blank true).app (seg_blanks i);rw [List.replicate_succ];exact this
theorem line_okT {i : Nat} {x : List UInt8} (h : TxOk x) (k : Nat) : lineO k (render (i, x)) = [⟨i, bs x, k⟩] /\ lowB (render (i, x)) = false /\ VU (render (i, x)) /\ (10 : UInt8) ∉ render (i, x) := by
 have hs := (seg_blanks i).app h.seg
 have hb : bareL (render (i, x)) = render (i, x) := by
  unfold bareL;have h1 := hs.scan [];rw [List.append_nil] at h1;have h2 : scanB false false [] = 0 := by simp [scanB]
  rw [h2, Nat.add_zero] at h1;show trimRightB ((List.replicate i 32 ++ x).take (scanB true false (List.replicate i 32 ++ x))) 32 = _
  rw [h1, List.take_length];refine trimR_self ?_;rw [last_app h.ne];exact h.lst
 have ht : trimLeftB (render (i, x)) 32 = x := trimL_rep h.hd i;have hlow : ∀ c ∈ render (i, x), 32 <= c.toNat := hs.low
 refine ⟨?_, ?_, hs.vu, fun hm => ?_⟩
 ·unfold lineO indL
  rw [hb, if_neg (by unfold render; simp [h.ne]), ht];have : (render (i, x)).length - x.length = i := by unfold render; simp
  rw [this]
 ·unfold lowB
  rw [List.any_eq_false];intro c hc;have := hlow c hc
  simpa using this
 ·exact absurd (hlow 10 hm) (by decide)
theorem find_none {s : ByteArray} (h : ∀ i, i < s.size -> endsB s i = false) : ∀ f i, findE s f i = none
 | 0, _ => rfl
 | f + 1, i => by
  unfold findE;split
  ·rename_i hi
   rw [h i hi, if_neg (by decide), find_none h f (i + 1)]
  ·rfl
theorem find_some {s : ByteArray} {n : Nat} (hn : n < s.size) (he : endsB s n = true) (h : ∀ i, i < n -> endsB s i = false) : ∀ f i, i <= n -> n < i + f -> findE s f i = some n
 | 0, i, h1, h2 => by omega
 | f + 1, i, h1, h2 => by
  unfold findE;rw [if_pos (by omega)];rcases Nat.lt_or_ge i n with h3 | h3
  ·rw [h i h3, if_neg (by decide)]
   exact find_some hn he h f (i + 1) (by omega) (by omega)
  ·obtain rfl : i = n := by omega
   rw [he, if_pos rfl]
theorem ne_first {s : ByteArray} {c : UInt8} {r : List UInt8} (h : byteI s 0 ≠ (c.toNat : Int)) : s ≠ bs (c :: r) := fun e => h (by rw [e]; exact (byte_at (l := c :: r) (i := 0) rfl).2)
theorem item_line {x : List UInt8} (h : TxOk x) : itemB (bs ([45, 32] ++ x)) = some (bs x, 2) := by
 have hx : 0 < x.length := List.length_pos_iff.2 h.ne
 have hne : bs ([45, 32] ++ x) ≠ bs [45] := fun e => by
  have := congrArg ByteArray.size e;rw [bs_size, bs_size] at this;simp at this
 have hz : (bs ([45, 32] ++ x)).size = x.length + 2 := by rw [bs_size]; simp
 have ht : tailL (bs ([45, 32] ++ x)) 2 = bs x := by
  unfold tailL;rw [toL];show bs (trimLeftB x 32) = bs x
  rw [trimL_self h.hd]
 unfold itemB;rw [if_neg hne, if_pos ⟨by omega, (byte_at (l := [45, 32] ++ x) (i := 0) rfl).2, (byte_at (l := [45, 32] ++ x) (i := 1) rfl).2⟩, ht, hz, bs_size];congr 2
 omega
theorem item_no {s : ByteArray} (h : byteI s 0 ≠ 45) : itemB s = none := by
 unfold itemB;rw [if_neg (ne_first (c := 45) (r := []) h), if_neg (fun e => h e.2.1)]
theorem keyB_no {s : ByteArray} (h0 : byteI s 0 ≠ 34) (h : ∀ i, i < s.size -> endsB s i = false) : keyB s = none := by
 unfold keyB;rw [if_neg (fun e => h0 e.2), find_none h]
theorem plain_ends {s : ByteArray} (h : PlainF s) : ∀ i, i < s.size -> endsB s i = false := fun _ hi => (h.byte hi).2.2.2.2
theorem ends_no58 {s : ByteArray} {i : Nat} (h : byteI s i ≠ 58) : endsB s i = false := by
 unfold endsB;rw [decide_eq_false h, Bool.and_false, Bool.false_and]
def Tail (R : List UInt8) : Prop := R = [] ∨ ∃ y, TxOk y /\ R = 32 :: y
theorem Tail.trim {R : List UInt8} (h : Tail R) : trimLeftB R 32 = R.drop 1 := by
 rcases h with rfl | ⟨y, hy, rfl⟩
 ·rfl
 ·rw [trimL_blank, trimL_self hy.hd]
  rfl
theorem Tail.ends {K R : List UInt8} (h : Tail R) : endsB (bs (K ++ 58 :: R)) K.length = true := by
 have h1 := byte_at (l := K ++ 58 :: R) (i := K.length) (c := 58) (by rw [List.getElem?_append_right (Nat.le_refl _), Nat.sub_self]; rfl);have hz : (bs (K ++ 58 :: R)).size = K.length + (R.length + 1) := by rw [bs_size]; simp
 unfold endsB;rw [decide_eq_true h1.1, decide_eq_true (show byteI (bs (K ++ 58 :: R)) K.length = 58 from h1.2)];rcases h with rfl | ⟨y, hy, rfl⟩
 ·rw [decide_eq_true (by rw [hz]; simp)]
  rfl
 ·have h2 := byte_at (l := K ++ 58 :: 32 :: y) (i := K.length + 1) (c := 32) (by rw [List.getElem?_append_right (by omega)]; simp)
  rw [decide_eq_true (show byteI (bs (K ++ 58 :: 32 :: y)) (K.length + 1) = 32 from h2.2), Bool.or_true];rfl
theorem key_line {k : ByteArray} (hk : strB k = true) {R : List UInt8} (hR : Tail R) : keyB (bs ((keyText k).data.toList ++ 58 :: R)) = some (k, bs (R.drop 1)) /\ itemB (bs ((keyText k).data.toList ++ 58 :: R)) = none := by
 have hends := hR.ends (K := (keyText k).data.toList)
 have htail : ∀ K : List UInt8, tailL (bs (K ++ 58 :: R)) (K.length + 1) = bs (R.drop 1) := fun K => by
  unfold tailL;rw [toL, show K ++ 58 :: R = (K ++ [58]) ++ R by simp, show K.length + 1 = (K ++ [58]).length by simp, List.drop_left, hR.trim]
 unfold keyText at hends ⊢;by_cases hp : plainB k = true
 ·rw [if_pos hp] at hends ⊢
  have h := plain_parts hp;have hl := toL_size k;have hpos := h.pos;obtain ⟨s, hs⟩ : ∃ s, s = bs (k.data.toList ++ 58 :: R) := ⟨_, rfl⟩
  have hz : s.size = k.size + (R.length + 1) := by rw [hs, bs_size]; simp [hl]
  have hb : ∀ i, i < k.size -> byteI s i = byteI k i := fun i hi => by
   obtain ⟨c, hc⟩ := exists_at (show i < k.data.toList.length by omega);rw [(byte_toL hc).2, hs];exact (byte_at (by rw [List.getElem?_append_left (by omega)]; exact hc)).2
  have h0 := h.byte (i := 0) (by omega)
  have hbelow : ∀ i, i < k.data.toList.length -> endsB s i = false := fun i hi => by
   rw [hl] at hi;have hki := (h.byte hi).2.2.2.2;by_cases e58 : byteI s i = 58
   ·have e2 : byteI k i = 58 := by rw [<- hb i hi]; exact e58
    unfold endsB at hki;rw [decide_eq_true hi, decide_eq_true e2, Bool.true_and, Bool.true_and, Bool.or_eq_false_iff] at hki;have g1 := of_decide_eq_false hki.1;have g2 := of_decide_eq_false hki.2;unfold endsB;rw [decide_eq_false (show ¬ i + 1 = s.size by omega), decide_eq_false (show ¬ byteI s (i + 1) = 32 by rw [hb (i + 1) (by omega)]; exact g2), Bool.or_false, Bool.and_false]
   ·exact ends_no58 e58
  rw [<- hs] at hends ⊢;refine ⟨?_, item_no (by rw [hb 0 (by omega)]; exact h.first 45 (by decide))⟩;unfold keyB;rw [if_neg (fun e => h0.2.1 (by rw [<- hb 0 (by omega)]; exact e.2)), find_some (by omega) hends hbelow s.size 0 (Nat.zero_le _) (by omega)];simp only;have ht : bs (s.data.toList.take k.data.toList.length) = k := by rw [hs, toL, List.take_left, bs_toL]
  rw [ht, if_pos hp, hs, htail]
 ·rw [if_neg hp] at hends ⊢
  have hu := strB_utf hk;obtain ⟨s, hs⟩ : ∃ s, s = bs ((quoteB k).data.toList ++ 58 :: R) := ⟨_, rfl⟩
  have hrd : Rd s 0 ((quoteB k).data.toList ++ 58 :: R) := by rw [hs]; exact rd_all _
  obtain ⟨q1, q2, q3⟩ := quotB_back hu.1 hrd;rw [<- hs] at hends ⊢;refine ⟨?_, item_no (by rw [q1]; decide)⟩;unfold keyB;rw [Nat.zero_add] at q3;rw [if_pos ⟨q2, q1⟩, q3];simp only;rw [if_pos ⟨by omega, by rw [Int.toNat_natCast]; exact hends⟩, Int.toNat_natCast, hs, htail]
structure ScalOk (s : ByteArray) (d : TreeD) : Prop where
 tx : TxOk s.data.toList
 item : itemB s = none
 key : keyB s = none
 scal : scalB s = some d
theorem scal_word {l : List UInt8} {d : TreeD} (h1 : l ≠ []) (h2 : ∀ c ∈ l, c ≠ 34 /\ c ≠ 35 /\ 32 < c.toNat /\ c.toNat < 128) (h3 : itemB (bs l) = none) (h4 : keyB (bs l) = none) (h5 : scalB (bs l) = some d) : ScalOk (bs l) d := ⟨by rw [toL]; exact TxOk.low h1 h2, h3, h4, h5⟩
theorem scal_null : ScalOk (bs litN) tNull := scal_word (by decide) (by decide) (by kernel_rfl) (by kernel_rfl) (by kernel_rfl)
theorem scal_true : ScalOk (bs litT) (tFlag true) := scal_word (by decide) (by decide) (by kernel_rfl) (by kernel_rfl) (by kernel_rfl)
theorem scal_false : ScalOk (bs litF) (tFlag false) := scal_word (by decide) (by decide) (by kernel_rfl) (by kernel_rfl) (by kernel_rfl)
theorem scal_list : ScalOk (bs [91, 93]) (tList []) := scal_word (by decide) (by decide) (by kernel_rfl) (by kernel_rfl) (by kernel_rfl)
theorem scal_map : ScalOk (bs [123, 125]) (tMap [] []) := scal_word (by decide) (by decide) (by kernel_rfl) (by kernel_rfl) (by kernel_rfl)
theorem scal_intT {n : Int} (hn : I64 n) : ScalOk (decS n) (tInt n) := by
 have hrd : Rd (decS n) 0 ((decS n).data.toList ++ []) := by unfold Rd; simp
 obtain ⟨w1, w2, w3, w4, w5⟩ := whole_back hn (fun c hc => by cases hc) hrd
 have hb : ∀ i, i < (decS n).size -> byteI (decS n) i = 45 ∨ (48 <= byteI (decS n) i /\ byteI (decS n) i <= 57) := fun i hi => by
  obtain ⟨c, hc⟩ := exists_at (show i < (decS n).data.toList.length by rw [toL_size]; exact hi);have := dec_bytes n c (List.mem_of_getElem? hc);rw [(byte_toL hc).2];omega
 have h0 := hb 0 w1;have hlen := toL_size (decS n);refine ⟨TxOk.dec n, ?_, keyB_no w3 (fun i hi => ends_no58 (by have := hb i hi; omega)), ?_⟩
 ·unfold itemB
  rw [if_neg (fun e => ?_), if_neg (fun e => ?_)]
  ·have h1 := hb 1 (by omega)
   omega
  ·have h2 : (decS n).data.toList = [45] := by rw [e, toL]
   rw [dec_list] at h2;unfold itoa at h2;split at h2
   ·simp only [List.cons.injEq, true_and] at h2
    exact dec_ne _ h2
   ·have := dec_figs n.toNat 45 (by rw [h2]; simp)
    unfold figB at this;simp at this
 ·have hf : ∀ (c : UInt8) (r : List UInt8), c.toNat ≠ 45 -> ¬ (48 <= c.toNat /\ c.toNat <= 57) -> decS n ≠ bs (c :: r) := fun c r g1 g2 => ne_first (by omega)
  unfold scalB;rw [if_neg (hf _ _ (by decide) (by decide)), if_neg (hf _ _ (by decide) (by decide)), if_neg (not_or.2 ⟨hf _ _ (by decide) (by decide), hf _ _ (by decide) (by decide)⟩), if_neg (hf _ _ (by decide) (by decide)), if_neg (hf _ _ (by decide) (by decide)), if_neg (fun e => w3 e.2), w5];rw [if_pos (by simp only; rw [hlen]; omega)]
theorem scal_plain {s : ByteArray} (hp : plainB s = true) : ScalOk s (tText s) := by
 have h := plain_parts hp;have hpos := h.pos;have h0 := h.byte (i := 0) (by omega);refine ⟨TxOk.plain h, item_no (h.first 45 (by decide)), keyB_no h0.2.1 (plain_ends h), ?_⟩;unfold scalB;rw [if_neg (ne_first (h.first 91 (by decide))), if_neg (ne_first (h.first 123 (by decide))), if_neg (not_or.2 ⟨h.nul, h.til⟩), if_neg h.tru, if_neg h.fal, if_neg (fun e => h0.2.1 e.2), if_neg ?_, if_pos hp];intro ⟨e1, e2⟩
 unfold wholeB at e1 e2;rw [if_pos (show 0 < s.size by omega), if_neg (show ¬ byteI s 0 = 45 from h.first 45 (by decide))] at e1 e2
 have hd : digE s 0 = s.size := by
  unfold wholeA at e1 e2;rw [if_neg (show ¬ (false = true) by decide)] at e1 e2;split at e1
  ·rename_i c
   rw [if_pos c] at e2;simp at e2
  ·rename_i c
   rw [if_neg c] at e2;split at e1
   ·simp only at e1
    omega
   ·rename_i c2
    rw [if_neg c2] at e2;simp at e2
 have hfg : figsB s = true := by
  unfold figsB;rw [List.all_eq_true];intro c hc;obtain ⟨i, hi⟩ := List.getElem?_of_mem hc;obtain ⟨b1, b2⟩ := byte_toL hi;have hg := (digE_figs (s := s) (j := 0) (t := i) (Nat.zero_le _) (by omega)).1;rw [b2] at hg;unfold figI at hg;simp only [Bool.and_eq_true, decide_eq_true_eq] at hg ⊢;omega
 rw [h.figs] at hfg;cases hfg
theorem scal_quote {s : ByteArray} (hs : strB s = true) : ScalOk (quoteB s) (tText s) := by
 have hu := strB_utf hs;have hrd : Rd (quoteB s) 0 ((quoteB s).data.toList ++ []) := by unfold Rd; simp
 obtain ⟨q1, q2, q3⟩ := quotB_back hu.1 hrd;have hlen := toL_size (quoteB s);rw [Nat.zero_add, hlen] at q3;have hf : ∀ (c : UInt8) (r : List UInt8), c.toNat ≠ 34 -> quoteB s ≠ bs (c :: r) := fun c r g => ne_first (by rw [q1]; omega)
 refine ⟨TxOk.quote hu.1, item_no (by rw [q1]; decide), ?_, ?_⟩
 ·unfold keyB
  rw [if_pos ⟨q2, q1⟩, q3];simp only;rw [if_neg (fun e => ?_)];have := e.2;rw [Int.toNat_natCast] at this;unfold endsB at this;rw [decide_eq_false (by omega), Bool.false_and, Bool.false_and] at this;cases this
 ·unfold scalB
  rw [if_neg (hf _ _ (by decide)), if_neg (hf _ _ (by decide)), if_neg (not_or.2 ⟨hf _ _ (by decide), hf _ _ (by decide)⟩), if_neg (hf _ _ (by decide)), if_neg (hf _ _ (by decide)), if_pos ⟨q2, q1⟩, q3];show (if ((quoteB s).size : Int) = (quoteB s).size /\ s.size <= 400 then some (tText s) else none) = some (tText s)
  rw [if_pos ⟨rfl, hu.2⟩]
theorem scal_text {s : ByteArray} (hs : strB s = true) : ScalOk (keyText s) (tText s) := by
 unfold keyText;split
 ·rename_i h
  exact scal_plain h
 ·exact scal_quote hs
theorem scal_of {n : Nat} {d : TreeD} (h : shapeT (n + 1) d = true) (hn : numT (n + 1) d) (hk : d.kids = []) : ScalOk (scalText d) d := by
 obtain ⟨h1, h2, h3, -, -⟩ := shape_parts h;obtain ⟨⟨k1, k2⟩, p2, p3, p4, p5, -⟩ := bad_parts h1;have hn1 := hn.1;obtain ⟨kind, flag, num, text, keys, kids⟩ := d;simp only at *;subst hk;unfold scalText;simp only;have hc : kind = 1 ∨ kind = 2 ∨ kind = 3 ∨ kind = 4 ∨ kind = 5 ∨ kind = 6 := by omega
 rcases hc with rfl | rfl | rfl | rfl | rfl | rfl
 ·rw [p2 (by decide), p3 (by decide), p4 (by decide), p5 (by decide)]
  exact scal_null
 ·rw [p3 (by decide), p4 (by decide), p5 (by decide)]
  cases flag
  ·exact scal_false
  ·exact scal_true
 ·rw [p2 (by decide), p4 (by decide), p5 (by decide)]
  exact scal_intT hn1
 ·rw [p2 (by decide), p3 (by decide), p5 (by decide)]
  exact scal_text h2
 ·rw [p2 (by decide), p3 (by decide), p4 (by decide), p5 (by decide)]
  exact scal_list
 ·rw [p2 (by decide), p3 (by decide), p4 (by decide)]
  have : keys = [] := by
   unfold lensOk at h3;simp at h3;exact h3
  rw [this];exact scal_map
abbrev Ln := Nat × List UInt8
def sh (p : Ln) : Ln := (p.1 + 2, p.2)
def kidLn (f : TreeD -> List Ln) (d : TreeD) (i : Nat) : List Ln := match d.kids[i]? with
 | none => []
 | some t => if d.kind = 6 then (match d.keys[i]? with
   | none => []
   | some k => if t.kids = [] then [(0, (keyText k).data.toList ++ [58, 32] ++ (scalText t).data.toList)] else (0, (keyText k).data.toList ++ [58]) :: (f t).map sh)
  else (match f t with | [] => [] | (_, x) :: r => (0, [45, 32] ++ x) :: r.map sh)
def lnT : Nat -> TreeD -> List Ln
 | 0, _ => []
 | n + 1, d => if d.kids = [] then [(0, (scalText d).data.toList)] else seqP (kidLn (lnT n) d) 0 d.kids.length
theorem lnT_leaf {n : Nat} {d : TreeD} (h : d.kids = []) : lnT (n + 1) d = [(0, (scalText d).data.toList)] := by rw [lnT, if_pos h]
theorem lnT_kids {n : Nat} {d : TreeD} (h : d.kids ≠ []) : lnT (n + 1) d = seqP (kidLn (lnT n) d) 0 d.kids.length := by rw [lnT, if_neg h]
theorem manyL_seq (g : Nat -> List (List UInt8)) : ∀ n, manyL g n = seqP g 0 n
 | 0 => rfl
 | n + 1 => by rw [manyL, manyL_seq g n, seqP_last, Nat.zero_add]
theorem seq_map {α β : Type} (f : α -> β) {g : Nat -> List α} {h : Nat -> List β} : ∀ (n k : Nat), (∀ i, k <= i -> i < k + n -> h i = (g i).map f) -> seqP h k n = (seqP g k n).map f
 | 0, _, _ => rfl
 | n + 1, k, hh => by
  rw [seqP_succ, seqP_succ, List.map_append, hh k (Nat.le_refl _) (by omega), seq_map f n (k + 1) (fun i h1 h2 => hh i (by omega) (by omega))]
theorem render_sh (p : Ln) : render (sh p) = [32, 32] ++ render p := by
 unfold render sh;rw [List.replicate_succ, List.replicate_succ];rfl
theorem blank_render (L : List Ln) : blank2 (L.map render) = (L.map sh).map render := by
 unfold blank2;rw [List.map_map, List.map_map];exact List.map_congr_left (fun p _ => (render_sh p).symm)
structure LnOkT (n : Nat) (d : TreeD) : Prop where
 hd : ∃ x r, lnT n d = (0, x) :: r
 tx : ∀ p ∈ lnT n d, TxOk p.2
 lines : linesT n d = (lnT n d).map render
theorem shape_kids {n : Nat} {d : TreeD} (h : shapeT (n + 1) d = true) (hk : d.kids ≠ []) : d.kind = 5 ∨ (d.kind = 6 /\ d.keys.length = d.kids.length) := by
 obtain ⟨h1, -, h3, -, -⟩ := shape_parts h;obtain ⟨⟨k1, k2⟩, -, -, -, -, p6⟩ := bad_parts h1;by_cases c : d.kind = 6
 ·right
  refine ⟨c, ?_⟩;unfold lensOk at h3;simp [c] at h3;exact h3
 ·left
  by_cases c5 : d.kind < 5
  ·exact absurd (p6 c5) hk
  ·omega
theorem key_at {n i : Nat} {d : TreeD} (h : shapeT (n + 1) d = true) (hl : d.keys.length = d.kids.length) (hi : i < d.kids.length) : ∃ k, d.keys[i]? = some k /\ strB k = true := by
 obtain ⟨k, hk⟩ := exists_at (show i < d.keys.length by omega);exact ⟨k, hk, key_str h hk⟩
theorem kid_ok {n i : Nat} {d t : TreeD} (h : shapeT (n + 1) d = true) (hn : numT (n + 1) d) (ht : d.kids[i]? = some t) (hk : LnOkT n t) :
  (∃ x r, kidLn (lnT n) d i = (0, x) :: r) /\ (∀ p ∈ kidLn (lnT n) d i, TxOk p.2) /\ kidLines (linesT n) d i = (kidLn (lnT n) d i).map render := by
 have hne : d.kids ≠ [] := fun e => by rw [e] at ht; cases ht
 have hi : i < d.kids.length := (List.getElem?_eq_some_iff.1 ht).1
 obtain ⟨m, rfl⟩ : ∃ m, n = m + 1 := by
  cases n with
  | zero =>
   have h9 := shape_kid h ht;cases h9
  | succ m => exact ⟨m, rfl⟩
 have hst := shape_kid h ht;have hnt := hn.2 t (List.mem_of_getElem? ht);obtain ⟨x, r, hx⟩ := hk.hd;unfold kidLn kidLines;rw [ht];simp only;rcases shape_kids h hne with h5 | ⟨h6, hl⟩
 ·rw [if_neg (by omega), if_neg (by omega), hk.lines, hx]
  simp only [List.map_cons];refine ⟨⟨_, _, rfl⟩, fun p hp => ?_, ?_⟩
  ·rcases List.mem_cons.1 hp with rfl | hp
   ·exact (hk.tx (0, x) (by rw [hx]; simp)).item
   ·obtain ⟨q, hq, rfl⟩ := List.mem_map.1 hp
    exact hk.tx q (by rw [hx]; simp [hq])
  ·rw [blank_render]
   rfl
 ·obtain ⟨k, hkk, hks⟩ := key_at h hl hi
  rw [if_pos h6, if_pos h6, hkk];simp only;by_cases hkt : t.kids = []
  ·rw [if_pos hkt, if_pos hkt]
   have hs := scal_of hst hnt hkt;refine ⟨⟨_, _, rfl⟩, fun p hp => ?_, ?_⟩
   ·simp at hp
    subst hp;have := (TxOk.key hks).pair hs.tx
    simpa using this
   ·rw [hk.lines, lnT_leaf hkt]
    rfl
  ·rw [if_neg hkt, if_neg hkt]
   refine ⟨⟨_, _, rfl⟩, fun p hp => ?_, ?_⟩
   ·rcases List.mem_cons.1 hp with rfl | hp
    ·exact (TxOk.key hks).colon
    ·obtain ⟨q, hq, rfl⟩ := List.mem_map.1 hp
     exact hk.tx q hq
   ·rw [hk.lines, blank_render]
    rfl
theorem mem_seq {α : Type} {g : Nat -> List α} {x : α} : ∀ (n k : Nat), x ∈ seqP g k n -> ∃ i, k <= i /\ i < k + n /\ x ∈ g i
 | 0, _, h => by cases h
 | n + 1, k, h => by
  rw [seqP_succ] at h;rcases List.mem_append.1 h with h | h
  ·exact ⟨k, Nat.le_refl _, by omega, h⟩
  ·obtain ⟨i, h1, h2, h3⟩ := mem_seq n (k + 1) h
   exact ⟨i, by omega, by omega, h3⟩
theorem ln_ok : ∀ (n : Nat) (d : TreeD), shapeT n d = true -> numT n d -> LnOkT n d
 | 0, _, h, _ => by cases h
 | n + 1, d, h, hn => by
  by_cases hk : d.kids = []
  ·have hs := scal_of h hn hk
   refine ⟨⟨_, _, lnT_leaf hk⟩, fun p hp => ?_, ?_⟩
   ·rw [lnT_leaf hk] at hp
    simp at hp;subst hp;exact hs.tx
   ·rw [lnT_leaf hk, linesT, if_pos hk]
    rfl
  ·have hall : ∀ i, i < d.kids.length -> (∃ x r, kidLn (lnT n) d i = (0, x) :: r) /\ (∀ p ∈ kidLn (lnT n) d i, TxOk p.2) /\ kidLines (linesT n) d i = (kidLn (lnT n) d i).map render := fun i hi => by
    obtain ⟨t, ht⟩ := exists_at hi;exact kid_ok h hn ht (ln_ok n t (shape_kid h ht) (hn.2 t (List.mem_of_getElem? ht)))
   have hpos : 0 < d.kids.length := List.length_pos_iff.2 hk;refine ⟨?_, fun p hp => ?_, ?_⟩
   ·obtain ⟨x, r, hx⟩ := (hall 0 hpos).1
    obtain ⟨q, hq⟩ : ∃ q, d.kids.length = q + 1 := ⟨d.kids.length - 1, by omega⟩
    rw [lnT_kids hk, hq, seqP_succ, hx];exact ⟨_, _, rfl⟩
   ·rw [lnT_kids hk] at hp
    obtain ⟨i, -, h2, h3⟩ := mem_seq _ _ hp;exact (hall i (by omega)).2.1 p h3
   ·rw [lnT_kids hk, linesT, if_neg hk, manyL_seq]
    exact seq_map render _ _ (fun i _ h2 => (hall i (by omega)).2.2)
def LnR (i : Nat) (ps : List Ln) (L : List LineD) : Prop := L.map (fun x => (x.ind, x.text)) = ps.map (fun p => (i + p.1, bs p.2))
theorem LnR.nil {i : Nat} {L : List LineD} (h : LnR i [] L) : L = [] := by
 unfold LnR at h
 simpa using h
theorem LnR.app {i : Nat} {a b : List Ln} {L : List LineD} (h : LnR i (a ++ b) L) : ∃ La Lb, L = La ++ Lb /\ LnR i a La /\ LnR i b Lb := by
 unfold LnR at h;rw [List.map_append, List.map_eq_append_iff] at h;obtain ⟨La, Lb, h1, h2, h3⟩ := h;exact ⟨La, Lb, h1, h2, h3⟩
theorem LnR.cons {i : Nat} {p : Ln} {r : List Ln} {L : List LineD} (h : LnR i (p :: r) L) : ∃ y L', L = y :: L' /\ y.ind = i + p.1 /\ y.text = bs p.2 /\ LnR i r L' := by
 unfold LnR at h;cases L with
 | nil => cases h
 | cons y L' =>
  simp only [List.map_cons, List.cons.injEq, Prod.mk.injEq] at h;exact ⟨y, L', rfl, h.1.1, h.1.2, h.2⟩
theorem LnR.sh {i : Nat} {r : List Ln} {L : List LineD} (h : LnR i (r.map sh) L) : LnR (i + 2) r L := by
 unfold LnR at h ⊢;rw [h, List.map_map];refine List.map_congr_left (fun p _ => ?_);show (i + (p.1 + 2), bs p.2) = (i + 2 + p.1, bs p.2)
 rw [show i + (p.1 + 2) = i + 2 + p.1 by omega]
def Stop (i : Nat) (rest : List LineD) : Prop := ∀ y, rest.head? = some y -> y.ind < i
theorem costL_app (a b : List LineD) : costL (a ++ b) = costL a + costL b := szL_append _ a b
theorem costL_cons (x : LineD) (l : List LineD) : costL (x :: l) = (x.text.size + 3) + costL l := rfl
def InB (n : Nat) (d : TreeD) : Prop := ∀ (i : Nat) (L rest : List LineD) (m deep fuel : Nat), LnR i (lnT n d) L -> Stop i rest -> deep + depthT n d <= 9 -> m + sizeT n d <= 300 -> 3 * costL (L ++ rest) + 3 <= fuel ->
 readK fuel (.value deep) (L ++ rest) m = .good d rest (m + sizeT n d)
theorem begin_ok {d m a : Nat} (h1 : d <= 8) (h2 : m < 300) : beginF d m a = none := by
 unfold beginF;rw [if_neg (by omega), if_neg (by omega)]
theorem depth_pos {n : Nat} {t : TreeD} (h : shapeT n t = true) : 1 <= depthT n t /\ 1 <= sizeT n t := by
 cases n with
 | zero => cases h
 | succ n => rw [depthT_succ, sizeT_succ]; omega
theorem list_in {n : Nat} {d : TreeD} (h : shapeT (n + 1) d = true) (hn : numT (n + 1) d) (h5 : d.kind = 5) (hb : ∀ t ∈ d.kids, InB n t) : ∀ (r k : Nat), k + r = d.kids.length -> ∀ (i : Nat) (L rest : List LineD) (m deep fuel : Nat),
  LnR i (seqP (kidLn (lnT n) d) k r) L -> Stop i rest -> (∀ t ∈ d.kids, deep + 1 + depthT n t <= 9) -> m + szL (sizeT n) (d.kids.drop k) <= 300 -> 3 * costL (L ++ rest) + 2 <= fuel ->
  readK fuel (.list i deep (d.kids.take k)) (L ++ rest) m = .good (tList d.kids) rest (m + szL (sizeT n) (d.kids.drop k)) := by
 intro r;induction r with
 | zero =>
  intro k hk i L rest m deep fuel hL hs _ _ hf;obtain rfl := hL.nil;obtain ⟨f, rfl⟩ : ∃ f, fuel = f + 1 := ⟨fuel - 1, by omega⟩
  rw [List.take_of_length_le (by omega), List.drop_of_length_le (by omega), List.nil_append];cases rest with
  | nil => rfl
  | cons y rest =>
   have := hs y rfl;rw [readK, if_pos (by omega)];rfl
 | succ r ih =>
  intro k hk i L rest m deep fuel hL hs hd hm hf;obtain ⟨f, rfl⟩ : ∃ f, fuel = f + 1 := ⟨fuel - 1, by omega⟩
  obtain ⟨t, ht⟩ := exists_at (show k < d.kids.length by omega);have htm := List.mem_of_getElem? ht;have hst := shape_kid h ht;have hnt := hn.2 t htm
  have hsz : szL (sizeT n) (d.kids.drop k) = sizeT n t + szL (sizeT n) (d.kids.drop (k + 1)) := by
   rw [seq_kids ht];simp [szL]
  rw [seqP_succ] at hL;obtain ⟨La, Lb, rfl, hLa, hLb⟩ := hL.app;have hlk := ln_ok n t hst hnt;obtain ⟨x, q, hx⟩ := hlk.hd
  have hkl : kidLn (lnT n) d k = (0, [45, 32] ++ x) :: q.map sh := by
   unfold kidLn;rw [ht];simp only;rw [if_neg (by omega), hx]
  rw [hkl] at hLa;obtain ⟨y, La', rfl, hy1, hy2, hLa'⟩ := hLa.cons;have hxo := hlk.tx (0, x) (by rw [hx]; simp);rw [List.cons_append, List.cons_append, readK, if_neg (by simpa using hy1), hy2, item_line hxo];simp only;rw [if_neg (by decide)]
  have hnext : Stop (i + 2) (Lb ++ rest) := by
   intro z hz;cases r with
   | zero =>
    obtain rfl := hLb.nil;have := hs z hz;omega
   | succ r =>
    rw [seqP_succ] at hLb;obtain ⟨u, hu⟩ := exists_at (show k + 1 < d.kids.length by omega);obtain ⟨x2, q2, hx2⟩ := (kid_ok h hn hu (ln_ok n u (shape_kid h hu) (hn.2 u (List.mem_of_getElem? hu)))).1;rw [hx2, List.cons_append] at hLb;obtain ⟨y2, Lb', rfl, hy3, -, -⟩ := hLb.cons;simp at hz;subst hz;simp only at hy3;omega
  have hv := hb t htm (i + 2) (⟨i + 2, bs x, y.at'⟩ :: La') (Lb ++ rest) m (deep + 1) f (by
   rw [hx];unfold LnR;have h9 := hLa'.sh;unfold LnR at h9;rw [List.map_cons, List.map_cons, h9]
   rfl) hnext (hd t htm) (by omega) (by
   rw [List.cons_append, List.cons_append, costL_cons, hy2, bs_size] at hf;rw [List.cons_append, costL_cons, bs_size];simp only [List.length_append, List.length_cons, List.length_nil] at hf;rw [List.append_assoc] at hf
   omega)
  rw [List.append_assoc];rw [List.cons_append] at hv;rw [hv];simp only
  rw [<- take_next ht, ih (k + 1) (by omega) i Lb rest (m + sizeT n t) deep f hLb hs hd (by omega) (by
   rw [List.cons_append, List.cons_append, costL_cons, List.append_assoc, costL_app] at hf
   omega), hsz, Nat.add_assoc]
theorem pairs_in {n : Nat} {d : TreeD} (h : shapeT (n + 1) d = true) (hn : numT (n + 1) d) (h6 : d.kind = 6) (hl : d.keys.length = d.kids.length) (hb : ∀ t ∈ d.kids, InB n t) : ∀ (r k : Nat), k + r = d.kids.length -> ∀ (i : Nat) (L rest : List LineD) (m deep fuel : Nat),
  LnR i (seqP (kidLn (lnT n) d) k r) L -> Stop i rest -> (∀ t ∈ d.kids, deep + 1 + depthT n t <= 9) -> m + szL (sizeT n) (d.kids.drop k) <= 300 -> 3 * costL (L ++ rest) + 2 <= fuel ->
  readK fuel (.pairs i deep (d.keys.take k) (d.kids.take k)) (L ++ rest) m = .good (tMap d.keys d.kids) rest (m + szL (sizeT n) (d.kids.drop k)) := by
 intro r;induction r with
 | zero =>
  intro k hk i L rest m deep fuel hL hs _ _ hf;obtain rfl := hL.nil;obtain ⟨f, rfl⟩ : ∃ f, fuel = f + 1 := ⟨fuel - 1, by omega⟩
  rw [List.take_of_length_le (by omega), List.take_of_length_le (by omega), List.drop_of_length_le (by omega), List.nil_append];cases rest with
  | nil => rfl
  | cons y rest =>
   have := hs y rfl;rw [readK, if_pos (.inl (by omega))];rfl
 | succ r ih =>
  intro k hk i L rest m deep fuel hL hs hd hm hf;obtain ⟨f, rfl⟩ : ∃ f, fuel = f + 1 := ⟨fuel - 1, by omega⟩
  obtain ⟨t, ht⟩ := exists_at (show k < d.kids.length by omega);obtain ⟨key, hkey, hstr⟩ := key_at h hl (show k < d.kids.length by omega);have htm := List.mem_of_getElem? ht;have hst := shape_kid h ht;have hnt := hn.2 t htm;have hdp := depth_pos hst;have hdt := hd t htm
  have hsz : szL (sizeT n) (d.kids.drop k) = sizeT n t + szL (sizeT n) (d.kids.drop (k + 1)) := by
   rw [seq_kids ht];simp [szL]
  have hlk : ∀ x ∈ d.keys.take k, lessS x key = true := fun x hx => by
   obtain ⟨j, hj⟩ := List.getElem?_of_mem hx;rw [List.getElem?_take] at hj;split at hj
   ·exact key_less h k j x key (by omega) hj hkey
   ·cases hj
  have hpk : posK (d.keys.take k) key = (d.keys.take k).length := posK_last hlk;have hkl : (d.keys.take k).length = k := by rw [List.length_take]; omega
  have hll : (d.kids.take k).length = k := by rw [List.length_take]; omega
  have hi1 : insL (d.keys.take k) k key = d.keys.take (k + 1) := by
   have := insL_last (d.keys.take k) key;rw [hkl] at this;rw [this, <- take_next hkey]
  have hi2 : insL (d.kids.take k) k t = d.kids.take (k + 1) := by
   have := insL_last (d.kids.take k) t;rw [hll] at this;rw [this, <- take_next ht]
  have h400 : ¬ 400 < key.size := by have := (strB_utf hstr).2; omega
  rw [seqP_succ] at hL;obtain ⟨La, Lb, rfl, hLa, hLb⟩ := hL.app
  have hnext : Stop (i + 2) (Lb ++ rest) := by
   intro z hz;cases r with
   | zero =>
    obtain rfl := hLb.nil;have := hs z hz;omega
   | succ r =>
    rw [seqP_succ] at hLb;obtain ⟨u, hu⟩ := exists_at (show k + 1 < d.kids.length by omega);obtain ⟨x2, q2, hx2⟩ := (kid_ok h hn hu (ln_ok n u (shape_kid h hu) (hn.2 u (List.mem_of_getElem? hu)))).1;rw [hx2, List.cons_append] at hLb;obtain ⟨y2, Lb', rfl, hy3, -, -⟩ := hLb.cons;simp at hz;subst hz;simp only at hy3;omega
  have hgo : ∀ (fu : Nat), 3 * costL (Lb ++ rest) + 2 <= fu -> readK fu (.pairs i deep (insL (d.keys.take k) (posK (d.keys.take k) key) key) (insL (d.kids.take k) (posK (d.keys.take k) key) t)) (Lb ++ rest) (m + sizeT n t) = .good (tMap d.keys d.kids) rest (m + szL (sizeT n) (d.kids.drop k)) := fun fu hfu => by
   rw [hpk, hkl, hi1, hi2, ih (k + 1) (by omega) i Lb rest (m + sizeT n t) deep fu hLb hs hd (by omega) hfu, hsz, Nat.add_assoc]
  by_cases hkt : t.kids = []
  ·obtain ⟨n', rfl⟩ : ∃ n', n = n' + 1 := by
    cases n with
    | zero => cases hst
    | succ n' => exact ⟨n', rfl⟩
   have hsc := scal_of hst hnt hkt
   have hkn : kidLn (lnT (n' + 1)) d k = [(0, (keyText key).data.toList ++ [58, 32] ++ (scalText t).data.toList)] := by
    unfold kidLn;rw [ht];simp only;rw [if_pos h6, hkey];simp only;rw [if_pos hkt]
   rw [hkn] at hLa;obtain ⟨y, La', rfl, hy1, hy2, hLa'⟩ := hLa.cons;obtain rfl := hLa'.nil;have hyt : y.text = bs ((keyText key).data.toList ++ 58 :: (32 :: (scalText t).data.toList)) := by rw [hy2]; simp
   obtain ⟨g1, g2⟩ := key_line hstr (R := 32 :: (scalText t).data.toList) (.inr ⟨_, hsc.tx, rfl⟩);have hrest : bs ((32 :: (scalText t).data.toList).drop 1) = scalText t := by show bs (scalText t).data.toList = _; exact bs_toL _
   rw [hrest] at g1
   have hpos : (scalText t).size ≠ 0 := by
    have h9 := List.length_pos_iff.2 hsc.tx.ne;rw [toL_size] at h9;omega
   have hone : sizeT (n' + 1) t = 1 := by rw [sizeT_succ, hkt]; rfl
   rw [List.cons_append, List.nil_append, List.cons_append, readK, hyt, g2, if_neg (by simpa using hy1), g1];simp only;rw [if_neg h400, if_neg (by rw [not_contains hlk]; decide), if_neg hpos, begin_ok (by omega) (by omega), hsc.scal];simp only
   have := hgo f (by
    rw [List.cons_append, List.cons_append, costL_cons, List.nil_append] at hf
    omega)
   rw [hone] at this;exact this
  ·have hkn : kidLn (lnT n) d k = (0, (keyText key).data.toList ++ [58]) :: (lnT n t).map sh := by
    unfold kidLn;rw [ht];simp only;rw [if_pos h6, hkey];simp only;rw [if_neg hkt]
   rw [hkn] at hLa;obtain ⟨y, La', rfl, hy1, hy2, hLa'⟩ := hLa.cons;obtain ⟨g1, g2⟩ := key_line hstr (R := []) (.inl rfl);have hyt : y.text = bs ((keyText key).data.toList ++ 58 :: []) := hy2;obtain ⟨x, q, hx⟩ := (ln_ok n t hst hnt).hd;have hLs := hLa'.sh
   obtain ⟨z, Lz, hz, hz1, -, -⟩ : ∃ z Lz, La' = z :: Lz /\ z.ind = i + 2 + 0 /\ z.text = bs x /\ LnR (i + 2) q Lz := by
    have h9 := hLs;rw [hx] at h9;exact h9.cons
   obtain ⟨f2, rfl⟩ : ∃ f2, f = f2 + 1 := ⟨f - 1, by
    rw [List.cons_append, List.cons_append, costL_cons] at hf
    omega⟩
   have hfc : 3 * costL (La' ++ (Lb ++ rest)) + 9 + 2 <= f2 + 1 + 1 := by
    rw [List.cons_append, List.cons_append, costL_cons, List.append_assoc] at hf;omega
   have hv := hb t htm (i + 2) La' (Lb ++ rest) m (deep + 1) f2 hLs hnext hdt (by omega) (by omega)
   have hbelow : readK (f2 + 1) (.below i (deep + 1) y.at') (La' ++ (Lb ++ rest)) m = .good t (Lb ++ rest) (m + sizeT n t) := by
    rw [hz];show (if decide (i < z.ind) = true then readK f2 (.value (deep + 1)) ((z :: Lz) ++ (Lb ++ rest)) m else _) = _
    rw [if_pos (by rw [decide_eq_true_eq]; omega), <- hz, hv]
   rw [List.cons_append, List.cons_append, readK, hyt, g2, if_neg (by simpa using hy1), g1];simp only;rw [if_neg h400, if_neg (by rw [not_contains hlk]; decide), if_pos (show (bs (([] : List UInt8).drop 1)).size = 0 from rfl), List.append_assoc, hbelow];simp only
   exact hgo (f2 + 1) (by
    rw [costL_app] at hfc
    omega)
theorem back_in : ∀ (n : Nat) (d : TreeD), shapeT n d = true -> numT n d -> InB n d
 | 0, _, h, _ => by cases h
 | n + 1, d, h, hn => by
  intro i L rest m deep fuel hL hs hd hm hf;obtain ⟨f, rfl⟩ : ∃ f, fuel = f + 1 := ⟨fuel - 1, by omega⟩
  have hdp := depth_pos h;by_cases hk : d.kids = []
  ·have hsc := scal_of h hn hk
   have hone : sizeT (n + 1) d = 1 := by rw [sizeT_succ, hk]; rfl
   rw [lnT_leaf hk] at hL;obtain ⟨y, L', rfl, hy1, hy2, hL'⟩ := hL.cons;obtain rfl := hL'.nil;have hyt : y.text = scalText d := by rw [hy2]; exact bs_toL _
   rw [List.cons_append, List.nil_append, readK, hyt, begin_ok (by omega) (by omega)];simp only;rw [hsc.item, hsc.key, hsc.scal, hone];rfl
  ·have hb : ∀ t ∈ d.kids, InB n t := fun t ht => by
    obtain ⟨j, hj⟩ := List.getElem?_of_mem ht;exact back_in n t (shape_kid h hj) (hn.2 t ht)
   have hdk : ∀ t ∈ d.kids, deep + 1 + depthT n t <= 9 := fun t ht => by
    obtain ⟨j, hj⟩ := List.getElem?_of_mem ht;have := (depth_kid (n := n) hj).2;omega
   have hpos : 0 < d.kids.length := List.length_pos_iff.2 hk;have hsz : sizeT (n + 1) d = 1 + szL (sizeT n) d.kids := rfl;have hlo := ln_ok (n + 1) d h hn;obtain ⟨x, q, hx⟩ := hlo.hd;have hL0 := hL;rw [hx] at hL;obtain ⟨y, L', rfl, hy1, hy2, -⟩ := hL.cons;have hyi : y.ind = i := hy1;rw [lnT_kids hk] at hL0
   have h0k : kidLn (lnT n) d 0 ++ seqP (kidLn (lnT n) d) 1 (d.kids.length - 1) = (0, x) :: q := by
    rw [<- hx, lnT_kids hk];obtain ⟨z, hz⟩ : ∃ z, d.kids.length = z + 1 := ⟨d.kids.length - 1, by omega⟩
    rw [hz, seqP_succ];rfl
   obtain ⟨t, ht⟩ := exists_at hpos;have htk := ln_ok n t (shape_kid h ht) (hn.2 t (List.mem_of_getElem? ht));rw [List.cons_append, readK, begin_ok (by omega) (by omega)];simp only;rcases shape_kids h hk with h5 | ⟨h6, hl⟩
   ·have hit : (itemB y.text).isSome = true := by
     obtain ⟨x2, q2, hx2⟩ := htk.hd
     have hkl : kidLn (lnT n) d 0 = (0, [45, 32] ++ x2) :: q2.map sh := by
      unfold kidLn;rw [ht];simp only;rw [if_neg (by omega), hx2]
     rw [hkl, List.cons_append, List.cons.injEq, Prod.mk.injEq] at h0k;rw [hy2, <- h0k.1.2, item_line (htk.tx (0, x2) (by rw [hx2]; simp))];rfl
    rw [if_pos hit, hyi];have := list_in h hn h5 hb d.kids.length 0 (by omega) i (y :: L') rest (m + 1) deep f hL0 hs hdk (by rw [List.drop_zero]; omega) (by omega);rw [List.take_zero, List.drop_zero, List.cons_append] at this;rw [this, hsz]
    have he : tList d.kids = d := by
     obtain ⟨h1, -, -, -, -⟩ := shape_parts h;obtain ⟨-, p2, p3, p4, p5, -⟩ := bad_parts h1;obtain ⟨kind, flag, num, text, keys, kids⟩ := d;simp only at *;subst h5;rw [p2 (by decide), p3 (by decide), p4 (by decide), p5 (by decide)];rfl
    rw [he, Nat.add_assoc]
   ·obtain ⟨key, hkey, hstr⟩ := key_at h hl hpos
    have hkl : (itemB y.text).isSome = false /\ (keyB y.text).isSome = true := by
     unfold kidLn at h0k;rw [ht] at h0k;simp only at h0k;rw [if_pos h6, hkey] at h0k;simp only at h0k;by_cases hkt : t.kids = []
     ·have hst := shape_kid h ht
      have hnt := hn.2 t (List.mem_of_getElem? ht)
      obtain ⟨n', rfl⟩ : ∃ n', n = n' + 1 := by
       cases n with
       | zero => cases hst
       | succ n' => exact ⟨n', rfl⟩
      have hsc := scal_of hst hnt hkt;rw [if_pos hkt, List.cons_append, List.cons.injEq, Prod.mk.injEq] at h0k;obtain ⟨g1, g2⟩ := key_line hstr (R := 32 :: (scalText t).data.toList) (.inr ⟨_, hsc.tx, rfl⟩);have hyt : y.text = bs ((keyText key).data.toList ++ 58 :: (32 :: (scalText t).data.toList)) := by rw [hy2, <- h0k.1.2]; simp
      rw [hyt, g1, g2];exact ⟨rfl, rfl⟩
     ·rw [if_neg hkt, List.cons_append, List.cons.injEq, Prod.mk.injEq] at h0k
      obtain ⟨g1, g2⟩ := key_line hstr (R := []) (.inl rfl);have hyt : y.text = bs ((keyText key).data.toList ++ 58 :: []) := by rw [hy2, <- h0k.1.2]
      rw [hyt, g1, g2];exact ⟨rfl, rfl⟩
    rw [if_neg (by rw [hkl.1]; decide), if_pos hkl.2, hyi];have := pairs_in h hn h6 hl hb d.kids.length 0 (by omega) i (y :: L') rest (m + 1) deep f hL0 hs hdk (by rw [List.drop_zero]; omega) (by omega);rw [List.take_zero, List.take_zero, List.drop_zero, List.cons_append] at this;rw [this, hsz]
    have he : tMap d.keys d.kids = d := by
     obtain ⟨h1, -, -, -, -⟩ := shape_parts h;obtain ⟨-, p2, p3, p4, -, -⟩ := bad_parts h1;obtain ⟨kind, flag, num, text, keys, kids⟩ := d;simp only at *;subst h6;rw [p2 (by decide), p3 (by decide), p4 (by decide)];rfl
    rw [he, Nat.add_assoc]
theorem cut_line : ∀ (x acc r : List UInt8), (10 : UInt8) ∉ x -> cutA acc (x ++ 10 :: r) = (acc ++ x) :: cutA [] r
 | [], acc, r, _ => by simp [cutA]
 | c :: x, acc, r, h => by
  have hc : ¬ c = 10 := fun e => h (by rw [e]; simp)
  rw [List.cons_append, cutA, if_neg hc, cut_line x (acc ++ [c]) r (fun hm => h (by simp [hm]))];simp
theorem cut_lines : ∀ (L : List (List UInt8)) (z : List UInt8), (∀ x ∈ L, (10 : UInt8) ∉ x) -> cutA [] (textL L ++ z) = L ++ cutA [] z
 | [], z, _ => rfl
 | x :: L, z, h => by
  have e : textL (x :: L) ++ z = x ++ 10 :: (textL L ++ z) := by unfold textL; simp
  rw [e, cut_line x [] _ (h x (by simp)), List.nil_append, cut_lines L z (fun y hy => h y (by simp [hy]))];rfl
def linesA : Nat -> List (List UInt8) -> List LineD
 | _, [] => []
 | k, l :: P => lineO (k + 1) l ++ linesA (k + 1) P
theorem linesA_app : ∀ (a : List (List UInt8)) (k : Nat) (b : List (List UInt8)), linesA k (a ++ b) = linesA k a ++ linesA (k + a.length) b
 | [], k, b => rfl
 | l :: a, k, b => by
  rw [List.cons_append, linesA, linesA, linesA_app a (k + 1) b, List.length_cons, List.append_assoc, show k + 1 + a.length = k + (a.length + 1) by omega]
theorem linesK_A (P : List (List UInt8)) : ∀ n, n <= P.length -> linesK P n = linesA 0 (P.take n)
 | 0, _ => rfl
 | n + 1, h => by
  obtain ⟨l, hl⟩ := exists_at (show n < P.length by omega);rw [linesK, linesK_A P n (by omega), hl, take_next hl, linesA_app, List.length_take, Nat.min_eq_left (by omega), Nat.zero_add];simp [linesA]
theorem linesA_nil : ∀ (P : List (List UInt8)) (k : Nat), (∀ x ∈ P, bareL x = []) -> linesA k P = []
 | [], _, _ => rfl
 | x :: P, k, h => by
  rw [linesA, linesA_nil P (k + 1) (fun y hy => h y (by simp [hy]))];unfold lineO;rw [if_pos (h x (by simp))];rfl
theorem linesA_lines : ∀ (ps : List Ln) (k : Nat), (∀ p ∈ ps, TxOk p.2) -> LnR 0 ps (linesA k (ps.map render))
 | [], _, _ => rfl
 | p :: ps, k, h => by
  have ih := linesA_lines ps (k + 1) (fun q hq => h q (by simp [hq]));have hl := (line_okT (i := p.1) (h p (by simp)) (k + 1)).1;unfold LnR at ih ⊢;rw [List.map_cons, linesA, show render p = render (p.1, p.2) from rfl, hl, List.map_append, ih];simp
def Mute (x : List UInt8) : Prop := bareL x = [] /\ lowB x = false
theorem linesF_wrap {s : ByteArray} {P Q : List (List UInt8)} {ps : List Ln} (hcut : cutA [] s.data.toList = P ++ (ps.map render ++ Q)) (hf : textF s = flt0) (hP : ∀ x ∈ P, Mute x) (hQ : ∀ x ∈ Q, Mute x) (hps : ∀ p ∈ ps, TxOk p.2) :
  ∃ L, linesF s = (L, flt0) /\ LnR 0 ps L := by
 refine ⟨linesA P.length (ps.map render), ?_, linesA_lines ps _ hps⟩
 have hidx : (P ++ (ps.map render ++ Q)).findIdx? lowB = none := by
  rw [List.findIdx?_eq_none_iff];intro x hx;simp only [List.mem_append, List.mem_map] at hx;rcases hx with hx | ⟨p, hp, rfl⟩ | hx
  ·exact (hP x hx).2
  ·exact (line_okT (i := p.1) (hps p hp) 0).2.1
  ·exact (hQ x hx).2
 unfold linesF;rw [hf, if_neg (by decide), hcut, hidx];simp only;rw [linesK_A _ _ (Nat.le_refl _), List.take_length, linesA_app, linesA_app, linesA_nil P 0 (fun x hx => (hP x hx).1), linesA_nil Q _ (fun x hx => (hQ x hx).1), List.append_nil, List.nil_append, Nat.zero_add]
theorem readIn_wrap {n : Nat} {d : TreeD} {s : ByteArray} {P Q : List (List UInt8)} (h : okT n d = true) (hn : numT n d) (hcut : cutA [] s.data.toList = P ++ (linesT n d ++ Q)) (hf : textF s = flt0) (hP : ∀ x ∈ P, Mute x) (hQ : ∀ x ∈ Q, Mute x) : readIn s = (flt0, d) := by
 obtain ⟨h3, hsh⟩ := okT_parts h;have h8 := okT_deep h;have hlo := ln_ok n d hsh hn;rw [hlo.lines] at hcut;obtain ⟨L, hL, hR⟩ := linesF_wrap hcut hf hP hQ hlo.tx;obtain ⟨x, q, hx⟩ := hlo.hd;have hR0 := hR;rw [hx] at hR;obtain ⟨y, L', rfl, hy1, hy2, -⟩ := hR.cons;have hb := back_in n d hsh hn 0 (y :: L') [] 0 1 (3 * costL (y :: L') + 3) hR0 (fun z hz => by cases hz) (by omega) (by omega) (by rw [List.append_nil]; omega)
 rw [List.append_nil] at hb;have hy0 : y.ind = 0 := hy1;unfold readIn;rw [hL];simp only;rw [if_neg (show ¬ flt0.code ≠ 0 by decide)];rw [if_neg (show ¬ y.ind ≠ 0 by omega), hb]
theorem lines_no10 {n : Nat} {d : TreeD} (h : shapeT n d = true) (hn : numT n d) : ∀ x ∈ linesT n d, (10 : UInt8) ∉ x /\ VU x := by
 have hlo := ln_ok n d h hn;rw [hlo.lines];intro x hx;obtain ⟨p, hp, rfl⟩ := List.mem_map.1 hx;have := line_okT (i := p.1) (hlo.tx p hp) 0;exact ⟨this.2.2.2, this.2.2.1⟩
theorem VU.textL : ∀ {L : List (List UInt8)}, (∀ x ∈ L, VU x) -> VU (textL L)
 | [], _ => VU.nil
 | x :: L, h => by
  have e : Go.Proofs.YtohcpifekcehjaaGreatDoor.textL (x :: L) = (x ++ [10]) ++ Go.Proofs.YtohcpifekcehjaaGreatDoor.textL L := by unfold Go.Proofs.YtohcpifekcehjaaGreatDoor.textL; simp
  rw [e];exact VU.app (VU.app (h x (by simp)) (VU.low (by simp))) (VU.textL (fun y hy => h y (by simp [hy])))
def ahead : List UInt8 := [35, 32, 115, 97, 105, 100, 10, 10]
def behind : List UInt8 := [32, 32, 32, 35, 32, 115, 97, 105, 100, 10]
theorem mute0 : Mute [] := ⟨by kernel_rfl, by kernel_rfl⟩
theorem readIn_back {n : Nat} {d : TreeD} (h : okT n d = true) (hn : numT n d) (hl : (textL (linesT n d)).length <= 20000) : readIn (bs (textL (linesT n d))) = (flt0, d) := by
 have hsh := (okT_parts h).2;have hlo := lines_no10 hsh hn;refine readIn_wrap (P := []) (Q := [[]]) h hn ?_ (textF_good (VU.textL (fun x hx => (hlo x hx).2)) hl) (fun x hx => by cases hx) (fun x hx => ?_)
 ·rw [toL]
  have := cut_lines (linesT n d) [] (fun x hx => (hlo x hx).1);rw [List.append_nil] at this;rw [this];rfl
 ·simp at hx
  subst hx;exact mute0
def nlB : Nat -> Nat
 | 0 => 0
 | 1 => 1
 | k + 2 => 4 * (1 + nlB (k + 1))
def tlB : Nat -> Nat
 | 0 => 0
 | 1 => 123
 | k + 2 => 4 * (125 + tlB (k + 1) + 2 * nlB (k + 1))
theorem textL_app (a b : List (List UInt8)) : (textL (a ++ b)).length = (textL a).length + (textL b).length := by unfold textL; rw [List.flatMap_append, List.length_append]
theorem textL_cons (x : List UInt8) (b : List (List UInt8)) : (textL (x :: b)).length = x.length + 1 + (textL b).length := by unfold textL; simp; omega
theorem textL_blank : ∀ b : List (List UInt8), (textL (blank2 b)).length = (textL b).length + 2 * b.length
 | [] => rfl
 | x :: b => by
  have := textL_blank b;show (textL (([32, 32] ++ x) :: blank2 b)).length = _
  rw [textL_cons, textL_cons, this];simp;omega
theorem nlB_pos (k : Nat) : 1 <= nlB (k + 1) := by cases k <;> (unfold nlB; omega)
theorem tlB_pos (k : Nat) : 123 <= tlB (k + 1) := by cases k <;> (unfold tlB; omega)
theorem blank_len (b : List (List UInt8)) : (blank2 b).length = b.length := List.length_map _
theorem scal_len {n : Nat} {d : TreeD} (_h : shapeT (n + 1) d = true) (hn : numT (n + 1) d) (hw : WordOk d.text) : (scalText d).data.toList.length <= 122 := by
 have hkey : ∀ {s : ByteArray}, WordOk s -> (keyText s).data.toList.length <= 122 := fun {s} hs => by
  unfold keyText;split
  ·rw [toL_size]
   have := hs.2;omega
  ·exact hs.quote
 unfold scalText;split
 ·exact hkey hw
 split
 ·decide
 split
 ·decide
 split
 ·decide
 split
 ·split <;> decide
 ·exact Nat.le_trans (Nat.le_of_eq Array.length_toList) (Nat.le_trans (decS_size _ hn.1) (by decide))
theorem key_len {s : ByteArray} (hs : WordOk s) : (keyText s).data.toList.length <= 122 := by
 unfold keyText;split
 ·rw [toL_size]
  have := hs.2;omega
 ·exact hs.quote
theorem many_len {g : Nat -> List (List UInt8)} {a b : Nat} : ∀ n, (∀ i, i < n -> (g i).length <= a /\ (textL (g i)).length <= b) -> (manyL g n).length <= n * a /\ (textL (manyL g n)).length <= n * b
 | 0, _ => ⟨Nat.zero_le _, Nat.zero_le _⟩
 | n + 1, h => by
  have h1 := many_len n (fun i hi => h i (by omega));have h2 := h n (by omega);rw [manyL, List.length_append, textL_app, Nat.add_mul, Nat.add_mul];omega
theorem drawn_lines : ∀ (k : Nat) (d : TreeD), shapeT k d = true -> numT k d -> WordT k d -> (linesT k d).length <= nlB k /\ (textL (linesT k d)).length <= tlB k
 | 0, _, h, _, _ => by cases h
 | k + 1, d, h, hn, ⟨w1, w2, w3, w4⟩ => by
  by_cases hk : d.kids = []
  ·have := scal_len h hn w1
   rw [linesT, if_pos hk, textL_cons];have h1 := nlB_pos k;have h2 := tlB_pos k;have h3 : (textL []).length = 0 := rfl;exact ⟨h1, by omega⟩
  ·cases k with
   | zero =>
    obtain ⟨t, ht⟩ := exists_at (List.length_pos_iff.2 hk);exact absurd (w4 t (List.mem_of_getElem? ht)) (fun e => e)
   | succ k =>
    rw [linesT, if_neg hk]
    have hm := many_len (g := kidLines (linesT (k + 1)) d) (a := 1 + nlB (k + 1)) (b := 125 + tlB (k + 1) + 2 * nlB (k + 1)) d.kids.length (fun i hi => by
     obtain ⟨t, ht⟩ := exists_at hi;have htm := List.mem_of_getElem? ht;have ih := drawn_lines (k + 1) t (shape_kid h ht) (hn.2 t htm) (w4 t htm);unfold kidLines;rw [ht];simp only;split
     ·rcases hkk : d.keys[i]? with _ | key
      ·exact ⟨Nat.zero_le _, Nat.zero_le _⟩
      ·have h122 := key_len (w2 key (List.mem_of_getElem? hkk))
       simp only;split
       ·rename_i hkt
        have hs := scal_len (shape_kid h ht) (hn.2 t htm) (w4 t htm).1;have hp := tlB_pos k;rw [linesT, if_pos hkt, textL_cons];have h3 : (textL []).length = 0 := rfl;simp only [List.headD_cons, List.length_append, List.length_cons, List.length_nil];exact ⟨by omega, by omega⟩
       ·rw [textL_cons, textL_blank, List.length_cons, blank_len]
        simp only [List.length_append, List.length_cons, List.length_nil];exact ⟨by omega, by omega⟩
     ·rcases hlt : linesT (k + 1) t with _ | ⟨x, r⟩
      ·exact ⟨Nat.zero_le _, Nat.zero_le _⟩
      ·rw [hlt, textL_cons, List.length_cons] at ih
       simp only;rw [textL_cons, textL_blank, List.length_cons, blank_len];simp only [List.length_append, List.length_cons, List.length_nil]
       exact ⟨by omega, by omega⟩)
    have q1 : d.kids.length * (1 + nlB (k + 1)) <= 4 * (1 + nlB (k + 1)) := Nat.mul_le_mul_right _ w3;have q2 : d.kids.length * (125 + tlB (k + 1) + 2 * nlB (k + 1)) <= 4 * (125 + tlB (k + 1) + 2 * nlB (k + 1)) := Nat.mul_le_mul_right _ w3;exact ⟨Nat.le_trans hm.1 q1, Nat.le_trans hm.2 q2⟩
theorem Drawn.lines {d : TreeD} (h : Drawn 4 d) : (textL (linesT 4 d)).length <= 19044 := (drawn_lines 4 d h.shape h.num h.word).2
theorem many_same {g h : Nat -> List (List UInt8)} : ∀ n, (∀ i, i < n -> g i = h i) -> manyL g n = manyL h n
 | 0, _ => rfl
 | n + 1, e => by rw [manyL, manyL, many_same n (fun i hi => e i (by omega)), e n (by omega)]
theorem kidLines_same {f g : TreeD -> List (List UInt8)} {d : TreeD} (h : ∀ t ∈ d.kids, f t = g t) (i : Nat) : kidLines f d i = kidLines g d i := by
 unfold kidLines;rcases ht : d.kids[i]? with _ | t
 ·rfl
 ·simp only
  rw [h t (List.mem_of_getElem? ht)]
theorem lines_up : ∀ (n m : Nat) (d : TreeD), n <= m -> shapeT n d = true -> linesT m d = linesT n d
 | 0, _, _, _, h => by cases h
 | n + 1, 0, _, hm, _ => absurd hm (by omega)
 | n + 1, m + 1, d, hm, h => by
  have hk : ∀ t ∈ d.kids, linesT m t = linesT n t := fun t ht => by
   obtain ⟨i, hi⟩ := List.getElem?_of_mem ht;exact lines_up n m t (by omega) (shape_kid h hi)
  rw [linesT, linesT];split
  ·rfl
  ·exact many_same _ (fun i _ => kidLines_same hk i)
structure TenI (d : TreeD) : Prop where
 ten : Ten d
 ind : (textL (linesT 10 d)).length <= 19044
theorem Drawn.tenI {d : TreeD} (h : Drawn 4 d) : TenI d := ⟨h.ten, by rw [lines_up 4 10 d (by decide) h.shape]; exact h.lines⟩
def tin (d : TreeD) : ByteArray := bs (textL (linesT 10 d))
theorem tin_size (d : TreeD) : (tin d).size = (textL (linesT 10 d)).length := size_mk _
theorem TenI.size {d : TreeD} (h : TenI d) : (tin d).size <= 19044 := by rw [tin_size]; exact h.ind
theorem TenI.text {d : TreeD} (h : TenI d) : indB 10 d = tin d := by
 have := h.ind;unfold indB;rw [if_pos h.ten.ok, if_neg (by omega)];rfl
theorem TenI.read {d : TreeD} (h : TenI d) : readIn (tin d) = (flt0, d) := readIn_back h.ten.ok h.ten.num (by have := h.ind; omega)
end Go.Proofs.YtohcpifekcehjaaGreatDoor
