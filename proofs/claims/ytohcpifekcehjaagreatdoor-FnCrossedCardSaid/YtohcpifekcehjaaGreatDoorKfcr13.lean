/- Steps to FnCrossed. No conditions. -/
import Derived.Test.YtohcpifekcehjaaGreatDoorKfcr12
import Derived.Test.YtohcpifekcehjaaGreatDoorKfcr6
import Derived.Test.YtohcpifekcehjaaGreatDoorKfcr2
import Derived.Test.YtohcpifekcehjaaGreatDoorKfcr11
import Derived.Test.YtohcpifekcehjaaGreatDoorKfcr8
import Derived.Test.YtohcpifekcehjaaGreatDoorKfcr1
import Derived.Test.YtohcpifekcehjaaGreatDoorKfcr9
import Derived.Test.YtohcpifekcehjaaGreatDoorKfcr10
import Derived.Test.YtohcpifekcehjaaGreatDoorKfcr4
import Derived.Test.YtohcpifekcehjaaGreatDoorKfcr7
import Derived.Deep.RegionLaw
import Derived.Lib.LazyBuf
import Derived.Test.YtohcpifekcehjaaGreatDoorKfcr3
import Derived.Test.YtohcpifekcehjaaGreatDoorKfcr5
import Derived.Deep.CutBlock
import Derived.Deep.CutRange
set_option maxHeartbeats 16000000
set_option maxRecDepth 20000
namespace Go.Proofs.YtohcpifekcehjaaGreatDoor
open Go.RowKit Go.Lib
theorem PutR.keysRow {n B nk nv b4 b5 c4 c5 e4 e5 : Nat} {A4 A5 E4 E5 B4 B5 : Option Addr} {d kid : TreeD} {w wr : World} {K : List ByteArray} {V : List TreeD} {ess : List (List Value)} {F : Nat -> Nat -> Prop} (h : PutR n d kid A4 c4 A5 c5 E4 e4 E5 e5 B w wr K V nk nv B4 b4 B5 b5 ess F) : wr.ownsRow (B + 1) 9 1 (.slice B4 nk b4) nk (K.map Value.string) := by
 have := h.map.keys;rw [h.hk] at this;exact this
theorem PutR.kidsRow {n B nk nv b4 b5 c4 c5 e4 e5 : Nat} {A4 A5 E4 E5 B4 B5 : Option Addr} {d kid : TreeD} {w wr : World} {K : List ByteArray} {V : List TreeD} {ess : List (List Value)} {F : Nat -> Nat -> Prop} (h : PutR n d kid A4 c4 A5 c5 E4 e4 E5 e5 B w wr K V nk nv B4 b4 B5 b5 ess F) : wr.ownsRow (B + 1) 34 6 (.slice B5 nv b5) nv ess.flatten := by
 have := h.map.kids;rw [h.hv] at this;exact this
theorem keep_of {W wx w2 : World} {o : Obj} {r : Option Nat} (hg : W.grownBy w2 r) (he : W.heap = (wx.alloc o).heap) : (∀ b, b < wx.heap.size -> r ≠ some b -> w2.heap[b]? = wx.heap[b]?) /\ wx.heap.size + 1 <= w2.heap.size := by
 have hz : W.heap.size = wx.heap.size + 1 := by rw [he]; simp
 refine ⟨fun b hb hn => ?_, by have := hg.size; omega⟩;rw [hg.block b (by omega) (fun e => hn e.symm), he];exact Below.heap_alloc _ _ _ hb
theorem putOne_eq {key k : ByteArray} {kid v : TreeD} {l l' : Bool} {K K' : List ByteArray} {V V' : List TreeD} (h : (if !l && !lessS k key then (⟨true, K ++ [key], V ++ [kid]⟩ : PutSt) else ⟨l, K, V⟩) = ⟨l', K', V'⟩) : putOne key kid ⟨l, K, V⟩ k v = if k = key then ⟨l', K', V'⟩ else ⟨l', K' ++ [k], V' ++ [v]⟩ := by
 unfold putOne;simp only;split at h
 ·rename_i c
  rw [if_pos c];cases h
  rfl
 ·rename_i c
  rw [if_neg c];cases h
  rfl
theorem putS_mem (key : ByteArray) (kid : TreeD) (ks : List ByteArray) (vs : List TreeD) : ∀ i, ∀ x ∈ (putS key kid ks vs i).vs, x = kid ∨ x ∈ vs
 | 0, x, hx => by cases hx
 | i + 1, x, hx => by
  have ih := putS_mem key kid ks vs i;rw [putS] at hx;split at hx
  ·rename_i k v hk hv
   have hvm := List.mem_of_getElem? hv;unfold putOne at hx;generalize putS key kid ks vs i = st at *;obtain ⟨l, K, V⟩ := st;simp only at *;repeat' split at hx
   all_goals (simp at hx)
   ·rcases hx with hx | hx
    ·exact ih x hx
    ·exact .inl hx
   ·rcases hx with hx | hx | hx
    ·exact ih x hx
    ·exact .inl hx
    ·subst hx; exact .inr hvm
   ·exact ih x hx
   ·rcases hx with hx | hx
    ·exact ih x hx
    ·subst hx; exact .inr hvm
  ·exact ih x hx
theorem put_size {n : Nat} {d kid : TreeD} (key : ByteArray) (hz : sizeT (n + 1) d <= 300) (hkz : sizeT n kid <= 1048576) (hl : d.keys.length = d.kids.length) : sizeT (n + 1) (putD d key kid) <= 1073741824 := by
 have hs := szL_leB (f := sizeT n) (B := 1048576) (l := (putE key kid (putS key kid d.keys d.kids d.keys.length)).vs) (fun x hx => by
  have h2 : x = kid ∨ x ∈ d.kids := by
   unfold putE at hx;split at hx
   ·exact putS_mem key kid d.keys d.kids _ x hx
   ·simp at hx
    rcases hx with hx | hx
    ·exact putS_mem key kid d.keys d.kids _ x hx
    ·exact .inl hx
  rcases h2 with rfl | h2
  ·exact hkz
  ·obtain ⟨i, hi⟩ := List.getElem?_of_mem h2
   have := size_kid (n := n) hi
   omega)
 have h3 : d.kids.length <= 300 ∨ n = 0 := by
  cases n with
  | zero => exact .inr rfl
  | succ n =>
   left
   have h4 : ∀ l : List TreeD, l.length <= szL (sizeT (n + 1)) l := by
    intro l;induction l with
    | nil => exact Nat.le_refl _
    | cons t l ih => simp only [szL, List.length_cons]; rw [sizeT_succ]; omega
   have := h4 d.kids;rw [sizeT_succ] at hz;omega
 have h5 := putS_len key kid d.keys d.kids d.keys.length;rw [sizeT_succ];show 1 + szL (sizeT n) (putE key kid (putS key kid d.keys d.kids d.keys.length)).vs <= _
 rcases h3 with h3 | h3
 ·have h6 : (putE key kid (putS key kid d.keys d.kids d.keys.length)).vs.length <= 302 := by
   unfold putE;split
   ·omega
   ·simp; omega
  have h7 := Nat.mul_le_mul_right 1048576 h6;omega
 ·subst h3
  have h8 : ∀ l : List TreeD, szL (sizeT 0) l = 0 := by
   intro l;induction l with
   | nil => rfl
   | cons t l ih => simp only [szL]; rw [ih]; rfl
  rw [h8];omega
theorem put_yes {n : Nat} {d kid : TreeD} {key : ByteArray} {w wF : World} {C4 C5 : Option Addr} {n4 d4 n5 d5 : Nat} (h : putB (n + 1) d key kid = true) (hO : OwnT (n + 1) (fun q => w.heap.size <= q /\ q < wF.heap.size) wF (putD d key kid) [.int .i64 6, .bool false, .int .i64 0, .string ⟨#[]⟩, .slice C4 n4 d4, .slice C5 n5 d5]) (hb : Below w.heap.size w wF) :
  PutP n d key kid w (.returned (.tuple #[.agg #[.int .i64 6, .bool false, .int .i64 0, .string ⟨#[]⟩, .slice C4 n4 d4, .slice C5 n5 d5], .bool true])) wF := by
 refine ⟨_, by rw [h], ?_, hb⟩;unfold putT;rw [if_pos h];exact hO
theorem c_put_main (n : Nat) (d kid : TreeD) (cs es : List Value) (key : ByteArray) (w : World) (lo : Nat) (h : C_Tree (n + 1) lo w.heap.size w d cs) (hkd : C_Tree n lo w.heap.size w kid es) (hkey : key.size <= 9223372036854775807) (hz : sizeT (n + 1) d <= 1073741824) (hkz : sizeT n kid <= 1048576) (hn : nTree (n + 1) d <= 1048576) (hkn : nTree n kid <= 1048576) (hd : d.kind = 6) (ho : okT (n + 1) d = true) : Calls Tryz.prog 149 #[.agg cs.toArray, .string key, .agg es.toArray] w (PutP n d key kid w) := by
 obtain ⟨i0, hi, hz0, hz1, hz2⟩ := info_parts (show (Tryz.prog.info? 34).map (fun i => (i.zero, i.size, i.bytes)) = some (some (.agg #[.int .i64 0, .bool false, .int .i64 0, .string ⟨#[]⟩, .slice none 0 0, .slice none 0 0]), 6, 88) from by kernel_rfl);obtain ⟨j0, gi, gz0, gz1, gz2⟩ := info_parts (show (Tryz.prog.info? 9).map (fun i => (i.zero, i.size, i.bytes)) = some (some (.string ⟨#[]⟩), 1, 16) from by kernel_rfl)
 have hx : (d.kind != 6) = false := by simp [hd]
 have hok : sizeT (n + 1) d <= 300 /\ d.keys.length = d.kids.length := by
  rw [okT_def] at ho;simp only [Bool.and_eq_true, decide_eq_true_eq] at ho;refine ⟨ho.1.2, ?_⟩;have := (shape_parts ho.2).2.2.1;unfold lensOk at this;simp [hd] at this;exact this
 have Hz3 := hid (put_size key hok.1 hkz hok.2);have Hks := hid (fun k f (hf : d.kids[k]? = some f) => (size_kid (n := n) hf));have Hln := hid hok.2;have Hbf := hid (show putB (n + 1) d key kid = okT (n + 1) (putD d key kid) by unfold putB; rw [hd, ho]; rfl);obtain ⟨v4, v5, rfl, a0, a2, a3, a4, a5⟩ := h.out;obtain ⟨A4, c4, rfl, hlc4, hcc4, hA4⟩ := a4;obtain ⟨A5, c5, rfl, hlc5, hcc5, hA5⟩ := a5
 obtain ⟨E4, e4, E5, e5, rfl⟩ := C_Tree.open hkd;have m4 : d.keys.length <= 1048576 := by rw [nTree_succ] at hn; have := nL_def ByteArray.size d.keys; omega
 have HC := hid h;have HKd := hid hkd;have Ho := hid ho;have HA4 := hid hA4;have HA5 := hid hA5;clear h hd ho hok hkd hA4 hA5;go_enter Tryz.func149, Tryz.ntmps149
 go_wp2_with fail
 refine (c_spec_TreeOk (n + 1) d _ _ lo (HC.out.now bel) hz).mono ?_;rintro e w1 ⟨rfl, hb1⟩;rw [Ho.out];have HB1 := hid (Below.trans bel (hb1.mono (by simp; try omega)) : Below w.heap.size w w1);have hA := hid ((hb1.block w.heap.size (by simp; try omega)).trans ((Below.heap_alloc _ _ _ (by simp; try omega)).trans ((Below.heap_alloc _ _ _ (by simp; try omega)).trans (heap_at rfl))));have hK := hid ((hb1.block (w.heap.size + 1) (by simp; try omega)).trans ((Below.heap_alloc _ _ _ (by simp; try omega)).trans (heap_at (by simp))))
 have hZ := hid ((hb1.block (w.heap.size + 2) (by simp; try omega)).trans (heap_at (by simp)));have al := row_lt hA.out;have kl := row_lt hK.out;have zl := row_lt hZ.out;have hsz1 := hb1.size;simp at hsz1;obtain ⟨a0, a1, a2, a3, a4, a5, af⟩ := row6 hA.out;clear hb1;go_wp2_with fail
 go_loopw [9, 10] (fun s9 s10 wr => ∃ (i : Nat) (l : Bool) (K : List ByteArray) (V : List TreeD), i <= d.keys.length /\ s10 = .int .i64 i /\ s9 = .bool l /\ putS key kid d.keys d.kids i = ⟨l, K, V⟩ /\ ∃ (nk nv : Nat) (B4 : Option Addr) (b4 : Nat) (B5 : Option Addr) (b5 : Nat) (ess : List (List Value)) (F : Nat -> Nat -> Prop), PutR n d kid A4 c4 A5 c5 E4 e4 E5 e5 w1.heap.size w wr K V nk nv B4 b4 B5 b5 ess F) (fun _ s10 _ => d.keys.length - (intOf s10).toNat)
 case atStart =>
  exact ⟨0, false, [], [], Nat.zero_le _, rfl, rfl, rfl, 0, 0, none, 0, none, 0, [], (fun _ _ => False), ⟨(Below.heap_alloc _ _ _ al).trans hA.out, (Below.heap_alloc _ _ _ kl).trans hK.out, (Below.heap_alloc _ _ _ zl).trans hZ.out, heap_at rfl, rfl, rfl, MapG.nil _ _ _ _, HB1.out.alloc HB1.out.size _, by omega⟩⟩
 case round =>
  clear a0 a1 a2 a3 a4 a5 af;obtain ⟨i, l, K, V, hile, rfl, rfl, hst, nk, nv, B4, b4, B5, b5, ess, F, hP⟩ := hrel;have hsl := putS_len key kid d.keys d.kids i;rw [hst] at hsl;have hnk : nk <= 1048577 := by have := hP.hk; have := hsl.2.1; simp only at this; omega
  have hnv : nv <= 1048577 := by have := hP.hv; have := hP.hk; have := hsl.1; simp only at this; omega
  have HS := hid hst;have HP := hid hP;clear hst hP hsl;obtain ⟨a0, a1, a2, a3, a4, a5, af⟩ := row6 HP.out.ra;have wal := row_lt HP.out.ra;by_cases hlt : i < d.keys.length
  ·obtain ⟨b, o, rfl, -, hb2, hcell⟩ := HA4.out (by omega)
   obtain ⟨k, hk⟩ := exists_at hlt;obtain ⟨es', -, hcs, rfl, hks⟩ := hcell i k hk;have hc := (HP.out.below.cell (p := ⟨b, o + i * 1 + 0, none⟩) (by simp; omega)).trans (hcs 0 (by omega));simp at hc;have Hcs := hid hcs;have hlt5 : i < d.kids.length := by have := Hln.out; omega
   obtain ⟨fb, fo, rfl, -, hfb2, hfcell⟩ := HA5.out (by omega);obtain ⟨v, hv⟩ := exists_at hlt5;obtain ⟨fs, -, hfc, hCf⟩ := hfcell i v hv;obtain ⟨gA4, gc4, gA5, gc5, rfl, ga0, ga2, ga3⟩ := hCf.flat;have hnf : nTree n v <= 1048576 := by rw [nTree_succ] at hn; have := nL_def (nTree n) d.kids; have := szL_take_succ (nTree n) d.kids i v hv; have := szL_take_le (nTree n) d.kids (i+1); omega
   have Hnx := hid (putS_next (key := key) (kid := kid) hk hv);have HCf := hid hCf;have Hfc := hid hfc;have hi0 : (0 : Int) <= i := by omega
   have hi1 : (i : Int) < d.keys.length := by omega
   have hi2 : (i : Int) < d.kids.length := by omega
   have hbl : b < wr.heap.size := Nat.lt_of_lt_of_le hb2 HP.out.below.size;clear hcs hcell hfcell hfc hCf hk hv;obtain ⟨q, hq⟩ : ∃ q, q = (!l && !lessS k key) := ⟨_, rfl⟩
   go_upto_region 8 with fail
   go_cut [39] from 29 to 39 (fun s39 wx => s39 = .bool q /\ wr = wx)
   case first =>
    cases l with
    | true =>
     go_wp2_with fail
     go_meet
     exact ⟨by rw [hq]; rfl, rfl⟩
    | false =>
     by_cases hq1 : lessS k key = true
     focus
      have hql : Op.bytesLess k.toList key.toList = true := hq1;rw [hq1] at hq
     rotate_left
     focus
      have hq0 : lessS k key = false := by simpa using hq1
      have hql : Op.bytesLess k.toList key.toList = false := hq0;rw [hq0] at hq;clear hq1
     rotate_left
     all_goals
      go_wp2_with fail
      go_meet
      exact ⟨by rw [hq]; rfl, rfl⟩
   case rest =>
   obtain ⟨rfl, rfl⟩ := hcut;have Hq := hid hq;clear hq;go_upto_if 39 with fail
   go_cut [9] from 40 to 52 (fun s9 wx => ∃ (l' : Bool) (K' : List ByteArray) (V' : List TreeD), s9 = .bool l' /\ (if !l && !lessS k key then (⟨true, K ++ [key], V ++ [kid]⟩ : PutSt) else ⟨l, K, V⟩) = ⟨l', K', V'⟩ /\ K'.length <= 1048577 /\ V'.length <= 1048577 /\ ∃ (nk nv : Nat) (B4 : Option Addr) (b4 : Nat) (B5 : Option Addr) (b5 : Nat) (ess : List (List Value)) (F : Nat -> Nat -> Prop), PutR n d kid (some ⟨b, o, none⟩) c4 (some ⟨fb, fo, none⟩) c5 E4 e4 E5 e5 w1.heap.size w wx K' V' nk nv B4 b4 B5 b5 ess F)
   case first =>
    have hKl : K.length <= 1048576 + 1 := by have := HP.out.hk; omega
    have hVl : V.length <= 1048576 + 1 := by have := HP.out.hv; omega
    cases q with
    | false =>
     go_wp2_with fail
     go_meet
     exact ⟨l, K, V, rfl, by rw [<- Hq.out]; rfl, hKl, hVl, _, _, _, _, _, _, _, _, HP.out⟩
    | true =>
     have hsl := putS_len key kid d.keys d.kids i;rw [HS.out] at hsl
     have hl0 : l = false := by
      have := Hq.out;cases l
      ·rfl
      ·cases this
     have hk2 : K.length <= 1048576 := by have := hsl.2.2 hl0; simp only at this; omega
     have hv2 : V.length <= 1048576 := by have := hsl.1; simp only at this; omega
     clear hsl hKl hVl hl0;obtain ⟨x0, x1, x2, x3, x4, x5, xf⟩ := row6 HP.out.ro;have xl := row_lt HP.out.ro;have HKr := hid HP.out.keysRow;have hbrx : Below w.heap.size w wr := HP.out.below;obtain ⟨r, hr⟩ : ∃ r, r = (Value.slice B4 nk b4).ownBlock := ⟨_, rfl⟩
     have hrl : ∀ q, r = some q -> w1.heap.size + 1 <= q := fun q hq => (HKr.out.lt q (by rw [<- hr]; exact hq)).1
     have hnB : r ≠ some w1.heap.size := fun h => by have := hrl _ h; omega
     have HnB := hid hnB;have Hrl := hid hrl;have Hr := hid hr;clear hrl hr hnB;go_wp2_with (at_builtin; refine wpList_append_lies _ rfl (.tmp 41) (.tmp 43) 31 rfl (w1.heap.size + 1) 9 j0 (.string ⟨#[]⟩) 1 16 Tryz.underlying31 gi gz0 gz1 gz2 rfl (by decide) _ nk (K.map Value.string) rfl ((own_heap HKr.out rfl).alloc _) _ 1 1 [.string key] rfl rfl (World.news_of_block (heap_at (by simp))) (by intro u hu; simp at hu; subst hu; rfl) (by decide) (by unfold maxLen; omega) (by omega) (by simp; omega) _ rfl ?_)
     intro g cap w2 hown hgrow hat hlt2;have hgrow4 := grown_at Hr.out hgrow;obtain ⟨hkp, hs2⟩ := keep_of (wx := wr) hgrow4 rfl;have hbW : Below w.heap.size w w2 := Below.grown (B := w.heap.size) bel hgrow4 (by have := HP.out.below.size; simp; omega) (fun q hq => by have := Hrl.out q hq; omega);obtain ⟨hbx, hP2⟩ := HP.out.key hkey hown (fun b hb hne => hkp b hb (fun e => hne (by rw [<- Hr.out]; exact e))) (by omega) hbW (hat.imp id (fun h => by (try simp at h); omega))
     have HP2 := hid hP2;clear hgrow hgrow4 hkp hbW hown hat hP2 x0 x1 x2 x3 x4 x5 xf hs2 hbrx;obtain ⟨x0, x1, x2, x3, x4, x5, xf⟩ := row6 hbx;have xl2 := row_lt hbx;clear hbx;go_wp2_with fail
     obtain ⟨w3, hw3⟩ : ∃ W, W = w2.setCell ⟨w1.heap.size, 4, none⟩ (.slice (some ⟨g, 0, none⟩) (nk + 1) cap) := ⟨_, rfl⟩
     rw [<- hw3];have hP3 := HP2.out;rw [<- hw3] at hP3;have HP3 := hid hP3;have hbr3 : Below w.heap.size w w3 := hP3.below;clear hw3 hP3 HP2 x0 x1 x2 x3 x4 x5 xf xl xl2 HKr Hr Hrl HnB r;obtain ⟨x0, x1, x2, x3, x4, x5, xf⟩ := row6 HP3.out.ro;have xl := row_lt HP3.out.ro;obtain ⟨y0, y1, y2, y3, y4, y5, yf⟩ := row6 HP3.out.rk;have yl := row_lt HP3.out.rk;have HLr := hid HP3.out.kidsRow;obtain ⟨r, hr⟩ : ∃ r, r = (Value.slice B5 nv b5).ownBlock := ⟨_, rfl⟩
     have hrl : ∀ q, r = some q -> w1.heap.size + 1 <= q := fun q hq => (HLr.out.lt q (by rw [<- hr]; exact hq)).1
     have hnB : r ≠ some w1.heap.size := fun h => by have := hrl _ h; omega
     have HnB := hid hnB;have Hrl := hid hrl;have Hr := hid hr;clear hrl hr hnB;go_region_law (first | (go_simp; go_at_call 69; refine (all_l08 n kid _ _ lo (HKd.out.now bel) hkn).mono ?_; rintro e w9 ⟨cs9, rfl, ho9, hb9⟩; obtain ⟨fA4, fc4, fA5, fc5, rfl, fa0, fa2, fa3⟩ := ho9.flat; obtain ⟨-, -, -, -, -, p5, -⟩ := row6 ((hb9.block w1.heap.size xl).trans HP3.out.ro); have p9 : w1.heap.size < w9.heap.size := Nat.lt_of_lt_of_le xl hb9.size) | (refine step_append_lies _ rfl (.tmp 47) (.tmp 50) 32 rfl (w1.heap.size + 1) 34 i0 (.agg #[.int .i64 0, .bool false, .int .i64 0, .string ⟨#[]⟩, .slice none 0 0, .slice none 0 0]) 6 88 Tryz.underlying32 hi hz0 hz1 hz2 rfl (by decide) _ nv ess.flatten rfl (own9 HLr.out hb9 rfl rfl) ⟨w9.heap.size, 0, none⟩ 1 1 [.int .i64 kid.kind, .bool kid.flag, .int .i64 kid.num, .string kid.text, .slice fA4 kid.keys.length fc4, .slice fA5 kid.kids.length fc5] rfl rfl (World.news_of_block (heap_alloc_new w9 _)) ho9.one (by decide) (by unfold maxLen; omega) (by omega) (by have := hb9.size; simp at this ⊢; omega) _ rfl ?_; intro g2 cap2 w4 hown2 hgrow2 hat2 hlt4; have hgrow3 := grown_at Hr.out hgrow2; obtain ⟨-, -, -, -, -, q5, qf⟩ := row6 (row9 HP3.out.ro hb9 rfl hgrow2 Hr.out HnB.out)))
     all_goals
      have hs9 : w3.heap.size <= w9.heap.size := hb9.size;have hB9 : Below w.heap.size w w9 := bel;have hs4 := hgrow3.size;simp at hs4;have hk9 : ∀ b, b < w3.heap.size -> w9.heap[b]? = w3.heap[b]? := fun b hb => hb9.block b hb
      obtain ⟨-, F2, hP4⟩ := HP3.out.kid hk9 hs9 ho9 hown2 (fun b hb hne => (hgrow3.block b (by simp; omega) (fun e => hne (by rw [<- Hr.out]; exact e.symm))).trans (Below.heap_alloc _ _ _ hb)) (by omega) (Below.grown (hB9.alloc hB9.size _) hgrow3 (by have := hB9.size; simp; omega) (fun q hq => by have := Hrl.out q hq; omega)) (hat2.imp id (fun h => by (try simp at h); omega));have HP4 := hid hP4
      clear hgrow2 hgrow3 hown2 hat2 hP4 hk9 ho9 hb9;go_wp2_with fail
      go_meet
      exact ⟨true, _, _, rfl, by rw [<- Hq.out]; rfl, by simp; omega, by simp; omega, _, _, _, _, _, _, _, _, HP4.out⟩
   case rest =>
    obtain ⟨l', K, V, rfl, hif, hK2, hV2, nk, nv, B4, b4, B5, b5, ess, F, hP⟩ := hcut;have Hif := hid (putOne_eq (v := v) hif);clear hif HP a0 a1 a2 a3 a4 a5 af hc;obtain ⟨wx, hwx⟩ : ∃ x, x = wc := ⟨_, rfl⟩
    rw [<- hwx] at hP ⊢;clear hwx;have HP := hid hP;have hbrx : Below w.heap.size w wx := hP.below;have hnk : nk <= 1048577 := by have := hP.hk; omega
    have hnv : nv <= 1048577 := by have := hP.hv; omega
    clear hP;rw [HS.out] at Hnx;obtain ⟨a0, a1, a2, a3, a4, a5, af⟩ := row6 HP.out.ra;have wal := row_lt HP.out.ra;have hc := (HP.out.below.cell (p := ⟨b, o + i * 1 + 0, none⟩) (by simp; omega)).trans (Hcs.out 0 (by omega));simp at hc;have hblx : b < wx.heap.size := Nat.lt_of_lt_of_le hb2 HP.out.below.size;by_cases hke : k = key
    ·have HR := hid (show putS key kid d.keys d.kids (i + 1) = ⟨l', K, V⟩ by rw [Hnx.out, Hif.out, if_pos hke])
     have e1 : (k.toList == key.toList) = true := by rw [hke]; simp
     have e2 : (k.toList != key.toList) = false := by rw [hke]; simp
     clear hke;go_wp2_with fail
     go_roundw
     case rel => exact ⟨i + 1, l', K, V, by omega, by go_num, rfl, HR.out, _, _, _, _, _, _, _, _, HP.out⟩
     case measure => simp [intOf]; omega
    ·have HR := hid (show putS key kid d.keys d.kids (i + 1) = ⟨l', K ++ [k], V ++ [v]⟩ by rw [Hnx.out, Hif.out, if_neg hke])
     have e0 : ¬ k.toList = key.toList := fun e => hke (toList_inj e)
     have e1 : (k.toList == key.toList) = false := beq_eq_false_iff_ne.2 e0;have e2 : (k.toList != key.toList) = true := bne_iff_ne.2 e0;clear hke;go_upto_region 13 with fail
     go_cut [] from 60 to 69 (fun wy => ∃ (B4' : Option Addr) (b4' : Nat), PutR n d kid (some ⟨b, o, none⟩) c4 (some ⟨fb, fo, none⟩) c5 E4 e4 E5 e5 w1.heap.size w wy (K ++ [k]) V (nk + 1) nv B4' b4' B5 b5 ess F)
     case first =>
      obtain ⟨x0, x1, x2, x3, x4, x5, xf⟩ := row6 HP.out.ro;have xl := row_lt HP.out.ro;have HKr := hid HP.out.keysRow;have hbrx : Below w.heap.size w wx := HP.out.below;obtain ⟨r, hr⟩ : ∃ r, r = (Value.slice B4 nk b4).ownBlock := ⟨_, rfl⟩
      have hrl : ∀ q, r = some q -> w1.heap.size + 1 <= q := fun q hq => (HKr.out.lt q (by rw [<- hr]; exact hq)).1
      have hnB : r ≠ some w1.heap.size := fun h => by have := hrl _ h; omega
      have HnB := hid hnB;have Hrl := hid hrl;have Hr := hid hr;clear hrl hr hnB;go_wp2_with fail
      go_region_law (refine step_append_lies _ rfl (.tmp 61) (.tmp 67) 31 rfl (w1.heap.size + 1) 9 j0 (.string ⟨#[]⟩) 1 16 Tryz.underlying31 gi gz0 gz1 gz2 rfl (by decide) _ nk (K.map Value.string) rfl ((own_heap HKr.out rfl).alloc _) _ 1 1 [.string k] rfl rfl (World.news_of_block (heap_at (by simp))) (by intro u hu; simp at hu; subst hu; rfl) (by decide) (by unfold maxLen; omega) (by omega) (by simp; omega) _ rfl ?_; intro g cap w2 hown hgrow hat hlt2; have hgrow3 := grown_at Hr.out hgrow; obtain ⟨-, -, -, -, q4, -, qf⟩ := row6 (((keep_of (wx := wx) hgrow3 rfl).1 _ xl HnB.out).trans HP.out.ro))
      all_goals
       have hgrow4 := grown_at Hr.out hgrow;obtain ⟨hkp, hs2⟩ := keep_of (wx := wx) hgrow4 rfl;have hbW : Below w.heap.size w w2 := Below.grown (B := w.heap.size) bel hgrow4 (by have := HP.out.below.size; simp; omega) (fun q hq => by have := Hrl.out q hq; omega);obtain ⟨hbx, hP2⟩ := HP.out.key hks hown (fun b hb hne => hkp b hb (fun e => hne (by rw [<- Hr.out]; exact e))) (by omega) hbW (hat.imp id (fun h => by (try simp at h); omega))
       have HP2 := hid hP2;clear hgrow hgrow4 hkp hbW hown hat hP2 q4 qf hgrow3 a0 a1 a2 a3 a4 a5 af hc x0 x1 x2 x3 x4 x5 xf hs2 hbrx;obtain ⟨x0, x1, x2, x3, x4, x5, xf⟩ := row6 hbx;have xl2 := row_lt hbx;clear hbx;go_wp2_with fail
       go_meet
       exact ⟨_, _, HP2.out⟩
     case rest =>
      obtain ⟨B4', b4', hP3⟩ := hcut;obtain ⟨w3, hw3⟩ : ∃ x, x = wc := ⟨_, rfl⟩
      rw [<- hw3] at hP3 ⊢;clear hw3 HP hbrx a0 a1 a2 a3 a4 a5 af hc;have HP3 := hid hP3;have hbr3 : Below w.heap.size w w3 := hP3.below;clear hP3;go_wp2_with fail
      obtain ⟨x0, x1, x2, x3, x4, x5, xf⟩ := row6 HP3.out.ro;have xl := row_lt HP3.out.ro;have hc0 := (hbr3.cell (p := ⟨fb, fo + i * 6 + 0, none⟩) (by simp; omega)).trans (Hfc.out 0 (by omega));have hc1 := (hbr3.cell (p := ⟨fb, fo + i * 6 + 1, none⟩) (by simp; omega)).trans (Hfc.out 1 (by omega));have hc2 := (hbr3.cell (p := ⟨fb, fo + i * 6 + 2, none⟩) (by simp; omega)).trans (Hfc.out 2 (by omega))
      have hc3 := (hbr3.cell (p := ⟨fb, fo + i * 6 + 3, none⟩) (by simp; omega)).trans (Hfc.out 3 (by omega));have hc4 := (hbr3.cell (p := ⟨fb, fo + i * 6 + 4, none⟩) (by simp; omega)).trans (Hfc.out 4 (by omega));have hc5 := (hbr3.cell (p := ⟨fb, fo + i * 6 + 5, none⟩) (by simp; omega)).trans (Hfc.out 5 (by omega));simp at hc0 hc1 hc2 hc3 hc4 hc5;have fbl : fb < w3.heap.size := Nat.lt_of_lt_of_le hfb2 hbr3.size
      obtain ⟨y0, y1, y2, y3, y4, y5, yf⟩ := row6 HP3.out.ra;have yl := row_lt HP3.out.ra;have HLr := hid HP3.out.kidsRow;obtain ⟨r, hr⟩ : ∃ r, r = (Value.slice B5 nv b5).ownBlock := ⟨_, rfl⟩
      have hrl : ∀ q, r = some q -> w1.heap.size + 1 <= q := fun q hq => (HLr.out.lt q (by rw [<- hr]; exact hq)).1
      have hnB : r ≠ some w1.heap.size := fun h => by have := hrl _ h; omega
      have HnB := hid hnB;have Hrl := hid hrl;have Hr := hid hr;clear hrl hr hnB;go_region_law (first | (go_simp; go_at_call 69; refine (all_l08 n v _ _ lo (HCf.out.now bel) hnf).mono ?_; rintro e w9 ⟨cs9, rfl, ho9, hb9⟩; obtain ⟨fA4, fc4, fA5, fc5, rfl, fa0, fa2, fa3⟩ := ho9.flat; obtain ⟨-, -, -, -, -, p5, -⟩ := row6 ((hb9.block w1.heap.size xl).trans HP3.out.ro); have p9 : w1.heap.size < w9.heap.size := Nat.lt_of_lt_of_le xl hb9.size) | (refine step_append_lies _ rfl (.tmp 71) (.tmp 78) 32 rfl (w1.heap.size + 1) 34 i0 (.agg #[.int .i64 0, .bool false, .int .i64 0, .string ⟨#[]⟩, .slice none 0 0, .slice none 0 0]) 6 88 Tryz.underlying32 hi hz0 hz1 hz2 rfl (by decide) _ nv ess.flatten rfl (own9 HLr.out hb9 rfl rfl) ⟨w9.heap.size, 0, none⟩ 1 1 [.int .i64 v.kind, .bool v.flag, .int .i64 v.num, .string v.text, .slice fA4 v.keys.length fc4, .slice fA5 v.kids.length fc5] rfl rfl (World.news_of_block (heap_alloc_new w9 _)) ho9.one (by decide) (by unfold maxLen; omega) (by omega) (by have := hb9.size; simp at this ⊢; omega) _ rfl ?_; intro g2 cap2 w4 hown2 hgrow2 hat2 hlt4; have hgrow3 := grown_at Hr.out hgrow2; obtain ⟨-, -, -, -, -, q5, qf⟩ := row6 (row9 HP3.out.ro hb9 rfl hgrow2 Hr.out HnB.out)))
      all_goals
       have hs9 : w3.heap.size <= w9.heap.size := hb9.size;have hB9 : Below w.heap.size w w9 := bel;have hs4 := hgrow3.size;simp at hs4;have hk9 : ∀ b, b < w3.heap.size -> w9.heap[b]? = w3.heap[b]? := fun b hb => hb9.block b hb
       obtain ⟨-, F2, hP4⟩ := HP3.out.kid hk9 hs9 ho9 hown2 (fun b hb hne => (hgrow3.block b (by simp; omega) (fun e => hne (by rw [<- Hr.out]; exact e.symm))).trans (Below.heap_alloc _ _ _ hb)) (by omega) (Below.grown (hB9.alloc hB9.size _) hgrow3 (by have := hB9.size; simp; omega) (fun q hq => by have := Hrl.out q hq; omega)) (hat2.imp id (fun h => by (try simp at h); omega));have HP4 := hid hP4
       clear hgrow2 hgrow3 hown2 hat2 hP4 hk9 ho9 hb9;go_wp2_with fail
       go_roundw
       case rel => exact ⟨i + 1, l', _, _, by omega, by go_num, rfl, HR.out, _, _, _, _, _, _, _, _, HP4.out⟩
       case measure => simp [intOf]; omega
  ·obtain rfl : i = d.keys.length := by omega
   have hsl := putS_len key kid d.keys d.kids d.keys.length;rw [HS.out] at hsl;have hk2 : K.length <= 1048577 := by have := hsl.2.1; simp only at this; omega
   have hv2 : V.length <= 1048577 := by have := hsl.1; simp only at this; omega
   clear hsl;go_upto_if 82 with fail
   go_cut [] from 83 to 95 (fun wx => ∃ (K' : List ByteArray) (V' : List TreeD), putE key kid ⟨l, K, V⟩ = ⟨true, K', V'⟩ /\ ∃ (nk nv : Nat) (B4 : Option Addr) (b4 : Nat) (B5 : Option Addr) (b5 : Nat) (ess : List (List Value)) (F : Nat -> Nat -> Prop), PutR n d kid A4 c4 A5 c5 E4 e4 E5 e5 w1.heap.size w wx K' V' nk nv B4 b4 B5 b5 ess F)
   case first =>
    cases l with
    | true =>
     go_wp2_with fail
     go_meet
     exact ⟨K, V, rfl, _, _, _, _, _, _, _, _, HP.out⟩
    | false =>
     clear a0 a1 a2 a3 a4 a5 af wal;obtain ⟨x0, x1, x2, x3, x4, x5, xf⟩ := row6 HP.out.ro;have xl := row_lt HP.out.ro;have HKr := hid HP.out.keysRow;have hbrx : Below w.heap.size w wr := HP.out.below;obtain ⟨r, hr⟩ : ∃ r, r = (Value.slice B4 nk b4).ownBlock := ⟨_, rfl⟩
     have hrl : ∀ q, r = some q -> w1.heap.size + 1 <= q := fun q hq => (HKr.out.lt q (by rw [<- hr]; exact hq)).1
     have hnB : r ≠ some w1.heap.size := fun h => by have := hrl _ h; omega
     have HnB := hid hnB;have Hrl := hid hrl;have Hr := hid hr;clear hrl hr hnB;go_wp2_with (at_builtin; refine wpList_append_lies _ rfl (.tmp 84) (.tmp 86) 31 rfl (w1.heap.size + 1) 9 j0 (.string ⟨#[]⟩) 1 16 Tryz.underlying31 gi gz0 gz1 gz2 rfl (by decide) _ nk (K.map Value.string) rfl ((own_heap HKr.out rfl).alloc _) _ 1 1 [.string key] rfl rfl (World.news_of_block (heap_at (by simp))) (by intro u hu; simp at hu; subst hu; rfl) (by decide) (by unfold maxLen; omega) (by omega) (by simp; omega) _ rfl ?_)
     intro g cap w2 hown hgrow hat hlt2;have hgrow4 := grown_at Hr.out hgrow;obtain ⟨hkp, hs2⟩ := keep_of (wx := wr) hgrow4 rfl;have hbW : Below w.heap.size w w2 := Below.grown (B := w.heap.size) bel hgrow4 (by have := HP.out.below.size; simp; omega) (fun q hq => by have := Hrl.out q hq; omega);obtain ⟨hbx, hP2⟩ := HP.out.key hkey hown (fun b hb hne => hkp b hb (fun e => hne (by rw [<- Hr.out]; exact e))) (by omega) hbW (hat.imp id (fun h => by (try simp at h); omega))
     have HP2 := hid hP2;clear hgrow hgrow4 hkp hbW hown hat hP2 x0 x1 x2 x3 x4 x5 xf hs2 hbrx;obtain ⟨x0, x1, x2, x3, x4, x5, xf⟩ := row6 hbx;have xl2 := row_lt hbx;clear hbx;go_wp2_with fail
     obtain ⟨w3, hw3⟩ : ∃ W, W = w2.setCell ⟨w1.heap.size, 4, none⟩ (.slice (some ⟨g, 0, none⟩) (nk + 1) cap) := ⟨_, rfl⟩
     rw [<- hw3];have hP3 := HP2.out;rw [<- hw3] at hP3;have HP3 := hid hP3;have hbr3 : Below w.heap.size w w3 := hP3.below;clear hw3 hP3 HP2 x0 x1 x2 x3 x4 x5 xf xl xl2 HKr Hr Hrl HnB r;obtain ⟨x0, x1, x2, x3, x4, x5, xf⟩ := row6 HP3.out.ro;have xl := row_lt HP3.out.ro;obtain ⟨y0, y1, y2, y3, y4, y5, yf⟩ := row6 HP3.out.rk;have yl := row_lt HP3.out.rk;have HLr := hid HP3.out.kidsRow;obtain ⟨r, hr⟩ : ∃ r, r = (Value.slice B5 nv b5).ownBlock := ⟨_, rfl⟩
     have hrl : ∀ q, r = some q -> w1.heap.size + 1 <= q := fun q hq => (HLr.out.lt q (by rw [<- hr]; exact hq)).1
     have hnB : r ≠ some w1.heap.size := fun h => by have := hrl _ h; omega
     have HnB := hid hnB;have Hrl := hid hrl;have Hr := hid hr;clear hrl hr hnB;go_region_law (first | (go_simp; go_at_call 69; refine (all_l08 n kid _ _ lo (HKd.out.now bel) hkn).mono ?_; rintro e w9 ⟨cs9, rfl, ho9, hb9⟩; obtain ⟨fA4, fc4, fA5, fc5, rfl, fa0, fa2, fa3⟩ := ho9.flat; obtain ⟨-, -, -, -, -, p5, -⟩ := row6 ((hb9.block w1.heap.size xl).trans HP3.out.ro); have p9 : w1.heap.size < w9.heap.size := Nat.lt_of_lt_of_le xl hb9.size) | (refine step_append_lies _ rfl (.tmp 90) (.tmp 93) 32 rfl (w1.heap.size + 1) 34 i0 (.agg #[.int .i64 0, .bool false, .int .i64 0, .string ⟨#[]⟩, .slice none 0 0, .slice none 0 0]) 6 88 Tryz.underlying32 hi hz0 hz1 hz2 rfl (by decide) _ nv ess.flatten rfl (own9 HLr.out hb9 rfl rfl) ⟨w9.heap.size, 0, none⟩ 1 1 [.int .i64 kid.kind, .bool kid.flag, .int .i64 kid.num, .string kid.text, .slice fA4 kid.keys.length fc4, .slice fA5 kid.kids.length fc5] rfl rfl (World.news_of_block (heap_alloc_new w9 _)) ho9.one (by decide) (by unfold maxLen; omega) (by omega) (by have := hb9.size; simp at this ⊢; omega) _ rfl ?_; intro g2 cap2 w4 hown2 hgrow2 hat2 hlt4; have hgrow3 := grown_at Hr.out hgrow2; obtain ⟨-, -, -, -, -, q5, qf⟩ := row6 (row9 HP3.out.ro hb9 rfl hgrow2 Hr.out HnB.out)))
     all_goals
      have hs9 : w3.heap.size <= w9.heap.size := hb9.size;have hB9 : Below w.heap.size w w9 := bel;have hs4 := hgrow3.size;simp at hs4;have hk9 : ∀ b, b < w3.heap.size -> w9.heap[b]? = w3.heap[b]? := fun b hb => hb9.block b hb
      obtain ⟨-, F2, hP4⟩ := HP3.out.kid hk9 hs9 ho9 hown2 (fun b hb hne => (hgrow3.block b (by simp; omega) (fun e => hne (by rw [<- Hr.out]; exact e.symm))).trans (Below.heap_alloc _ _ _ hb)) (by omega) (Below.grown (hB9.alloc hB9.size _) hgrow3 (by have := hB9.size; simp; omega) (fun q hq => by have := Hrl.out q hq; omega)) (hat2.imp id (fun h => by (try simp at h); omega));have HP4 := hid hP4
      clear hgrow2 hgrow3 hown2 hat2 hP4 hk9 ho9 hb9;go_wp2_with fail
      go_meet
      exact ⟨_, _, rfl, _, _, _, _, _, _, _, _, HP4.out⟩
   case rest =>
    obtain ⟨K, V, hE, nk, nv, B4, b4, B5, b5, ess, F, hP⟩ := hcut;have HE := hid (show tMap K V = putD d key kid by unfold putD; rw [HS.out, hE]);clear a0 a1 a2 a3 a4 a5 af wal HP hE hnk hnv hk2 hv2;obtain ⟨wx, hwx⟩ : ∃ x, x = wc := ⟨_, rfl⟩
    rw [<- hwx] at hP ⊢;clear hwx;have HP := hid hP;have hbrx : Below w.heap.size w wx := hP.below;have hO := hP.map.tree (wF := wx) (S := fun q => w1.heap.size + 1 <= q /\ q < wx.heap.size) (fun _ _ _ => rfl) (fun b h1 h2 => ⟨h1, h2⟩);rw [HE.out] at hO;have HO := hid hO;clear hP hO;obtain ⟨x0, x1, x2, x3, x4, x5, xf⟩ := row6 HP.out.ro;have xl := row_lt HP.out.ro;go_wp2_with fail
    refine (c_spec_TreeOk (n + 1) (putD d key kid) _ _ 0 ((HO.out.toC (lo := 0) (hi := wx.heap.size) (fun b hb => ⟨Nat.zero_le _, hb.2⟩)).now bel) Hz3.out).mono ?_;rintro e w5 ⟨rfl, hb5⟩;have HB5 := hid (hbrx.trans (hb5.mono hbrx.size));have hrA := hid ((hb5.block _ (row_lt HP.out.ra)).trans HP.out.ra);have hrZ := hid ((hb5.block _ (row_lt HP.out.rz)).trans HP.out.rz);have hrO := hid ((hb5.block _ xl).trans HP.out.ro)
    have H5 := hid hb5;have hz5 := hb5.size;clear x0 x1 x2 x3 x4 x5 xf hb5;by_cases hB : okT (n + 1) (putD d key kid) = true
    ·have HF := hid (Hbf.out.trans hB)
     rw [hB];obtain ⟨x0, x1, x2, x3, x4, x5, xf⟩ := row6 hrO.out;obtain ⟨z0, z1, z2, z3, z4, z5, zf⟩ := row6 hrZ.out;have xl5 := row_lt hrO.out;have zl5 := row_lt hrZ.out;clear hB;go_wp2_with fail
     refine bodyPost_ret (v := .tuple #[.agg #[.int .i64 6, .bool false, .int .i64 0, .string ⟨#[]⟩, .slice B4 nk b4, .slice B5 nv b5], .bool true]) (by simp only [results, Tryz.results149]; go_simp) rfl (put_yes HF.out (HO.out.carry (fun b hb => Eq.trans (Aside.block (S := fun b => b = w.heap.size + 2) (w := w5) asd b (by have := hb.2; omega) (by have := hb.1; omega)) (H5.out.block b hb.2)) (fun b hb => by have q1 := hb.1; have q2 := hb.2; (try simp); omega)) (HB5.out.trans (Aside.below (S := fun b => b = w.heap.size + 2) asd HB5.out.size (fun i hi => by omega))))
    ·have hB0 : okT (n + 1) (putD d key kid) = false := by simpa using hB
     have HF := hid (Hbf.out.trans hB0);rw [hB0];obtain ⟨a0, a1, a2, a3, a4, a5, af⟩ := row6 hrA.out;have al5 := row_lt hrA.out;have zl1 := row_lt hrZ.out;have hbr5 := HB5.out;clear hB hB0;go_wp2_with fail
     refine (all_l08 (n + 1) d _ _ lo (HC.out.now bel) hn).mono ?_;rintro e wc ⟨cs1, rfl, hO, hbc⟩;obtain ⟨C4, d4, C5, d5, rfl, -⟩ := hO.flat;have Zc := (hbc.block (w.heap.size + 2) (row_lt hrZ.out)).trans hrZ.out;have zl := row_lt Zc;obtain ⟨z0, z1, z2, z3, z4, z5, zf⟩ := row6 Zc;have HO := hid hO;have Bc : Below w.heap.size w wc := HB5.out.trans (hbc.mono HB5.out.size);have hzc := hbc.size
     clear Zc hO hbc;go_wp2_with fail
     refine bodyPost_ret (v := .tuple #[.agg #[.int .i64 d.kind, .bool d.flag, .int .i64 d.num, .string d.text, .slice C4 d.keys.length d4, .slice C5 d.kids.length d5], .bool false]) (by simp only [results, Tryz.results149]; go_simp) rfl (put_no HF.out (HO.out.carry (fun b hb => Aside.block (S := fun b => b = w.heap.size + 2) (w := wc) asd b hb.2 (by have q1 := hb.1; (try simp at q1); omega)) (fun b hb => by have q1 := hb.1; have q2 := hb.2; (try simp at q1); (try simp at q2); (try simp); omega)) (Bc.trans (Aside.below (S := fun b => b = w.heap.size + 2) asd Bc.size (fun i hi => by omega))))
theorem c_PutKid (n : Nat) (d kid : TreeD) (cs es : List Value) (key : ByteArray) (w : World) (lo : Nat) (h : C_Tree (n + 1) lo w.heap.size w d cs) (hkd : C_Tree n lo w.heap.size w kid es) (hkey : key.size <= 9223372036854775807) (hz : sizeT (n + 1) d <= 1073741824) (hkz : sizeT n kid <= 1048576) (hn : nTree (n + 1) d <= 1048576) (hkn : nTree n kid <= 1048576) : Calls Tryz.prog 149 #[.agg cs.toArray, .string key, .agg es.toArray] w (PutP n d key kid w) := by
 by_cases hd : d.kind = 6
 ·by_cases ho : okT (n + 1) d = true
  ·exact c_put_main n d kid cs es key w lo h hkd hkey hz hkz hn hkn hd ho
  ·exact c_put_not n d kid cs es key w lo h hkd hkey hz hkz hn hkn hd (by simpa using ho)
 ·exact c_put_kind n d kid cs es key w lo h hkd hkey hz hkz hn hkn hd
open Go.RowKit Go.ChangeShapes Go.WideShapes Go.ChangeAt
theorem sl_ints (w : World) (l : List Int) (hn : l.length <= 9223372036854775807) (ty : TypeId) (cs : Array Value) (hc : cs = (l.map (Value.int .i64)).toArray) :
  SlOf C_Int 1 w.heap.size (w.alloc (.cells cs ty)).heap.size (w.alloc (.cells cs ty)) l (.slice (some ⟨w.heap.size, 0, none⟩) l.length l.length) := by
 subst hc;refine ⟨_, _, rfl, Nat.le_refl _, hn, fun _ => ⟨w.heap.size, 0, rfl, Nat.le_refl _, by simp, fun i d hd => ⟨[.int .i64 d], rfl, fun j hj => ?_, rfl⟩⟩⟩;obtain rfl : j = 0 := by omega
 rw [cell_of_row _ _ _ _ _ _ (heap_alloc_new w _)];simp [hd]
theorem c_l01PickInt (code : List UInt8) (p : Nat) (l : List Int) (v : Value) (lo : Nat) (w : World) (h : CurAt code p w) (hl : SlOf C_Int 1 lo w.heap.size w l v) (hp : p < lo) (h1 : 0 < l.length) (h2 : l.length <= 1048576) :
  Calls Tryz.prog 145 #[.pointer (some ⟨p, 0, none⟩), v] w fun e w' => ∃ s : Int, e = .returned (.int .i64 s) /\ s ∈ l /\ Dr code p w w' := by
 have Hl := Lib.hid hl;obtain ⟨A, c, rfl, hlc, hc, hA⟩ := hl;obtain ⟨b, o, rfl, hb1, hb2, hcell⟩ := hA h1;have hi1 : (0 : Int) < l.length := by omega
 have HC := Lib.hid hcell;clear hA hcell;go_enter Tryz.func145, Tryz.ntmps145
 go_wp2_with fail
 refine (c_l01Below code p l.length _ h (by omega)).mono ?_;rintro e w1 ⟨x, rfl, hx0, hx1, -, hd⟩;have hx2 := hx1 hi1;obtain ⟨k, rfl⟩ : ∃ k : Nat, x = k := ⟨x.toNat, by omega⟩
 obtain ⟨s, hs⟩ := exists_at (show k < l.length by omega);obtain ⟨es, -, hes, rfl⟩ := HC.out k s hs
 have hy : w1.cell? ⟨b, o + k, none⟩ = some (.int .i64 s) := by
  have := hes 0 (by omega);rw [hd.cell hb2 (by omega)]
  simpa using this
 have Hs := Lib.hid (List.mem_of_getElem? hs);clear hes hs hx1;have HD := Lib.hid hd;clear hd;go_wp2_with fail
 go_ret
 exact ⟨s, rfl, Hs.out, HD.out⟩
theorem c_l07Rune (code : List UInt8) (p : Nat) (w : World) (h : CurAt code p w) :
  Calls Tryz.prog 251 #[.pointer (some ⟨p, 0, none⟩)] w fun e w' => ∃ x : Int, e = .returned (.int .i64 x) /\ (-1 <= x /\ x <= 1114112) /\ Dr code p w w' := by
 have hall : ∀ x ∈ ([0, 9, 10, 31, 32, 34, 92, 126, 127, 128, 2047, 2048, 55295, 55296, 57343, 57344, 65533, 65535, 65536, 1114111, 1114112, -1] : List Int), -1 <= x /\ x <= 1114112 := by decide
 have Hall := Lib.hid hall;clear hall;go_enter Tryz.func251, Tryz.ntmps251
 go_wp2_with fail
 refine (c_l01Below code p 5 _ h (by omega)).mono ?_;rintro e w1 ⟨x, rfl, hx0, hx1, -, hd⟩;have hx2 := hx1 (by decide);have hc1 := hd.cur;have hpl := hc1.lt;have HD := Lib.hid hd;clear hd hx1;by_cases q0 : x = 0
 ·subst q0
  go_wp2_with fail
  refine (c_l01PickInt code p ([0, 9, 10, 31, 32, 34, 92, 126, 127, 128, 2047, 2048, 55295, 55296, 57343, 57344, 65533, 65535, 65536, 1114111, 1114112, -1] : List Int) _ w1.heap.size (w1.alloc (.cells #[.int .i64 0, .int .i64 9, .int .i64 10, .int .i64 31, .int .i64 32, .int .i64 34, .int .i64 92, .int .i64 126, .int .i64 127, .int .i64 128, .int .i64 2047, .int .i64 2048, .int .i64 55295, .int .i64 55296, .int .i64 57343, .int .i64 57344, .int .i64 65533, .int .i64 65535, .int .i64 65536, .int .i64 1114111, .int .i64 1114112, .int .i64 (-1)] 3)) (hc1.below (ext_alloc (Below.refl _ _))) (sl_ints w1 ([0, 9, 10, 31, 32, 34, 92, 126, 127, 128, 2047, 2048, 55295, 55296, 57343, 57344, 65533, 65535, 65536, 1114111, 1114112, -1] : List Int) (by decide) 3 _ rfl) hpl (by decide) (by decide)).mono ?_
  rintro e w2 ⟨y, rfl, hy, hd2⟩;have HD2 := Lib.hid (HD.out.trans (Dr.cut hd2));have Hy := Lib.hid (Hall.out y hy);clear hy hd2;go_wp2_with fail
  go_ret
  exact ⟨y, rfl, Hy.out, HD2.out⟩
 ·by_cases q1 : x = 1
  ·subst q1
   go_wp2_with fail
   refine (c_l01Below code p 1114112 _ hc1 (by omega)).mono ?_;rintro e w2 ⟨y, rfl, hy0, hy1, -, hd2⟩;have hy2 := hy1 (by decide);have HD2 := Lib.hid (HD.out.trans hd2);clear hd2 hy1;go_wp2_with fail
   go_ret
   exact ⟨y, rfl, ⟨by omega, by omega⟩, HD2.out⟩
  ·go_wp2_with fail
   refine (c_l01Below code p 95 _ hc1 (by omega)).mono ?_;rintro e w2 ⟨y, rfl, hy0, hy1, -, hd2⟩;have hy2 := hy1 (by decide);have HD2 := Lib.hid (HD.out.trans hd2);clear hd2 hy1;go_wp2_with fail
   go_ret
   exact ⟨32 + y, rfl, ⟨by omega, by omega⟩, HD2.out⟩
theorem c_l02Num (code : List UInt8) (p : Nat) (w : World) (h : CurAt code p w) :
  Calls Tryz.prog 146 #[.pointer (some ⟨p, 0, none⟩)] w fun e w' => ∃ x : Int, e = .returned (.int .i64 x) /\ (I64 x) /\ Dr code p w w' := by
 have hall : ∀ x ∈ ([0, 1, -1, 9223372036854775807, 9223372036854775806, 4611686018427387904, 4611686018427387903, -9223372036854775808, 3037000499, 3037000500] : List Int), I64 x := by unfold I64; decide
 have Hall := Lib.hid hall;clear hall;go_enter Tryz.func146, Tryz.ntmps146
 go_wp2_with fail
 refine (c_l01Below code p 5 _ h (by omega)).mono ?_;rintro e w1 ⟨x, rfl, hx0, hx1, -, hd⟩;have hx2 := hx1 (by decide);have hc1 := hd.cur;have hpl := hc1.lt;have HD := Lib.hid hd;clear hd hx1;by_cases q0 : x = 0
 ·subst q0
  go_wp2_with fail
  refine (c_l01PickInt code p ([0, 1, -1, 9223372036854775807, 9223372036854775806, 4611686018427387904, 4611686018427387903, -9223372036854775808, 3037000499, 3037000500] : List Int) _ w1.heap.size (w1.alloc (.cells #[.int .i64 0, .int .i64 1, .int .i64 (-1), .int .i64 9223372036854775807, .int .i64 9223372036854775806, .int .i64 4611686018427387904, .int .i64 4611686018427387903, .int .i64 (-9223372036854775808), .int .i64 3037000499, .int .i64 3037000500] 3)) (hc1.below (ext_alloc (Below.refl _ _))) (sl_ints w1 ([0, 1, -1, 9223372036854775807, 9223372036854775806, 4611686018427387904, 4611686018427387903, -9223372036854775808, 3037000499, 3037000500] : List Int) (by decide) 3 _ rfl) hpl (by decide) (by decide)).mono ?_
  rintro e w2 ⟨y, rfl, hy, hd2⟩;have HD2 := Lib.hid (HD.out.trans (Dr.cut hd2));have Hy := Lib.hid (Hall.out y hy);clear hy hd2;go_wp2_with fail
  go_ret
  exact ⟨y, rfl, Hy.out, HD2.out⟩
 ·by_cases q1 : x = 1
  ·subst q1
   go_wp2_with fail
   refine (c_l01Below code p 1000000000 _ hc1 (by omega)).mono ?_;rintro e w2 ⟨y, rfl, hy0, hy1, -, hd2⟩;have hy2 := hy1 (by decide);have hc2 := hd2.cur;have HD2 := Lib.hid (HD.out.trans hd2);clear hd2 hy1;go_wp2_with fail
   refine (c_l01Below code p 1000000000 _ hc2 (by omega)).mono ?_;rintro e w3 ⟨z, rfl, hz0, hz1, -, hd3⟩;have hz2 := hz1 (by decide);have HD3 := Lib.hid (HD2.out.trans hd3);clear hd3 hz1;have m0 : 0 <= y * (1 + z) := Int.mul_nonneg hy0 (by omega);have m1 : y * (1 + z) <= 1000000000 * 1000000001 := Int.mul_le_mul (by omega) (by omega) (by omega) (by decide);go_wp2_with fail
   go_ret
   exact ⟨y * (1 + z), rfl, ⟨by omega, by omega⟩, HD3.out⟩
  ·go_wp2_with fail
   refine (c_l01Below code p 5000 _ hc1 (by omega)).mono ?_;rintro e w2 ⟨y, rfl, hy0, hy1, -, hd2⟩;have hy2 := hy1 (by decide);have HD2 := Lib.hid (HD.out.trans hd2);clear hd2 hy1;go_wp2_with fail
   go_ret
   exact ⟨y, rfl, ⟨by omega, by omega⟩, HD2.out⟩
open Go.RowKit
theorem RowE.dr {D : Type} {enc : D -> List Value} {sz ty base : Nat} {w w' : World} {l : List D} {v : Value} {code : List UInt8} {p : Nat} (h : RowE enc sz ty base w l v) (k : Dr code p w w') (hp : p < base) : RowE enc sz ty base w' l v :=
 h.carry (fun q hq => k.block (World.ownsRow.lt h q hq).2 (by have := (World.ownsRow.lt h q hq).1; omega))
theorem Dr.low {code : List UInt8} {p : Nat} {a b c : World} (h : Dr code p a b) (k : Below a.heap.size b c) (hp : p < a.heap.size) : Dr code p a c :=
 ⟨⟨k.os.trans h.aside.os, k.tape.trans h.aside.tape, k.output.trans h.aside.output, Nat.le_trans h.aside.size k.size, fun i hi hn => (k.block i hi).trans (h.aside.block i hi hn)⟩, h.cur.keep (fun i hle => k.block i (Nat.lt_of_le_of_lt hle hp))⟩
def encI (x : Int) : List Value := [.int .i64 x]
theorem encI_len (x : Int) : (encI x).length = 1 := rfl
theorem encI_one (x : Int) : ∀ v ∈ encI x, v.oneCell' = true := by intro v hv; simp [encI] at hv; rw [hv]; rfl
theorem encI_C (x : Int) (es : List Value) (h : C_Int x es) : es = encI x := h
theorem Dr.up {code : List UInt8} {p B : Nat} {a b c : World} (h : Dr code p a b) (k : Below B b c) (hp : p < B) (hB : a.heap.size = B := by rfl) : Dr code p a c := by
 subst hB;exact h.low k hp
theorem row_ints {w : World} {base k c : Nat} {A : Option Addr} {l : List Int} (h : RowE encI 1 3 base w l (.slice A k c)) : SlOf C_Int 1 0 w.heap.size w l (.slice A k c) := by
 have h1 := h.sl encI_len (C := C_Int) (fun d _ => rfl);exact SlOf.keep h1 (fun _ _ _ _ => rfl) (Nat.zero_le _) (Nat.le_refl _) (fun _ _ _ h => h)
theorem c_l07Text (code : List UInt8) (p most : Nat) (w : World) (h : CurAt code p w) (hm : most <= 100) :
  Calls Tryz.prog 214 #[.pointer (some ⟨p, 0, none⟩), .int .i64 most] w fun e w' => ∃ l : List Int, e = .returned (.string ⟨(textsI l).toArray⟩) /\ l.length <= most /\ Dr code p w w' := by
 have hpl := h.lt;obtain ⟨i0, hi, hz0, hz1, hz2⟩ := info_parts (show (Tryz.prog.info? 3).map (fun i => (i.zero, i.size, i.bytes)) = some (some (.int .i64 0), 1, 8) from by kernel_rfl);have H0 := hid h;go_enter Tryz.func214, Tryz.ntmps214
 go_wp2_with fail
 go_loopw [5, 6] (fun s i wr => ∃ (k : Nat) (l : List Int), k <= most /\ l.length = k /\ i = .int .i64 k /\ RowE encI 1 3 w.heap.size wr l s /\ (∀ x ∈ l, -1 <= x /\ x <= 1114112) /\ Dr code p w wr) (fun _ i _ => most - (intOf i).toNat)
 case atStart => exact ⟨0, [], Nat.zero_le _, rfl, rfl, own_empty rfl (Nat.le_refl _), fun x hx => (by cases hx), Dr.alloc (Dr.refl H0.out) _⟩
 case round =>
  obtain ⟨k, l, hk, hl, rfl, hR, hA, hd⟩ := hrel;obtain ⟨A, c, rfl⟩ := hR.form;rw [hl] at hR;have HR := hid hR;have HA := hid hA;have HD := hid hd;have hws := hd.size;have HL := hid hl;clear hR hA hd;go_wp2_with fail
  refine (c_l01Below code p ((most : Int) + 1) _ HD.out.cur (by omega)).mono ?_;rintro e w2 ⟨x, rfl, hx0, hx1, -, hd2⟩;have hx2 := hx1 (by omega);have HD2 := hid (HD.out.trans hd2);have HR2 := hid (HR.out.dr hd2 hpl);have hw2 := HD2.out.size;clear hd2 hx1;by_cases hlt : (k : Int) < x
  ·have hltd : decide ((k : Int) < x) = true := decide_eq_true hlt
   go_wp2_with fail
   refine (c_l07Rune code p _ HD2.out.cur).mono ?_;rintro e w3 ⟨y, rfl, hy, hd3⟩;have HY := hid hy;have HD3 := hid (HD2.out.trans hd3);have HR3 := hid (HR2.out.dr hd3 hpl);have hw3 := HD3.out.size;clear hd3 hy;go_wp2_with (at_builtin; go_loud (refine wpList_append_rows (C := C_Int) rfl (.tmp 16) (.tmp 19) 132 rfl w.heap.size 3 i0 (.int .i64 0) 1 8 Tryz.underlying132 hi hz0 hz1 hz2 rfl (by decide) encI_len encI_one encI_C _ k l rfl HL.out (HR3.out.below bel) [y] (some ⟨_, 0, none⟩) 1 1 _ _ rfl rfl (sl_ints w3 [y] (by simp) 3 _ rfl) (by unfold maxLen; omega) (by omega) (by simp; omega) ?_))
   intro v' w4 hR4 hg4 ha4;obtain ⟨A4, c4, rfl⟩ := hR4.form;have hb4 : Below w.heap.size w3 w4 := Below.grown ((bel : Below w3.heap.size w3 _).mono hw3) hg4 (by simp; omega) (fun q hq => (World.ownsRow.lt HR3.out q hq).1);have HR4 := hid hR4;have HD4 := hid (HD3.out.up hb4 hpl);have hln : (l ++ [y]).length = k + 1 := by rw [List.length_append, HL.out]; rfl
   have HLn := hid hln;rw [hln];clear hR4 hg4 ha4 hb4 hln;go_wp2_with fail
   go_roundw
   case rel => exact ⟨k + 1, l ++ [y], by omega, HLn.out, by go_num, by first | exact HR4.out | (rw [<- HLn.out]; exact HR4.out), fun z hz => by rcases List.mem_append.1 hz with hz | hz; exact HA.out z hz; (simp at hz; rw [hz]; exact HY.out), HD4.out⟩
   case measure => first | omega | (simp [Lib.intOf]; omega) | (simp [intOf]; omega)
  ·have hltd : decide ((k : Int) < x) = false := decide_eq_false hlt
   go_wp2_with fail
   refine (c_spec_RunesText l _ w2 0 (row_ints HR2.out) (fun z hz => by have := HA.out z hz; omega) (by have := HL.out; omega)).mono ?_;rintro e w5 ⟨rfl, hb5⟩;have HD5 := hid (HD2.out.step hb5);clear hb5;go_wp2_with fail
   go_ret
   exact ⟨l, rfl, by have := HL.out; omega, HD5.out⟩
theorem c_l08Word (code : List UInt8) (p : Nat) (w : World) (h : CurAt code p w) :
  Calls Tryz.prog 147 #[.pointer (some ⟨p, 0, none⟩)] w fun e w' => ∃ s : ByteArray, e = .returned (.string s) /\ WordOk s /\ Dr code p w w' := by
 have HA := hid (words_low (L := ([⟨#[]⟩, ⟨#[110, 117, 108, 108]⟩, ⟨#[116, 114, 117, 101]⟩, ⟨#[126]⟩, ⟨#[45]⟩, ⟨#[45, 32, 97]⟩, ⟨#[97, 58, 32, 98]⟩, ⟨#[97, 32, 35, 98]⟩, ⟨#[49, 50]⟩, ⟨#[45, 48]⟩, ⟨#[48, 48, 55]⟩, ⟨#[120, 10, 121]⟩, ⟨#[32, 97]⟩, ⟨#[97, 32]⟩, ⟨#[34, 113, 34]⟩, ⟨#[91]⟩, ⟨#[123, 125]⟩, ⟨#[107, 58]⟩, ⟨#[35]⟩, ⟨#[53, 48, 48, 109]⟩, ⟨#[50, 71, 105]⟩] : List ByteArray)) (by decide));have HB := hid (words_low (L := ([⟨#[97]⟩, ⟨#[98]⟩, ⟨#[110, 97, 109, 101]⟩, ⟨#[107, 105, 110, 100]⟩, ⟨#[120, 45, 121]⟩, ⟨#[108, 97, 98, 101, 108, 115]⟩] : List ByteArray)) (by decide))
 go_enter Tryz.func147, Tryz.ntmps147
 go_wp2_with fail
 refine (c_l01Below code p 4 _ h (by omega)).mono ?_;rintro e w1 ⟨x, rfl, hx0, hx1, -, hd⟩;have hx2 := hx1 (by decide);have hc1 := hd.cur;have hpl := hc1.lt;have HD := hid hd;clear hd hx1;by_cases q0 : x = 0
 ·subst q0
  go_wp2_with fail
  refine (c_l07Text code p 5 _ hc1 (by decide)).mono ?_;rintro e w2 ⟨l, rfl, hl, hd2⟩;have HD2 := hid (HD.out.trans hd2);have HL := hid (word_texts hl);clear hd2 hl;go_wp2_with fail
  go_ret
  exact ⟨_, rfl, HL.out, HD2.out⟩
 ·by_cases q1 : x = 1
  focus
   subst q1;go_wp2_with fail
   refine (c_l01Pick code p ([⟨#[]⟩, ⟨#[110, 117, 108, 108]⟩, ⟨#[116, 114, 117, 101]⟩, ⟨#[126]⟩, ⟨#[45]⟩, ⟨#[45, 32, 97]⟩, ⟨#[97, 58, 32, 98]⟩, ⟨#[97, 32, 35, 98]⟩, ⟨#[49, 50]⟩, ⟨#[45, 48]⟩, ⟨#[48, 48, 55]⟩, ⟨#[120, 10, 121]⟩, ⟨#[32, 97]⟩, ⟨#[97, 32]⟩, ⟨#[34, 113, 34]⟩, ⟨#[91]⟩, ⟨#[123, 125]⟩, ⟨#[107, 58]⟩, ⟨#[35]⟩, ⟨#[53, 48, 48, 109]⟩, ⟨#[50, 71, 105]⟩] : List ByteArray) _ w1.heap.size (w1.alloc (.cells #[.string ⟨#[]⟩, .string ⟨#[110, 117, 108, 108]⟩, .string ⟨#[116, 114, 117, 101]⟩, .string ⟨#[126]⟩, .string ⟨#[45]⟩, .string ⟨#[45, 32, 97]⟩, .string ⟨#[97, 58, 32, 98]⟩, .string ⟨#[97, 32, 35, 98]⟩, .string ⟨#[49, 50]⟩, .string ⟨#[45, 48]⟩, .string ⟨#[48, 48, 55]⟩, .string ⟨#[120, 10, 121]⟩, .string ⟨#[32, 97]⟩, .string ⟨#[97, 32]⟩, .string ⟨#[34, 113, 34]⟩, .string ⟨#[91]⟩, .string ⟨#[123, 125]⟩, .string ⟨#[107, 58]⟩, .string ⟨#[35]⟩, .string ⟨#[53, 48, 48, 109]⟩, .string ⟨#[50, 71, 105]⟩] 9)) (hc1.below (ext_alloc (Below.refl _ _))) (sl_lit w1 ([⟨#[]⟩, ⟨#[110, 117, 108, 108]⟩, ⟨#[116, 114, 117, 101]⟩, ⟨#[126]⟩, ⟨#[45]⟩, ⟨#[45, 32, 97]⟩, ⟨#[97, 58, 32, 98]⟩, ⟨#[97, 32, 35, 98]⟩, ⟨#[49, 50]⟩, ⟨#[45, 48]⟩, ⟨#[48, 48, 55]⟩, ⟨#[120, 10, 121]⟩, ⟨#[32, 97]⟩, ⟨#[97, 32]⟩, ⟨#[34, 113, 34]⟩, ⟨#[91]⟩, ⟨#[123, 125]⟩, ⟨#[107, 58]⟩, ⟨#[35]⟩, ⟨#[53, 48, 48, 109]⟩, ⟨#[50, 71, 105]⟩] : List ByteArray) (fun s hs => Nat.le_trans (HA.out s hs).2 (by decide)) (by decide) 9 _ rfl) hpl (by decide) (by decide)).mono ?_
   rintro e w2 ⟨s, rfl, hs, hd2⟩;have HD2 := hid (HD.out.trans (Dr.cut hd2));have Hs := hid (HA.out s hs)
  rotate_left
  focus
   go_wp2_with fail
   refine (c_l01Pick code p ([⟨#[97]⟩, ⟨#[98]⟩, ⟨#[110, 97, 109, 101]⟩, ⟨#[107, 105, 110, 100]⟩, ⟨#[120, 45, 121]⟩, ⟨#[108, 97, 98, 101, 108, 115]⟩] : List ByteArray) _ w1.heap.size (w1.alloc (.cells #[.string ⟨#[97]⟩, .string ⟨#[98]⟩, .string ⟨#[110, 97, 109, 101]⟩, .string ⟨#[107, 105, 110, 100]⟩, .string ⟨#[120, 45, 121]⟩, .string ⟨#[108, 97, 98, 101, 108, 115]⟩] 9)) (hc1.below (ext_alloc (Below.refl _ _))) (sl_lit w1 ([⟨#[97]⟩, ⟨#[98]⟩, ⟨#[110, 97, 109, 101]⟩, ⟨#[107, 105, 110, 100]⟩, ⟨#[120, 45, 121]⟩, ⟨#[108, 97, 98, 101, 108, 115]⟩] : List ByteArray) (fun s hs => Nat.le_trans (HB.out s hs).2 (by decide)) (by decide) 9 _ rfl) hpl (by decide) (by decide)).mono ?_
   rintro e w2 ⟨s, rfl, hs, hd2⟩;have HD2 := hid (HD.out.trans (Dr.cut hd2));have Hs := hid (HB.out s hs)
  rotate_left
  all_goals
   clear hd2 hs;go_wp2_with fail
   go_ret
   exact ⟨s, rfl, Hs.out, HD2.out⟩
def DrT (k : Nat) (code : List UInt8) (p : Nat) (w : World) (e : Ending) (w' : World) : Prop :=
 ∃ d cs, e = .returned (.agg cs.toArray) /\ Drawn k d /\ OwnT k (fun q => w.heap.size <= q /\ q < w'.heap.size) w' d cs /\ Dr code p w w'
theorem Dr.fin {code : List UInt8} {p H : Nat} {w w1 wF : World} (h : Dr code p w w1) (hA : Aside (fun b => b = H) w1 wF) (hH : w.heap.size <= H) (hp : p < w.heap.size) : Dr code p w wF :=
 ⟨⟨hA.os.trans h.aside.os, hA.tape.trans h.aside.tape, hA.output.trans h.aside.output, Nat.le_trans h.size hA.size, fun b hb hn => (hA.block b (Nat.lt_of_lt_of_le hb h.size) (by omega)).trans (h.aside.block b hb hn)⟩,
  h.cur.keep (fun b hb => hA.block b (by have := h.cur.lt; omega) (by omega))⟩
theorem Drawn.le {k : Nat} {d : TreeD} (h : Drawn k d) (hk : k <= 4) : sizeT k d <= 1048576 := by
 have h2 := h.size;rcases (show k = 0 ∨ k = 1 ∨ k = 2 ∨ k = 3 ∨ k = 4 by omega) with rfl | rfl | rfl | rfl | rfl
 all_goals exact Nat.le_trans h2 (by decide)
theorem i64_0 : I64 0 := by unfold I64; decide
theorem drawn_null {k : Nat} : Drawn (k + 1) ⟨1, false, 0, ⟨#[]⟩, [], []⟩ := drawn_leaf (by unfold badH inB; simp) word_none rfl rfl rfl i64_0 (by rw [sayL_succ, if_pos rfl]; decide)
theorem drawn_flag {k : Nat} (x : Bool) : Drawn (k + 1) ⟨2, x, 0, ⟨#[]⟩, [], []⟩ := drawn_leaf (by unfold badH inB; simp) word_none rfl rfl rfl i64_0 (by rw [sayL_succ, if_neg (show ¬ (2 : Int) = 1 by decide), if_pos rfl]; cases x <;> decide)
theorem drawn_int {k : Nat} {n : Int} (h : I64 n) : Drawn (k + 1) ⟨3, false, n, ⟨#[]⟩, [], []⟩ := drawn_leaf (by unfold badH inB; simp) word_none rfl rfl rfl h (by rw [sayL_succ, if_neg (show ¬ (3 : Int) = 1 by decide), if_neg (show ¬ (3 : Int) = 2 by decide), if_pos rfl]; exact Nat.le_trans (Nat.le_of_eq Array.length_toList) (Nat.le_trans (decS_size n h) (by decide)))
theorem drawn_text {k : Nat} {s : ByteArray} (h : WordOk s) : Drawn (k + 1) ⟨4, false, 0, s, [], []⟩ := drawn_leaf (by unfold badH inB; simp) h rfl rfl rfl i64_0 (by rw [sayL_succ, if_neg (show ¬ (4 : Int) = 1 by decide), if_neg (show ¬ (4 : Int) = 2 by decide), if_neg (show ¬ (4 : Int) = 3 by decide), if_pos rfl]; exact h.quote)
theorem nums_ok {z : Int} (h : I64 z) : ∀ x ∈ ([0, 1, -1, 42, 9223372036854775807, -9223372036854775808, z] : List Int), I64 x := by
 intro x hx;simp only [List.mem_cons, List.mem_nil_iff, or_false] at hx;rcases hx with rfl | rfl | rfl | rfl | rfl | rfl | rfl
 all_goals first | exact h | (unfold I64; decide)
theorem c_tree_one (code : List UInt8) (p : Nat) (w : World) (h : CurAt code p w) : Calls Tryz.prog 79 #[.pointer (some ⟨p, 0, none⟩), .int .i64 1] w (DrT 1 code p w) := by
 have hpl := h.lt;have hc := h.below (ext_alloc (o := (.cells #[.int .i64 0, .bool false, .int .i64 0, .string ⟨#[]⟩, .slice none 0 0, .slice none 0 0] 34)) (Below.refl w.heap.size w));go_enter Tryz.func79, Tryz.ntmps79
 go_wp2_with fail
 refine (c_l01Below code p 9 _ hc (by omega)).mono ?_;rintro e w1 ⟨x, rfl, hx0, hx1, -, hd⟩;have hx2 := hx1 (by decide);have hc1 := hd.cur;have HD := hid hd;clear hd hx1 hc;have hx : x = 0 ∨ x = 1 ∨ x = 2 ∨ x = 3 ∨ x = 4 ∨ x = 5 ∨ x = 6 ∨ x = 7 ∨ x = 8 := by omega
 clear hx0 hx2;rcases hx with q0 | q1 | q2 | q3 | q4 | q5 | q6 | q7 | q8
 ·subst q0
  have hZ := (HD.out.block (g := w.heap.size) (by simp) (by omega)).trans (heap_at (w := w) (o := (.cells #[.int .i64 0, .bool false, .int .i64 0, .string ⟨#[]⟩, .slice none 0 0, .slice none 0 0] 34)) rfl);obtain ⟨z0, z1, z2, z3, z4, z5, zf⟩ := row6 hZ;have zl := row_lt hZ;go_wp2_with fail
  refine bodyPost_ret (v := .agg #[.int .i64 1, .bool false, .int .i64 0, .string ⟨#[]⟩, .slice none 0 0, .slice none 0 0]) (by simp only [results, Tryz.results79]; go_simp) rfl ⟨⟨1, false, 0, ⟨#[]⟩, [], []⟩, _, rfl, drawn_null, own_leaf (by unfold I64; decide) i64_0 (by decide), HD.out.cut.fin (H := w.heap.size) asd (Nat.le_refl _) hpl⟩
 ·subst q1
  go_wp2_with fail
  refine (c_l01Once code p 2 _ hc1 (by omega)).mono ?_;rintro e w2 ⟨x, rfl, hd2⟩;have hd3 := HD.out.trans hd2;have hZ := (hd3.block (g := w.heap.size) (by simp) (by omega)).trans (heap_at (w := w) (o := (.cells #[.int .i64 0, .bool false, .int .i64 0, .string ⟨#[]⟩, .slice none 0 0, .slice none 0 0] 34)) rfl);obtain ⟨z0, z1, z2, z3, z4, z5, zf⟩ := row6 hZ;have zl := row_lt hZ;have HD2 := hid hd3.cut
  clear hd2 hd3;go_wp2_with fail
  refine bodyPost_ret (v := .agg #[.int .i64 2, .bool x, .int .i64 0, .string ⟨#[]⟩, .slice none 0 0, .slice none 0 0]) (by simp only [results, Tryz.results79]; go_simp) rfl ⟨⟨2, x, 0, ⟨#[]⟩, [], []⟩, _, rfl, drawn_flag x, own_leaf (by unfold I64; decide) i64_0 (by decide), HD2.out.fin (H := w.heap.size) asd (Nat.le_refl _) hpl⟩
 focus
  subst q2
 rotate_left
 focus
  subst q3
 rotate_left
 ·subst q4
  go_wp2_with fail
  refine (c_l08Word code p _ hc1).mono ?_;rintro e w2 ⟨s, rfl, hs, hd2⟩;have hd3 := HD.out.trans hd2;have HW := hid hs;have HD2 := hid hd3;clear hd2 hd3 hs;go_wp2_with fail
  refine (c_rs_TextTree s _).mono ?_;rintro e w4 ⟨rfl, hb4⟩;have hd6 := HD2.out.step hb4;have hZ := (hd6.block (g := w.heap.size) (by simp) (by omega)).trans (heap_at (w := w) (o := (.cells #[.int .i64 0, .bool false, .int .i64 0, .string ⟨#[]⟩, .slice none 0 0, .slice none 0 0] 34)) rfl);obtain ⟨z0, z1, z2, z3, z4, z5, zf⟩ := row6 hZ;have zl := row_lt hZ;have HD4 := hid hd6.cut;clear hb4 hd6
  go_wp2_with fail
  refine bodyPost_ret (v := .agg #[.int .i64 4, .bool false, .int .i64 0, .string s, .slice none 0 0, .slice none 0 0]) (by simp only [results, Tryz.results79]; go_simp) rfl ⟨⟨4, false, 0, s, [], []⟩, _, rfl, drawn_text HW.out, own_leaf (by unfold I64; decide) i64_0 (Nat.le_trans HW.out.2 (by decide)), HD4.out.fin (H := w.heap.size) asd (Nat.le_refl _) hpl⟩
 ·subst q5
  go_wp2_with fail
  refine (c_l08Word code p _ hc1).mono ?_;rintro e w2 ⟨s, rfl, hs, hd2⟩;have hd3 := HD.out.trans hd2;have HW := hid hs;have HD2 := hid hd3;clear hd2 hd3 hs;go_wp2_with fail
  refine (c_rs_TextTree s _).mono ?_;rintro e w4 ⟨rfl, hb4⟩;have hd6 := HD2.out.step hb4;have hZ := (hd6.block (g := w.heap.size) (by simp) (by omega)).trans (heap_at (w := w) (o := (.cells #[.int .i64 0, .bool false, .int .i64 0, .string ⟨#[]⟩, .slice none 0 0, .slice none 0 0] 34)) rfl);obtain ⟨z0, z1, z2, z3, z4, z5, zf⟩ := row6 hZ;have zl := row_lt hZ;have HD4 := hid hd6.cut;clear hb4 hd6
  go_wp2_with fail
  refine bodyPost_ret (v := .agg #[.int .i64 4, .bool false, .int .i64 0, .string s, .slice none 0 0, .slice none 0 0]) (by simp only [results, Tryz.results79]; go_simp) rfl ⟨⟨4, false, 0, s, [], []⟩, _, rfl, drawn_text HW.out, own_leaf (by unfold I64; decide) i64_0 (Nat.le_trans HW.out.2 (by decide)), HD4.out.fin (H := w.heap.size) asd (Nat.le_refl _) hpl⟩
 ·subst q6
  have hZ := (HD.out.block (g := w.heap.size) (by simp) (by omega)).trans (heap_at (w := w) (o := (.cells #[.int .i64 0, .bool false, .int .i64 0, .string ⟨#[]⟩, .slice none 0 0, .slice none 0 0] 34)) rfl);obtain ⟨z0, z1, z2, z3, z4, z5, zf⟩ := row6 hZ;have zl := row_lt hZ;go_wp2_with fail
  refine bodyPost_ret (v := .agg #[.int .i64 1, .bool false, .int .i64 0, .string ⟨#[]⟩, .slice none 0 0, .slice none 0 0]) (by simp only [results, Tryz.results79]; go_simp) rfl ⟨⟨1, false, 0, ⟨#[]⟩, [], []⟩, _, rfl, drawn_null, own_leaf (by unfold I64; decide) i64_0 (by decide), HD.out.cut.fin (H := w.heap.size) asd (Nat.le_refl _) hpl⟩
 ·subst q7
  go_wp2_with fail
  refine (c_l01Once code p 2 _ hc1 (by omega)).mono ?_;rintro e w2 ⟨x, rfl, hd2⟩;have hd3 := HD.out.trans hd2;have hZ := (hd3.block (g := w.heap.size) (by simp) (by omega)).trans (heap_at (w := w) (o := (.cells #[.int .i64 0, .bool false, .int .i64 0, .string ⟨#[]⟩, .slice none 0 0, .slice none 0 0] 34)) rfl);obtain ⟨z0, z1, z2, z3, z4, z5, zf⟩ := row6 hZ;have zl := row_lt hZ;have HD2 := hid hd3.cut
  clear hd2 hd3;go_wp2_with fail
  refine bodyPost_ret (v := .agg #[.int .i64 2, .bool x, .int .i64 0, .string ⟨#[]⟩, .slice none 0 0, .slice none 0 0]) (by simp only [results, Tryz.results79]; go_simp) rfl ⟨⟨2, x, 0, ⟨#[]⟩, [], []⟩, _, rfl, drawn_flag x, own_leaf (by unfold I64; decide) i64_0 (by decide), HD2.out.fin (H := w.heap.size) asd (Nat.le_refl _) hpl⟩
 focus
  subst q8
 rotate_left
 all_goals
  go_wp2_with fail
  refine (c_l02Num code p _ hc1).mono ?_;rintro e w2 ⟨z, rfl, hz, hd2⟩;have hall : ∀ x ∈ ([0, 1, -1, 42, 9223372036854775807, -9223372036854775808, z] : List Int), I64 x := nums_ok hz
  have Hall := hid hall;have hd3 := HD.out.trans hd2;have HD2 := hid hd3;have hc2 := hd2.cur;have hpl2 := hc2.lt;clear hd2 hd3 hz hall;go_wp2_with fail
  refine (c_l01PickInt code p ([0, 1, -1, 42, 9223372036854775807, -9223372036854775808, z] : List Int) _ w2.heap.size (w2.alloc (.cells #[.int .i64 0, .int .i64 1, .int .i64 (-1), .int .i64 42, .int .i64 9223372036854775807, .int .i64 (-9223372036854775808), .int .i64 z] 3)) (hc2.below (ext_alloc (Below.refl _ _))) (sl_ints w2 ([0, 1, -1, 42, 9223372036854775807, -9223372036854775808, z] : List Int) (by simp) 3 _ rfl) hpl2 (by simp) (by simp)).mono ?_
  rintro e w3 ⟨y, rfl, hy, hd4⟩;have hd5 := HD2.out.trans (Dr.cut hd4);have HY := hid (Hall.out y hy);have HD3 := hid hd5;clear hd4 hd5 hy hc2;go_wp2_with fail
  refine (c_rs_IntTree y _).mono ?_;rintro e w4 ⟨rfl, hb4⟩;have hd6 := HD3.out.step hb4;have hZ := (hd6.block (g := w.heap.size) (by simp) (by omega)).trans (heap_at (w := w) (o := (.cells #[.int .i64 0, .bool false, .int .i64 0, .string ⟨#[]⟩, .slice none 0 0, .slice none 0 0] 34)) rfl);obtain ⟨z0, z1, z2, z3, z4, z5, zf⟩ := row6 hZ;have zl := row_lt hZ;have HD4 := hid hd6.cut;clear hb4 hd6
  go_wp2_with fail
  refine bodyPost_ret (v := .agg #[.int .i64 3, .bool false, .int .i64 y, .string ⟨#[]⟩, .slice none 0 0, .slice none 0 0]) (by simp only [results, Tryz.results79]; go_simp) rfl ⟨⟨3, false, y, ⟨#[]⟩, [], []⟩, _, rfl, drawn_int HY.out, own_leaf (by unfold I64; decide) HY.out (by decide), HD4.out.fin (H := w.heap.size) asd (Nat.le_refl _) hpl⟩
theorem own_tlist {n base hi : Nat} {w wF : World} {l : List TreeD} {v : Value} {S : Nat -> Prop} (h : GrowK n base hi w l v) (hF : ∀ q, base <= q -> q < hi -> wF.heap[q]? = w.heap[q]?) (hS : ∀ b, base <= b -> b < hi -> S b) :
  OwnT (n + 1) S wF (tList l) [.int .i64 5, .bool false, .int .i64 0, .string ⟨#[]⟩, .slice none 0 0, v] :=
 OwnT.into ⟨_, _, fun _ => False, fun b => base <= b /\ b < hi, rfl, (show I64 5 from by unfold I64; decide), (show I64 0 from by unfold I64; decide), (show ByteArray.size ⟨#[]⟩ <= 9223372036854775807 from by decide), fun _ h => h.elim, fun b hb => hS b hb.1 hb.2,
  ⟨none, 0, rfl, Nat.le_refl _, by decide, fun h => by simp [tList] at h⟩, h.own.keep (fun b hb => hF b hb.1 hb.2) (fun _ h => h)⟩
theorem GrowK.carryD {code : List UInt8} {p n base hi : Nat} {w w' : World} {l : List TreeD} {v : Value} (h : GrowK n base hi w l v) (hd : Dr code p w w') (hp : p < base) (hh : hi <= w.heap.size) : GrowK n base hi w' l v := h.carry (Nat.le_refl _) (fun g h1 h2 => hd.block (g := g) (by omega) (by omega))
theorem set6_all {w : World} {b : Nat} {a0 a1 a2 a3 a4 a5 v0 v1 v2 v3 v4 v5 : Value} {e : TypeId} (h : w.heap[b]? = some (.cells #[a0, a1, a2, a3, a4, a5] e (0, 0))) :
  ((((((w.setCell ⟨b, 0, none⟩ v0).setCell ⟨b, 1, none⟩ v1).setCell ⟨b, 2, none⟩ v2).setCell ⟨b, 3, none⟩ v3).setCell ⟨b, 4, none⟩ v4).setCell ⟨b, 5, none⟩ v5).heap[b]? = some (.cells #[v0, v1, v2, v3, v4, v5] e (0, 0)) :=
 heap_setCell_same _ b 5 _ _ _ (heap_setCell_same _ b 4 _ _ _ (heap_setCell_same _ b 3 _ _ _ (heap_setCell_same _ b 2 _ _ _ (heap_setCell_same _ b 1 _ _ _ (heap_setCell_same w b 0 _ _ _ h)))))
theorem c_tree_more (k : Nat) (hk : k <= 2) (ih : ∀ (code : List UInt8) (p : Nat) (w : World), CurAt code p w -> Calls Tryz.prog 79 #[.pointer (some ⟨p, 0, none⟩), .int .i64 ((k + 1 : Nat) : Int)] w (DrT (k + 1) code p w))
  (code : List UInt8) (p : Nat) (w : World) (h : CurAt code p w) : Calls Tryz.prog 79 #[.pointer (some ⟨p, 0, none⟩), .int .i64 ((k + 2 : Nat) : Int)] w (DrT (k + 2) code p w) := by
 obtain ⟨i0, hi, hz0, hz1, hz2⟩ := info_parts (show (Tryz.prog.info? 34).map (fun i => (i.zero, i.size, i.bytes)) = some (some (.agg #[.int .i64 0, .bool false, .int .i64 0, .string ⟨#[]⟩, .slice none 0 0, .slice none 0 0]), 6, 88) from by kernel_rfl);have hpl := h.lt;have hc := h.below (ext_alloc (o := (.cells #[.int .i64 0, .bool false, .int .i64 0, .string ⟨#[]⟩, .slice none 0 0, .slice none 0 0] 34)) (Below.refl w.heap.size w))
 obtain ⟨D, hD⟩ : ∃ D : Int, D = ((k + 2 : Nat) : Int) := ⟨_, rfl⟩
 have hD1 : 2 <= D := by omega
 have hD4 : D <= 4 := by omega
 obtain ⟨E, hE⟩ : ∃ E : Int, E = ((k + 1 : Nat) : Int) := ⟨_, rfl⟩
 have hDs : Hid (D - 1 = E) := hid (by omega);have hEw : Hid (IntKind.i64.wrap (D - 1) = E) := hid (by rw [IntWalk.i64_in _ (by omega)]; omega);rw [<- hE] at ih;rw [<- hD];clear hD hE;have dD : decide (D <= 1) = false := decide_eq_false (by omega);go_enter Tryz.func79, Tryz.ntmps79
 go_wp2_with fail
 refine (c_l01Below code p 9 _ hc (by omega)).mono ?_;rintro e w1 ⟨y, rfl, hy0, hy1, -, hd⟩;have hy2 := hy1 (by decide);have hc1 := hd.cur;have HD := hid hd;have hz1' := hd.size;simp at hz1';clear hd hy1 hc;have hy : y = 0 ∨ y = 1 ∨ y = 2 ∨ y = 3 ∨ y = 4 ∨ y = 5 ∨ y = 6 ∨ 7 <= y := by omega
 rcases hy with q0 | q1 | q2 | q3 | q4 | q5 | q6 | q7
 ·subst q0
  have hZ := (HD.out.block (g := w.heap.size) (by simp) (by omega)).trans (heap_at (w := w) (o := (.cells #[.int .i64 0, .bool false, .int .i64 0, .string ⟨#[]⟩, .slice none 0 0, .slice none 0 0] 34)) rfl);obtain ⟨z0, z1, z2, z3, z4, z5, zf⟩ := row6 hZ;have zl := row_lt hZ;go_wp2_with fail
  refine bodyPost_ret (v := .agg #[.int .i64 1, .bool false, .int .i64 0, .string ⟨#[]⟩, .slice none 0 0, .slice none 0 0]) (by simp only [results, Tryz.results79]; go_simp) rfl ⟨⟨1, false, 0, ⟨#[]⟩, [], []⟩, _, rfl, drawn_null, own_leaf (by unfold I64; decide) i64_0 (by decide), HD.out.cut.fin (H := w.heap.size) asd (Nat.le_refl _) hpl⟩
 ·subst q1
  go_wp2_with fail
  refine (c_l01Once code p 2 _ hc1 (by omega)).mono ?_;rintro e w2 ⟨x, rfl, hd2⟩;have hd3 := HD.out.trans hd2;have hZ := (hd3.block (g := w.heap.size) (by simp) (by omega)).trans (heap_at (w := w) (o := (.cells #[.int .i64 0, .bool false, .int .i64 0, .string ⟨#[]⟩, .slice none 0 0, .slice none 0 0] 34)) rfl);obtain ⟨z0, z1, z2, z3, z4, z5, zf⟩ := row6 hZ;have zl := row_lt hZ;have HD2 := hid hd3.cut
  clear hd2 hd3;go_wp2_with fail
  refine bodyPost_ret (v := .agg #[.int .i64 2, .bool x, .int .i64 0, .string ⟨#[]⟩, .slice none 0 0, .slice none 0 0]) (by simp only [results, Tryz.results79]; go_simp) rfl ⟨⟨2, x, 0, ⟨#[]⟩, [], []⟩, _, rfl, drawn_flag x, own_leaf (by unfold I64; decide) i64_0 (by decide), HD2.out.fin (H := w.heap.size) asd (Nat.le_refl _) hpl⟩
 focus
  subst q2
 rotate_left
 focus
  subst q3
 rotate_left
 ·subst q4
  go_wp2_with fail
  refine (c_l08Word code p _ hc1).mono ?_;rintro e w2 ⟨s, rfl, hs, hd2⟩;have hd3 := HD.out.trans hd2;have HW := hid hs;have HD2 := hid hd3;clear hd2 hd3 hs;go_wp2_with fail
  refine (c_rs_TextTree s _).mono ?_;rintro e w4 ⟨rfl, hb4⟩;have hd6 := HD2.out.step hb4;have hZ := (hd6.block (g := w.heap.size) (by simp) (by omega)).trans (heap_at (w := w) (o := (.cells #[.int .i64 0, .bool false, .int .i64 0, .string ⟨#[]⟩, .slice none 0 0, .slice none 0 0] 34)) rfl);obtain ⟨z0, z1, z2, z3, z4, z5, zf⟩ := row6 hZ;have zl := row_lt hZ;have HD4 := hid hd6.cut;clear hb4 hd6
  go_wp2_with fail
  refine bodyPost_ret (v := .agg #[.int .i64 4, .bool false, .int .i64 0, .string s, .slice none 0 0, .slice none 0 0]) (by simp only [results, Tryz.results79]; go_simp) rfl ⟨⟨4, false, 0, s, [], []⟩, _, rfl, drawn_text HW.out, own_leaf (by unfold I64; decide) i64_0 (Nat.le_trans HW.out.2 (by decide)), HD4.out.fin (H := w.heap.size) asd (Nat.le_refl _) hpl⟩
 ·subst q5
  go_wp2_with fail
  refine (c_l08Word code p _ hc1).mono ?_;rintro e w2 ⟨s, rfl, hs, hd2⟩;have hd3 := HD.out.trans hd2;have HW := hid hs;have HD2 := hid hd3;clear hd2 hd3 hs;go_wp2_with fail
  refine (c_rs_TextTree s _).mono ?_;rintro e w4 ⟨rfl, hb4⟩;have hd6 := HD2.out.step hb4;have hZ := (hd6.block (g := w.heap.size) (by simp) (by omega)).trans (heap_at (w := w) (o := (.cells #[.int .i64 0, .bool false, .int .i64 0, .string ⟨#[]⟩, .slice none 0 0, .slice none 0 0] 34)) rfl);obtain ⟨z0, z1, z2, z3, z4, z5, zf⟩ := row6 hZ;have zl := row_lt hZ;have HD4 := hid hd6.cut;clear hb4 hd6
  go_wp2_with fail
  refine bodyPost_ret (v := .agg #[.int .i64 4, .bool false, .int .i64 0, .string s, .slice none 0 0, .slice none 0 0]) (by simp only [results, Tryz.results79]; go_simp) rfl ⟨⟨4, false, 0, s, [], []⟩, _, rfl, drawn_text HW.out, own_leaf (by unfold I64; decide) i64_0 (Nat.le_trans HW.out.2 (by decide)), HD4.out.fin (H := w.heap.size) asd (Nat.le_refl _) hpl⟩
 ·subst q6
  clear hy0 hy2;go_wp2_with fail
  go_loopw [6, 7] (fun s6 s7 wr => ∃ (i c : Nat) (A : Option Addr) (l : List TreeD), i <= 3 /\ s7 = .int .i64 i /\ s6 = .slice A i c /\ l.length = i /\ GrowK (k + 1) w1.heap.size wr.heap.size wr l (.slice A i c) /\ (∀ t ∈ l, Drawn (k + 1) t) /\ wr.heap[w.heap.size]? = some (.cells #[.int .i64 0, .bool false, .int .i64 0, .string ⟨#[]⟩, .slice none 0 0, .slice none 0 0] 34 (0, 0)) /\ Dr code p w wr /\ w1.heap.size <= wr.heap.size) (fun _ s7 _ => 4 - (intOf s7).toNat)
  case atStart =>
   exact ⟨0, 0, _, [], Nat.zero_le _, rfl, rfl, rfl, GrowK.empty rfl (Nat.le_refl _), fun t ht => (by cases ht), (Below.heap_alloc _ _ _ (by omega)).trans ((HD.out.block (g := w.heap.size) (by simp) (by omega)).trans (heap_at rfl)), HD.out.cut.alloc _, by simp⟩
  case round =>
   obtain ⟨i, c, A, l, hi3, rfl, rfl, hl, hG, hall, hZ, hdr, hws⟩ := hrel;have HG := hid hG;have HA := hid hall;have HZ := hid hZ;have HR := hid hdr;have HL := hid hl;have hcr := hdr.cur;clear hG hall hZ hdr hl hc1;go_wp2_with fail
   refine (c_l01Below code p 4 _ hcr (by omega)).mono ?_;rintro e w2 ⟨x, rfl, hx0, hx1, -, hd2⟩;have hx2 := hx1 (by decide);have hc2 := hd2.cur;have HG2 := hid (HG.out.carryD hd2 (by omega) (Nat.le_refl _));have HZ2 := hid ((hd2.block (g := w.heap.size) (by omega) (by omega)).trans HZ.out);have HR2 := hid (HR.out.trans hd2);have hs2 := hd2.size;clear hd2 hx1 hcr;by_cases hlt : (i : Int) < x
   ·have dlt : decide ((i : Int) < x) = true := decide_eq_true hlt
    go_wp2_with fail
    rw [hDs.out];refine (ih code p _ hc2).mono ?_;rintro e w9 ⟨t, es, rfl, hT, hO, hd9⟩;obtain ⟨fA4, fc4, fA5, fc5, rfl, -⟩ := hO.flat;have HT := hid hT;have HO := hid hO;have hs9 := hd9.size;have HG9 := HG2.out.carryD hd9 (by omega) hs2;have HZ9 := hid ((hd9.block (g := w.heap.size) (by omega) (by omega)).trans HZ2.out);have HR9 := hid (HR2.out.trans hd9);have hcl := hd9.cur.lt
    obtain ⟨ess, F, e1, e2, e3, e4, e5, e6, e7⟩ := HG9;rw [HL.out] at e3;have E := hid (And.intro e1 (And.intro e2 (And.intro e3 (And.intro e4 (And.intro e5 (And.intro e6 e7))))));have Hown := hid (fun q (hq : (Value.slice A i c).ownBlock = some q) => (e3.lt q hq).1);clear hT hO hd9 hc2 e1 e2 e3 e4 e5 e6 e7;go_wp2_with (at_builtin; refine wpList_append_lies _ rfl (.tmp 53) (.tmp 58) 32 rfl w1.heap.size 34 i0 (.agg #[.int .i64 0, .bool false, .int .i64 0, .string ⟨#[]⟩, .slice none 0 0, .slice none 0 0]) 6 88 Tryz.underlying32 hi hz0 hz1 hz2 rfl (by decide) _ i ess.flatten rfl (E.out.2.2.1.alloc _) _ 1 1 [.int .i64 t.kind, .bool t.flag, .int .i64 t.num, .string t.text, .slice fA4 t.keys.length fc4, .slice fA5 t.kids.length fc5] rfl rfl (World.news_of_block (heap_at (by simp))) HO.out.one (by decide) (by unfold maxLen; omega) (by omega) (by simp; omega) _ rfl ?_)
    intro g cap w3 hown hgrow hat hlt3;have hs3 := hgrow.size;simp at hs3
    have hP := GrowK.push (n := k + 1) (base := w1.heap.size) (hi := wr.heap.size) (w := w9.alloc (.cells #[.int .i64 t.kind, .bool t.flag, .int .i64 t.num, .string t.text, .slice fA4 t.keys.length fc4, .slice fA5 t.kids.length fc5] 34)) (S := fun b => w2.heap.size <= b /\ b < w9.heap.size) i HL.out (by simp; omega) (HO.out.carry (fun b hb => Below.heap_alloc _ _ b hb.2) (fun b hb => hb)) (fun b hb => by simp; omega) hws ess F E.out.1 E.out.2.1 E.out.2.2.2.1 E.out.2.2.2.2.1 E.out.2.2.2.2.2.1
     (fun j d' es' h1 h2 => (E.out.2.2.2.2.2.2 j d' es' h1 h2).carry (fun b hb => Below.heap_alloc _ _ b (by have := (E.out.2.2.2.2.1 j b hb).2.1; omega)) (fun _ h => h)) hown hgrow (hat.imp id (fun h => by (try simp at h); (try simp); omega)) hlt3
    have HP := hid hP;have hno : ∀ q, q < w1.heap.size -> (Value.slice A i c).ownBlock ≠ some q := fun q hq e => by have := Hown.out q e; omega
    have HZ3 := hid (((hgrow.block w.heap.size (by simp; omega) (fun e => hno _ (by omega) e.symm)).trans (Below.heap_alloc _ _ _ (by omega))).trans HZ9.out);have hb3 : Below w1.heap.size w9 w3 := Below.grown (B := w1.heap.size) ((Below.refl _ _).alloc (by omega) _) hgrow (by simp; omega) (fun q hq => Hown.out q hq);have HR3 := hid (HR9.out.low (hb3.mono (by omega)) hpl);clear hgrow hown hat hP hno
    go_wp2_with fail
    go_roundw
    case rel => exact ⟨i + 1, cap, _, l ++ [t], by omega, by go_num, rfl, by rw [List.length_append, HL.out]; rfl, HP.out, fun u hu => by rcases List.mem_append.1 hu with hu | hu; exact HA.out u hu; (simp at hu; rw [hu]; exact HT.out), HZ3.out, HR3.out, by omega⟩
    case measure => first | omega | (simp [Lib.intOf]; omega) | (simp [intOf]; omega)
   ·have dlt : decide ((i : Int) < x) = false := decide_eq_false hlt
    have hl := HL.out;subst hl;have hfit := ((drawn_list (k := k) (by omega) HA.out).fits (by omega)).1;have HC := hid ((own_tlist (S := fun q => w1.heap.size <= q /\ q < wr.heap.size) HG2.out (wF := w2) (fun _ _ _ => rfl) (fun b h1 h2 => ⟨h1, h2⟩)).toC (lo := 0) (hi := w2.heap.size) (fun b hb => ⟨Nat.zero_le _, by omega⟩));go_wp2_with fail
    refine (c_ListTreeG (k + 1) l A c w2 0 HC.out hfit).mono ?_;rintro e w5 ⟨cs5, rfl, hO5, hb5⟩;obtain ⟨C4, d4, C5, d5, rfl, -⟩ := hO5.flat;have HO5 := hid hO5;have HD5 := hid (HR2.out.step hb5);have hZ5 := (hb5.block w.heap.size (by omega)).trans HZ2.out;obtain ⟨z0, z1, z2, z3, z4, z5, zf⟩ := row6 hZ5;have zl := row_lt hZ5;have HDr := hid (drawn_list (k := k) (by omega) HA.out);clear hO5 hb5 hZ5 hfit
    go_wp2_with fail
    refine bodyPost_ret (v := .agg #[.int .i64 (tList l).kind, .bool (tList l).flag, .int .i64 (tList l).num, .string (tList l).text, .slice C4 (tList l).keys.length d4, .slice C5 (tList l).kids.length d5]) (by simp only [results, Tryz.results79]; go_simp) rfl ⟨tList l, _, rfl, HDr.out, HO5.out.carry (fun b hb => Aside.block (S := fun b => b = w.heap.size) (w := w5) asd b hb.2 (by have := hb.1; omega)) (fun b hb => by have q1 := hb.1; have q2 := hb.2; (try simp); omega), HD5.out.fin (H := w.heap.size) asd (Nat.le_refl _) hpl⟩
 ·have f0 : (y == 0) = false := beq_eq_false_iff_ne.2 (by omega)
  have f1 : (y == 1) = false := beq_eq_false_iff_ne.2 (by omega);have f2 : (y == 2) = false := beq_eq_false_iff_ne.2 (by omega);have f3 : (y == 3) = false := beq_eq_false_iff_ne.2 (by omega);have f4 : (y == 4) = false := beq_eq_false_iff_ne.2 (by omega);have f5 : (y == 5) = false := beq_eq_false_iff_ne.2 (by omega);have f6 : (y == 6) = false := beq_eq_false_iff_ne.2 (by omega);clear hy0 hy2 q7;go_wp2_with fail
  go_loopw [9] (fun s9 wr => ∃ (i c4 c5 : Nat) (A4 A5 : Option Addr) (K : List ByteArray) (V : List TreeD), i <= 4 /\ s9 = .int .i64 i /\ wr.heap[w1.heap.size]? = some (.cells #[.int .i64 6, .bool false, .int .i64 0, .string ⟨#[]⟩, .slice A4 K.length c4, .slice A5 V.length c5] 34 (0, 0)) /\ OwnT (k + 2) (fun q => w1.heap.size < q /\ q < wr.heap.size) wr (tMap K V) [.int .i64 6, .bool false, .int .i64 0, .string ⟨#[]⟩, .slice A4 K.length c4, .slice A5 V.length c5] /\ MapD (k + 1) i K V /\ wr.heap[w.heap.size]? = some (.cells #[.int .i64 0, .bool false, .int .i64 0, .string ⟨#[]⟩, .slice none 0 0, .slice none 0 0] 34 (0, 0)) /\ Dr code p w wr) (fun s9 _ => 5 - (intOf s9).toNat)
  case atStart =>
   exact ⟨0, 0, 0, none, none, [], [], Nat.zero_le _, rfl, heap_at rfl, own_leaf (by unfold I64; decide) i64_0 (by decide), MapD.nil _, (Below.heap_alloc _ _ _ (by omega)).trans ((HD.out.block (g := w.heap.size) (by simp) (by omega)).trans (heap_at rfl)), HD.out.cut.alloc _⟩
  case round =>
   clear f0 f1 f2 f3 f4 f5 f6;obtain ⟨i, c4, c5, A4, A5, K, V, hi4, rfl, hB, hO, hM, hZ, hdr⟩ := hrel;have HB := hid hB;have HO := hid hO;have HM := hid hM;have HZ := hid hZ;have HR := hid hdr;have hcr := hdr.cur;have hbl := row_lt hB;clear hB hO hM hZ hdr hc1;go_wp2_with fail
   refine (c_l01Below code p 5 _ hcr (by omega)).mono ?_;rintro e w2 ⟨x, rfl, hx0, hx1, -, hd2⟩;have hx2 := hx1 (by decide);have HC2 := hid hd2.cur;have HB2 := hid ((hd2.block (g := w1.heap.size) hbl (by omega)).trans HB.out);have HZ2 := hid ((hd2.block (g := w.heap.size) (by omega) (by omega)).trans HZ.out);have HR2 := hid (HR.out.trans hd2);have hs2 := hd2.size;have HO2 := hid (HO.out.carry (S' := fun q => w1.heap.size < q /\ q < w2.heap.size) (fun b hb => hd2.block (g := b) hb.2 (by have := hb.1; omega)) (fun b hb => ⟨hb.1, by have := hb.2; omega⟩))
   clear hd2 hx1 hcr;obtain ⟨x0, x1, x2', x3, x4, x5, xf⟩ := row6 HB2.out;have xl := row_lt HB2.out;by_cases hlt : (i : Int) < x
   ·have dlt : decide ((i : Int) < x) = true := decide_eq_true hlt
    have hxp : w1.heap.size ≠ p := by omega
    have hDw := hEw.out;have hz2b : sizeT (k + 2) (tMap K V) <= 1073741824 /\ nTree (k + 2) (tMap K V) <= 1048576 := by have h9 := (drawn_map (HM.out.more (m' := 4) (by omega))).fits (by omega); exact ⟨h9.2.1, h9.1⟩
    obtain ⟨hz2, hn2⟩ := hz2b;go_wp2_with fail
    go_region_law (first | (go_simp; go_at_call 147; refine (c_l08Word code p _ (HC2.out.below bel)).mono ?_; rintro e wa ⟨s, rfl, hs, hda⟩; obtain ⟨p0, p1, p2, p3, p4, p5, pf⟩ := row6 ((hda.block (g := w1.heap.size) xl hxp).trans HB2.out); have pxl : w1.heap.size < wa.heap.size := Nat.lt_of_lt_of_le xl hda.size) | (go_simp; go_at_call 79; refine (ih code p _ (hda.cur.below bel)).mono ?_; rintro e wb ⟨t, es, rfl, hT, hOt, hdb⟩; obtain ⟨tA4, tc4, tA5, tc5, rfl, -⟩ := hOt.flat; obtain ⟨r0, r1, r2, r3, r4, r5, rf⟩ := row6 ((hdb.block (g := w1.heap.size) pxl hxp).trans ((hda.block (g := w1.heap.size) xl hxp).trans HB2.out)); have rxl : w1.heap.size < wb.heap.size := Nat.lt_of_lt_of_le pxl hdb.size) | (go_simp; go_at_call 149; refine (c_PutKid (k + 1) (tMap K V) t _ _ s _ 0 (((HO2.out.carry (S' := fun q => q < wb.heap.size) (fun b hb => (hdb.block (g := b) (Nat.lt_of_lt_of_le hb.2 hda.size) (by have := hb.1; omega)).trans (hda.block (g := b) hb.2 (by have := hb.1; omega))) (fun b hb => Nat.lt_of_lt_of_le hb.2 (Nat.le_trans hda.size hdb.size))).toC (lo := 0) (hi := wb.heap.size) (fun b hb => ⟨Nat.zero_le _, hb⟩)).now bel) ((hOt.toC (lo := 0) (hi := wb.heap.size) (fun b hb => ⟨Nat.zero_le _, hb.2⟩)).now bel) (Nat.le_trans hs.2 (by decide)) hz2 (hT.le (by omega)) hn2 (hT.fits (by omega)).1).mono ?_; rintro e wd ⟨cs3, rfl, hO3, hbd⟩; obtain ⟨K3, V3, hput, hM3⟩ := HM.out.put (n := k + 2) hs hT; rw [hput] at hO3; obtain ⟨B4, b4, B5, b5, rfl, -⟩ := hO3.flat; obtain ⟨v0, v1, v2, v3, v4, v5, vf⟩ := row6 ((hbd.block w1.heap.size rxl).trans ((hdb.block (g := w1.heap.size) pxl hxp).trans ((hda.block (g := w1.heap.size) xl hxp).trans HB2.out))); have vxl : w1.heap.size < wd.heap.size := Nat.lt_of_lt_of_le rxl hbd.size))
    all_goals
     have q1 := hda.size;have q2 := hdb.size;have q3 := hbd.size;have HDa := (HR2.out.step (bel : Below w2.heap.size w2 _)).trans hda;have HDb := (HDa.step (bel : Below wa.heap.size wa _)).trans hdb;have HDd := hid (HDb.step hbd);have HZd := hid ((hbd.block w.heap.size (by omega)).trans ((hdb.block (g := w.heap.size) (by (try simp); omega) (by omega)).trans ((hda.block (g := w.heap.size) (by (try simp); omega) (by omega)).trans HZ2.out)))
     have HBd := hid ((hbd.block w1.heap.size rxl).trans ((hdb.block (g := w1.heap.size) pxl hxp).trans ((hda.block (g := w1.heap.size) xl hxp).trans HB2.out)));have HO3 := hid hO3;have HM3 := hid hM3;clear HDa HDb hbd hdb hda hO3 hM3 hput hT hOt hs;go_wp2_with fail
     go_roundw
     case rel => exact ⟨i + 1, b4, b5, B4, B5, K3, V3, by omega, by go_num, set6_all HBd.out, HO3.out.carry (fun b hb => Aside.block (S := fun b => b = w1.heap.size) (w := wd) asd b hb.2 (by have q5 := hb.1; (try simp at q5); omega)) (fun b hb => by have q5 := hb.1; have q6 := hb.2; (try simp at q5); (try simp); omega), HM3.out, Eq.trans (Aside.block (S := fun b => b = w1.heap.size) (w := wd) asd w.heap.size (by omega) (by omega)) HZd.out, HDd.out.fin (H := w1.heap.size) asd (by omega) hpl⟩
     case measure => first | omega | (simp [Lib.intOf]; omega) | (simp [intOf]; omega)
   ·have dlt : decide ((i : Int) < x) = false := decide_eq_false hlt
    obtain ⟨z0, z1, z2, z3, z4, z5, zf⟩ := row6 HZ2.out;have zl := row_lt HZ2.out;have HDr := hid (drawn_map (HM.out.more (m' := 4) (by omega)));go_wp2_with fail
    refine bodyPost_ret (v := .agg #[.int .i64 6, .bool false, .int .i64 0, .string ⟨#[]⟩, .slice A4 K.length c4, .slice A5 V.length c5]) (by simp only [results, Tryz.results79]; go_simp) rfl ⟨tMap K V, _, rfl, HDr.out, HO2.out.carry (fun b hb => Aside.block (S := fun b => b = w.heap.size) (w := w2) asd b hb.2 (by have := hb.1; omega)) (fun b hb => by have q1 := hb.1; have q2 := hb.2; (try simp); omega), HR2.out.fin (H := w.heap.size) asd (Nat.le_refl _) hpl⟩
 all_goals
  go_wp2_with fail
  refine (c_l02Num code p _ hc1).mono ?_;rintro e w2 ⟨z, rfl, hz, hd2⟩;have hall : ∀ x ∈ ([0, 1, -1, 42, 9223372036854775807, -9223372036854775808, z] : List Int), I64 x := nums_ok hz
  have Hall := hid hall;have hd3 := HD.out.trans hd2;have HD2 := hid hd3;have hc2 := hd2.cur;have hpl2 := hc2.lt;clear hd2 hd3 hz hall;go_wp2_with fail
  refine (c_l01PickInt code p ([0, 1, -1, 42, 9223372036854775807, -9223372036854775808, z] : List Int) _ w2.heap.size (w2.alloc (.cells #[.int .i64 0, .int .i64 1, .int .i64 (-1), .int .i64 42, .int .i64 9223372036854775807, .int .i64 (-9223372036854775808), .int .i64 z] 3)) (hc2.below (ext_alloc (Below.refl _ _))) (sl_ints w2 ([0, 1, -1, 42, 9223372036854775807, -9223372036854775808, z] : List Int) (by simp) 3 _ rfl) hpl2 (by simp) (by simp)).mono ?_
  rintro e w3 ⟨y, rfl, hy, hd4⟩;have hd5 := HD2.out.trans (Dr.cut hd4);have HY := hid (Hall.out y hy);have HD3 := hid hd5;clear hd4 hd5 hy hc2;go_wp2_with fail
  refine (c_rs_IntTree y _).mono ?_;rintro e w4 ⟨rfl, hb4⟩;have hd6 := HD3.out.step hb4;have hZ := (hd6.block (g := w.heap.size) (by simp) (by omega)).trans (heap_at (w := w) (o := (.cells #[.int .i64 0, .bool false, .int .i64 0, .string ⟨#[]⟩, .slice none 0 0, .slice none 0 0] 34)) rfl);obtain ⟨z0, z1, z2, z3, z4, z5, zf⟩ := row6 hZ;have zl := row_lt hZ;have HD4 := hid hd6.cut;clear hb4 hd6
  go_wp2_with fail
  refine bodyPost_ret (v := .agg #[.int .i64 3, .bool false, .int .i64 y, .string ⟨#[]⟩, .slice none 0 0, .slice none 0 0]) (by simp only [results, Tryz.results79]; go_simp) rfl ⟨⟨3, false, y, ⟨#[]⟩, [], []⟩, _, rfl, drawn_int HY.out, own_leaf (by unfold I64; decide) HY.out (by decide), HD4.out.fin (H := w.heap.size) asd (Nat.le_refl _) hpl⟩
theorem all_tree : ∀ k, k <= 3 -> ∀ (code : List UInt8) (p : Nat) (w : World), CurAt code p w -> Calls Tryz.prog 79 #[.pointer (some ⟨p, 0, none⟩), .int .i64 ((k + 1 : Nat) : Int)] w (DrT (k + 1) code p w)
 | 0, _, code, p, w, h => c_tree_one code p w h
 | k + 1, hk, code, p, w, h => c_tree_more k (by omega) (all_tree k (by omega)) code p w h
theorem c_DrawTree (code : List UInt8) (v : Value) (lo : Nat) (w : World) (hs : SlOf C_Byte 1 lo w.heap.size w code v) (hn : code.length <= 1048576) :
  Calls Tryz.prog 40 #[v] w fun e w' => ∃ d cs, e = .returned (.agg cs.toArray) /\ Drawn 4 d /\ OwnT 4 (fun q => w.heap.size <= q /\ q < w'.heap.size) w' d cs /\ Below w.heap.size w w' := by
 have Hs := hid hs;obtain ⟨A, c, rfl, -⟩ := hs;have h4 := all_tree 3 (by decide);rw [show ((3 + 1 : Nat) : Int) = 4 from rfl] at h4;have H4 := hid h4;clear h4;go_enter Tryz.func40, Tryz.ntmps40
 go_wp2_with fail
 refine (c_l01New code _ lo _ (SlOf.now Hs.out bel) hn).mono ?_;rintro e w1 ⟨p, rfl, hp, hc, hb⟩;have HB := hid hb;have hb1 := hb.size;simp at hb1;clear hb;go_wp2_with fail
 refine (H4.out code p _ hc).mono ?_;rintro e w2 ⟨d, cs, rfl, hD, hO, hd⟩;obtain ⟨C4, d4, C5, d5, rfl, -⟩ := hO.flat;have HD := hid hD;have HO := hid hO;have hs2 := hd.size;simp at hp;have Hb2 := hid (Below.trans (bel : Below w.heap.size w (w.alloc (.cells #[.int .i64 0, .bool false, .int .i64 0, .string ⟨#[]⟩, .slice none 0 0, .slice none 0 0] 34))) ((HB.out.mono (by simp)).trans (hd.below (B := w.heap.size) (by omega) (by omega))))
 have hZ := (hd.block (g := w.heap.size) (by omega) (by omega)).trans ((HB.out.block w.heap.size (by simp)).trans (heap_at rfl));obtain ⟨z0, z1, z2, z3, z4, z5, zf⟩ := row6 hZ;have zl := row_lt hZ;clear hO hD hd hc hZ;go_wp2_with fail
 refine bodyPost_ret (v := .agg #[.int .i64 d.kind, .bool d.flag, .int .i64 d.num, .string d.text, .slice C4 d.keys.length d4, .slice C5 d.kids.length d5]) (by simp only [results, Tryz.results40]; go_simp) rfl ⟨d, _, rfl, HD.out, HO.out.carry (fun b hb => Aside.block (S := fun b => b = w.heap.size) (w := w2) asd b hb.2 (by have := hb.1; omega)) (fun b hb => by have q1 := hb.1; have q2 := hb.2; (try simp); omega), Hb2.out.trans (Aside.below (S := fun b => b = w.heap.size) asd Hb2.out.size (fun i hi => by omega))⟩
theorem bb {a b c : World} (h : Below a.heap.size a b) (k : Below b.heap.size b c) : Below a.heap.size a c := h.trans (k.mono h.size)
structure Four (w : World) : Prop where
 pow : Pow w
 err : ErrR w
 tab : Tabs w
 cas : CTab w
theorem Four.below {w w' : World} (h : Four w) (hb : Below w.heap.size w w') : Four w' := ⟨h.pow.below hb, h.err.below hb, h.tab.below hb, h.cas.below hb⟩
theorem Ten.callR {d : TreeD} (h : Ten d) {w : World} (hC : Four w) (W : World) (hb : Below w.heap.size w W) : Calls Tryz.prog 34 #[.string (txt d)] W (ReadE (flt0, d) W) := by
 have hC := hC.below hb;have := c_impl_ReadBraced (txt d) W (by rw [txt_size]; have := h.say; omega) hC.cas hC.tab hC.err;rw [h.read] at this;exact this
end Go.Proofs.YtohcpifekcehjaaGreatDoor
