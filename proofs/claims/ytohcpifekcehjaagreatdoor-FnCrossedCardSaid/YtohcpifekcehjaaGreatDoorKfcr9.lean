/- Steps to FnCrossed. No conditions. -/
import Derived.Test.YtohcpifekcehjaaGreatDoorKfcr8
import Derived.Test.YtohcpifekcehjaaGreatDoorKfcr2
import Derived.Laws.IdiomCopy
import Derived.Lib.Overlaps
import Derived.Lib.AppendZerosOnto
import Derived.Laws.Externs
import Derived.WalkKit
import Derived.Lib.Walk
import Derived.Lib.SliceRun
import Derived.Lib.JoinLaws
import Derived.Lib.AppendZeros
import Derived.Deep.RegionLaw
import Derived.Shelf.RegionOpenPlain
import Derived.RowKit
import Derived.Test.YtohcpifekcehjaaGreatDoorKfcr7
set_option maxHeartbeats 16000000
set_option maxRecDepth 20000
namespace Go.Proofs.YtohcpifekcehjaaGreatDoor
open Go.RowKit Go.Lib
def rdM (N b : Nat) (w : World) : Nat := match w.cell? ⟨b, 4, none⟩ with
 | some (.int _ z) => if z = 0 then (match w.cell? ⟨b, 1, none⟩ with | some (.int _ y) => N + 1 - y.toNat | _ => 0) else 0
 | _ => 0
theorem RdAt.meas {L : List SignD} {E : Int} {b p m : Nat} {f : Flt} {w : World} (h : RdAt L E b p m f w) (N : Nat) : rdM N b w = if f.code = 0 then N + 1 - p else 0 := by
 obtain ⟨A, c, h1, -, -⟩ := h;unfold rdC at h1;obtain ⟨a0, a1, a2, a3, a4, a5, a6, af⟩ := row7r h1;unfold rdM;rw [a4, a1];simp
theorem own9a {wr W9 w9 : World} {o : Obj} {base n m size b : Nat} {e : TypeId} {v : Value} {xs : List Value} (h : wr.ownsRow base e size v n xs) (hb : Aside (fun q => q = b) W9 w9) (he : W9.heap = wr.heap) (hlt : b < base) (hn : n = m) : (w9.alloc o).ownsRow base e size v m xs := by
 subst hn;refine World.ownsRow.alloc (ownsRow_carry h (fun q hq => ?_)) o;have h1 := (h.lt q hq).1;have h2 := (h.lt q hq).2;rw [<- he] at h2;rw [hb.block q h2 (by omega), he]
theorem blk9a {wr W9 w9 w2 : World} {o : Obj} {r q : Option Nat} {b k : Nat} (hrow : k < wr.heap.size) (hb : Aside (fun q => q = b) W9 w9) (he : W9.heap = wr.heap) (hg : (w9.alloc o).grownBy w2 q) (hr : r = q) (hn : r ≠ some k) (hk : k ≠ b) : w2.heap[k]? = wr.heap[k]? := by
 subst hr;have h1 : k < W9.heap.size := by rw [he]; exact hrow
 have h2 := hb.size;rw [hg.block k (by simp; omega) (fun e => hn e.symm), Below.heap_alloc w9 o k (by omega), hb.block k h1 hk, he]
structure LBox (b : Nat) (w wx : World) (v : Value) : Prop where
 zero : wx.heap[w.heap.size]? = some (.cells #[.int .i64 0, .bool false, .int .i64 0, .string ⟨#[]⟩, .slice none 0 0, .slice none 0 0] 34 (0, 0))
 list : wx.heap[w.heap.size + 1]? = some (.cells #[.int .i64 5, .bool false, .int .i64 0, .string ⟨#[]⟩, .slice none 0 0, v] 34 (0, 0))
 aside : Aside (fun q => q = b ∨ w.heap.size <= q) w wx
theorem LBox.same {b : Nat} {w wx wy : World} {v : Value} {S : Nat -> Prop} (h : LBox b w wx v) (hF : Aside S wx wy) (hS : ∀ q, S q -> q = b ∨ w.heap.size + 2 <= q) (hb : b < w.heap.size) : LBox b w wy v :=
 ⟨(hF.block _ (row_lt h.zero) (fun hq => by have := hS _ hq; omega)).trans h.zero, (hF.block _ (row_lt h.list) (fun hq => by have := hS _ hq; omega)).trans h.list, h.aside.join hF (fun q hq _ => by have := hS q hq; omega)⟩
def GoodK (R : Nat -> Nat -> Flt -> World -> Prop) (b nT : Nat) (w : World) (acc : List TreeD) (q m : Nat) (wx : World) : Prop :=
 ∃ v, LBox b w wx v /\ GrowK nT (w.heap.size + 2) wx.heap.size wx acc v /\ R q m flt0 wx
def BadK (R : Nat -> Nat -> Flt -> World -> Prop) (b N : Nat) (w : World) (f : Flt) (wx : World) : Prop :=
 ∃ (A : Option Addr) (n c p m : Nat), LBox b w wx (.slice A n c) /\ R p m f wx /\ p <= N
def ListAt (L : List SignD) (E : Int) (R : Nat -> Nat -> Flt -> World -> Prop) (b n d : Nat) (r : Res) (w wx : World) : Prop :=
 (∃ (acc : List TreeD) (p m k : Nat), GoodK R b (9 - d) w acc p m wx /\ p <= L.length /\ m <= 300 /\ acc.length <= p /\ needJ L p (.list d acc) <= k /\ k <= n /\ r = readJ L E k (.list d acc) p m) ∨
 (∃ f, BadK R b L.length w f wx /\ f.code ≠ 0 /\ r = .bad f)
theorem own_listT {n base hi : Nat} {w wF : World} {l : List TreeD} {v : Value} {S : Nat -> Prop} (h : GrowK n base hi w l v) (hF : ∀ q, base <= q -> q < hi -> wF.heap[q]? = w.heap[q]?) (hS : ∀ b, base <= b -> b < hi -> S b) :
  OwnT (n + 1) S wF (tList l) [.int .i64 5, .bool false, .int .i64 0, .string ⟨#[]⟩, .slice none 0 0, v] :=
 OwnT.into ⟨_, _, fun _ => False, fun b => base <= b /\ b < hi, rfl, (show I64 5 from by unfold I64; decide), (show I64 0 from by unfold I64; decide), (show ByteArray.size ⟨#[]⟩ <= 9223372036854775807 from by decide), fun _ h => h.elim, fun b hb => hS b hb.1 hb.2,
  ⟨none, 0, rfl, Nat.le_refl _, by decide, fun h => by simp [tList] at h⟩, h.own.keep (fun b hb => hF b hb.1 hb.2) (fun _ h => h)⟩
theorem GoodK.fin {L : List SignD} {E : Int} {b nT : Nat} {w wx wF : World} {acc : List TreeD} {q m : Nat} {A : Option Addr} {c : Nat} (hb : b < w.heap.size) (hL : LBox b w wx (.slice A acc.length c)) (hG : GrowK nT (w.heap.size + 2) wx.heap.size wx acc (.slice A acc.length c)) (hR : RdAt L E b q m flt0 wx) (hF : Aside (fun q => q = w.heap.size) wx wF) :
  GoodT (RdAt L E b) b (nT + 1) (tList acc) q m w (.returned (.agg #[.int .i64 5, .bool false, .int .i64 0, .string ⟨#[]⟩, .slice none 0 0, .slice A acc.length c])) wF := by
 refine ⟨[.int .i64 5, .bool false, .int .i64 0, .string ⟨#[]⟩, .slice none 0 0, .slice A acc.length c], rfl, own_listT hG (fun q h1 h2 => hF.block q h2 (by omega)) (fun b h1 h2 => ⟨by omega, Nat.lt_of_lt_of_le h2 hF.size⟩), hR.past hF (fun q hq => by omega), ?_⟩;exact Aside.low (hL.aside.join hF (fun q hq _ => .inr (by omega)))
theorem BadK.fin {L : List SignD} {E : Int} {b N : Nat} {w wx wF : World} {f : Flt} {A : Option Addr} {n c p m : Nat} (hb : b < w.heap.size) (hL : LBox b w wx (.slice A n c)) (hR : RdAt L E b p m f wx) (hp : p <= N) (hF : Aside (fun q => q = w.heap.size) wx wF) :
  BadT (RdAt L E b) b N f w (.returned (.agg #[.int .i64 5, .bool false, .int .i64 0, .string ⟨#[]⟩, .slice none 0 0, .slice A n c])) wF :=
 ⟨5, false, 0, ⟨#[]⟩, none, 0, 0, A, n, c, p, m, rfl, hR.past hF (fun q hq => by omega), hp, Aside.low (hL.aside.join hF (fun q hq _ => .inr (by omega)))⟩
theorem of_listI (L : List SignD) (E : Int) (b n : Nat) (hL : SgOk L) (hv : ∀ k, k < n -> T_valI L E b k) : T_listI L E b n := by
 intro d p0 m0 w hd1 hd8 hpl hm hn h;obtain ⟨i0, hi, hz0, hz1, hz2⟩ := info_parts (show (Tryz.prog.info? 34).map (fun i => (i.zero, i.size, i.bytes)) = some (some (.agg #[.int .i64 0, .bool false, .int .i64 0, .string ⟨#[]⟩, .slice none 0 0, .slice none 0 0]), 6, 88) from by kernel_rfl);have HRd := hid h;have Hv := hid hv;have hlb := h.lt;have hlen := hL.len;have HLs := hid hL;obtain ⟨nd, hnd⟩ : ∃ k, 10 - d = k + 1 := ⟨9 - d, by omega⟩
 have hnd9 : 9 - d = nd := by omega
 obtain ⟨r, hr⟩ : ∃ r, r = listR L E n d p0 m0 := ⟨_, rfl⟩
 rw [<- hr, hnd];have HR := hid hr;have HN9 := hid hnd9;have HNe := hid hn;clear hr h hv hnd hnd9 hn hL;by_cases hk4 : kindAt L p0 = 4
 ·have HQ := hid (show r = .good (tList []) (p0 + 1) m0 by rw [HR.out]; exact if_pos hk4)
  have HK := hid hk4;clear hk4;go_enter Tryz.func133, Tryz.ntmps133
  go_wp2_with fail
  refine (c_rd_skip_yes L E 4 b p0 m0 flt0 _ (by omega) (HRd.out.below bel) rfl HK.out).mono ?_;rintro e w1 ⟨rfl, hR1, hA1⟩;have hL1 : LBox b w w1 (.slice none 0 0) := ⟨(hA1.block _ (by simp; omega) (by omega)).trans ((Below.heap_alloc _ _ _ (by simp)).trans (heap_at (by simp))), (hA1.block _ (by simp) (by omega)).trans (heap_at (by simp)), ((Aside.of_below (bel : Below w.heap.size w _)).trans (hA1.mono (fun q h => .inl h)))⟩
  have HL1 := hid hL1;have HR1 := hid hR1;obtain ⟨x0, x1, x2, x3, x4, x5, xf⟩ := row6 hL1.zero;obtain ⟨y0, y1, y2, y3, y4, y5, yf⟩ := row6 hL1.list;have l0 := row_lt hL1.zero;have l1 := row_lt hL1.list;clear hL1 hR1 hA1;go_wp2_with fail
  exact bodyPost_ret (v := .agg #[.int .i64 5, .bool false, .int .i64 0, .string ⟨#[]⟩, .slice none 0 0, .slice none 0 0]) (by simp only [results, Tryz.results133]; go_simp) rfl (ValE.good HQ.out (GoodK.fin (acc := []) hlb HL1.out (GrowK.nil _ _ _ _) HR1.out asd))
 ·have HQ := hid (show r = readJ L E n (.list d []) p0 m0 by rw [HR.out]; exact if_neg hk4)
  have HK := hid hk4;clear hk4;go_enter Tryz.func133, Tryz.ntmps133
  go_wp2_with fail
  refine (c_rd_skip_no L E 4 b p0 m0 flt0 _ (by omega) (HRd.out.below bel) (.inr HK.out)).mono ?_;rintro e w1 ⟨rfl, hb1⟩;have hR1 : RdAt L E b p0 m0 flt0 w1 := HRd.out.below bel;have hL1 : LBox b w w1 (.slice none 0 0) := ⟨(hb1.block _ (by simp; omega)).trans ((Below.heap_alloc _ _ _ (by simp)).trans (heap_at (by simp))), (hb1.block _ (by simp)).trans (heap_at (by simp)), Aside.of_below bel⟩;have hG1 : GoodK (RdAt L E b) b (9 - d) w [] p0 m0 w1 := ⟨_, hL1, GrowK.nil _ _ _ _, hR1⟩
  have HG1 := hid hG1;clear hR1 hL1 hG1 hb1;go_wp2_with fail
  go_loopw [] (fun wr => ListAt L E (RdAt L E b) b n d r w wr) (fun wr => rdM L.length b wr)
  case atStart => exact .inl ⟨[], p0, m0, n, HG1.out, hpl, hm, by simp, HNe.out, Nat.le_refl _, HQ.out⟩
  case round =>
   have HRel := hid hrel;clear hrel HG1;rcases HRel.out with ⟨acc, p, m, k, hG, hp, hm3, hac, hne, hkn, hrr⟩ | ⟨f, hB, hf, hrr⟩
   ·clear HRel
    obtain ⟨v, hLb, hgk, hRr⟩ := hG;obtain ⟨VA, vc, rfl⟩ := hgk.form;have HRr := hid hRr;have HLb := hid hLb;have Hgk := hid hgk;have HJ := hid hrr;obtain ⟨k1, hk1⟩ : ∃ k1, k = k1 + 1 := by cases k with | zero => simp [needJ] at hne | succ k1 => exact ⟨k1, rfl⟩
    obtain ⟨dd, hdd⟩ : ∃ dd, dd = d + 1 := ⟨_, rfl⟩
    have hwd : IntKind.i64.wrap ((d : Int) + 1) = (dd : Int) := by rw [IntKind.wrap_i64]; omega
    have hdd1 : 1 <= dd := by omega
    have hdd9 : dd <= 9 := by omega
    have hne2 : needJ L p (.value dd) <= k1 := by subst hk1; unfold needJ at hne ⊢; simp only at hne ⊢; omega
    have hk1n : k1 < n := by omega
    have HJ2 := hid (show r = _ from by rw [HJ.out, hk1, readJ_list, <- hdd]);have hgood := readJ_good L E k1 (.value dd) p m hp hm3 hne2;have HDD := hid hdd;clear hdd;have HNe2 := hid hne2;have HNl := hid hne;obtain ⟨A, c, hbx, -, -⟩ := hRr;unfold rdC at hbx;obtain ⟨a0, a1, a2, a3, a4, a5, a6, af⟩ := row7r hbx;have lb := row_lt hbx;have a4' : wr.cell? ⟨b, 4, none⟩ = some (.int .i64 0) := a4
    obtain ⟨y0, y1, y2, y3, y4, y5, yf⟩ := row6 hLb.list;have ly := row_lt hLb.list;have lz := row_lt hLb.zero;obtain ⟨ess, F, e1, e2, e3, e4, e5, e6, e7⟩ := Hgk.out;have HO := hid e3;obtain ⟨rb, hrb⟩ : ∃ rb, rb = (Value.slice VA acc.length vc).ownBlock := ⟨_, rfl⟩
    have hrl : ∀ q, rb = some q -> w.heap.size + 2 <= q /\ q < wr.heap.size := fun q hq => ⟨(HO.out.lt q (by rw [<- hrb]; exact hq)).1, e4 q (by rw [<- hrb]; exact hq)⟩
    have hn0 : rb ≠ some w.heap.size := fun h => by have := (hrl _ h).1; omega
    have hn1 : rb ≠ some (w.heap.size + 1) := fun h => by have := (hrl _ h).1; omega
    have hnb : rb ≠ some b := fun h => by have := (hrl _ h).1; omega
    have Hrl := hid hrl;have Hr := hid hrb;have HE := hid (And.intro e1 (And.intro e2 (And.intro e4 (And.intro e5 (And.intro e6 e7)))));have hb0 : ¬ w.heap.size = b := by omega
    have hb1 : ¬ w.heap.size + 1 = b := by omega
    clear hLb hgk hrr hk1 hne hne2 hbx a4 e1 e2 e3 e4 e5 e6 e7 hrl hrb hkn;rcases hq : readJ L E k1 (.value dd) p m with f | ⟨t, q, m'⟩
    ·have hf0 : f.code ≠ 0 := by rw [hq] at hgood; exact hgood
     have HQv := hid hq;have HJ3 := hid (show r = .bad f by rw [HJ2.out, hq]);clear hq hgood HJ2;go_upto_region 5 with fail
     go_cut [] from 16 to 24 (fun wx => BadK (RdAt L E b) b L.length w f wx)
     case first =>
      go_region_law (first | (go_simp; go_at_call 73; refine (Hv.out k1 hk1n dd p m _ hdd1 hdd9 hp hm3 HNe2.out (HRr.out.below bel)).mono ?_; intro e9 w9 hv9; obtain ⟨u0, u1, u2, u3, U4, u4, u44, U5, u5, u55, p9, m9, rfl, hR9, hp9, hA9⟩ := ValE.isBad HQv.out hv9; obtain ⟨-, -, -, -, -, p5, -⟩ := row6 ((hA9.block (w.heap.size + 1) ly hb1).trans HLb.out.list); have l9 : w.heap.size + 1 < w9.heap.size := Nat.lt_of_lt_of_le ly hA9.size; have Hone := hid (show ∀ z ∈ [Value.int .i64 u0, .bool u1, .int .i64 u2, .string u3, .slice U4 u4 u44, .slice U5 u5 u55], z.oneCell' = true by intro z hz; simp at hz; rcases hz with rfl | rfl | rfl | rfl | rfl | rfl <;> rfl)) | (refine step_append_lies _ rfl _ _ 32 rfl (w.heap.size + 2) 34 i0 (.agg #[.int .i64 0, .bool false, .int .i64 0, .string ⟨#[]⟩, .slice none 0 0, .slice none 0 0]) 6 88 Tryz.underlying32 hi hz0 hz1 hz2 rfl (by decide) _ acc.length ess.flatten rfl (own9a HO.out hA9 rfl (by omega) rfl) ⟨w9.heap.size, 0, none⟩ 1 1 [.int .i64 u0, .bool u1, .int .i64 u2, .string u3, .slice U4 u4 u44, .slice U5 u5 u55] rfl rfl (World.news_of_block (heap_alloc_new w9 _)) Hone.out (by decide) (by unfold maxLen; omega) (by omega) (by have := hA9.size; simp at this ⊢; omega) _ rfl ?_; intro g cap w2 hown2 hgrow2 hat2 hlt2; obtain ⟨-, -, -, -, -, q5, qf⟩ := row6 ((blk9a ly hA9 rfl hgrow2 Hr.out hn1 (by omega)).trans HLb.out.list)))
      all_goals
       have RT2 := (blk9a ly hA9 rfl hgrow2 Hr.out hn1 (by omega)).trans HLb.out.list;have RZ2 := (blk9a lz hA9 rfl hgrow2 Hr.out hn0 (by omega)).trans HLb.out.zero;have hgA : Aside (fun q => some q = rb) w9 w2 := Aside.trans (aside_alloc (Aside.refl _ _)) ⟨hgrow2.os, hgrow2.tape, hgrow2.output, hgrow2.size, fun q h1 h2 => hgrow2.block q h1 (fun h => h2 (h.trans Hr.out.symm))⟩;have hF2 : Aside (fun q => q = b ∨ w.heap.size <= q) w w2 := (HLb.out.aside.join (Aside.trans (Aside.of_below (bel : Below wr.heap.size wr _)) hA9) (fun q hq _ => .inl hq)).join hgA (fun q hq _ => .inr (by have := (Hrl.out q hq.symm).1; omega))
       have hR2 := hR9.past hgA (fun q hq => by have := (Hrl.out q hq.symm).1; omega);have hl2 := row_lt RT2;go_wp2_with fail
       go_meet
       exact ⟨some ⟨g, 0, none⟩, acc.length + 1, cap, p9, m9, ⟨(Below.heap_setCell _ _ _ _ (by simp)).trans RZ2, heap_setCell_same w2 (w.heap.size + 1) 5 _ _ _ RT2, aside_set (.inr (by simp)) hF2⟩, hR2.past (S := fun q => q = w.heap.size + 1) (aside_set rfl (Aside.refl _ _)) (fun q hq => by omega), hp9⟩
     case rest =>
      obtain ⟨A5, n5, c5, p5, m5, hL5, hR5, hp5⟩ := hcut;have HL5 := hid hL5;have HR5 := hid hR5;clear hL5 hR5 a0 a1 a2 a3 a4' a5 a6 af y0 y1 y2 y3 y4 y5 yf;go_wp2_with fail
      refine (c_rd_skip_no L E 4 b p5 m5 f _ (by omega) HR5.out (.inl hf0)).mono ?_;rintro e w6 ⟨rfl, hb6⟩;have HB6 := hid hb6;clear hb6;go_wp2_with fail
      refine (c_rd_skip_no L E 6 b p5 m5 f _ (by omega) (HR5.out.below HB6.out) (.inl hf0)).mono ?_;rintro e w7 ⟨rfl, hb7⟩;have HB7 := hid (HB6.out.trans (hb7.mono HB6.out.size));clear hb7;go_wp2_with fail
      refine (c_rd_fail_old L E 4 b p5 m5 f _ (HR5.out.below HB7.out) hf0).mono ?_;rintro e w8 ⟨rfl, hb8⟩;have HB8 := hid (HB7.out.trans (hb8.mono HB7.out.size));clear hb8;go_wp2_with fail
      go_roundw
      case rel => exact .inr ⟨f, ⟨A5, n5, c5, p5, m5, HL5.out.same (Aside.of_below (S := fun q => q = b) HB8.out) (fun q hq => .inl hq) hlb, HR5.out.below HB8.out, hp5⟩, hf0, HJ3.out⟩
      case measure => rw [(HR5.out.below HB8.out).meas, HRr.out.meas, if_neg hf0, if_pos (show flt0.code = 0 from rfl)]; omega
    ·rw [hq] at hgood
     obtain ⟨hg1, hg2, hg3⟩ := hgood;have HQv := hid hq;have HJ3 := hid (show r = if kindAt L q = 4 then .good (tList (acc ++ [t])) (q + 1) m' else if kindAt L q = 6 then readJ L E k1 (.list d (acc ++ [t])) (q + 1) m' else .bad (badF L E 4 q) by rw [HJ2.out, hq]);clear hq HJ2;go_upto_region 5 with fail
     go_cut [] from 16 to 24 (fun wx => GoodK (RdAt L E b) b (9 - d) w (acc ++ [t]) q m' wx)
     case first =>
      go_region_law (first | (go_simp; go_at_call 73; refine (Hv.out k1 hk1n dd p m _ hdd1 hdd9 hp hm3 HNe2.out (HRr.out.below bel)).mono ?_; intro e9 w9 hv9; obtain ⟨cs9, rfl, hO9, hR9, hA9⟩ := ValE.isGood HQv.out hv9; have hO9f := hO9.flat; obtain ⟨U4, u44, U5, u55, rfl, -⟩ := hO9f; obtain ⟨-, -, -, -, -, p5, -⟩ := row6 ((hA9.block (w.heap.size + 1) ly hb1).trans HLb.out.list); have l9 : w.heap.size + 1 < w9.heap.size := Nat.lt_of_lt_of_le ly hA9.size; have Hone := hid hO9.one) | (refine step_append_lies _ rfl _ _ 32 rfl (w.heap.size + 2) 34 i0 (.agg #[.int .i64 0, .bool false, .int .i64 0, .string ⟨#[]⟩, .slice none 0 0, .slice none 0 0]) 6 88 Tryz.underlying32 hi hz0 hz1 hz2 rfl (by decide) _ acc.length ess.flatten rfl (own9a HO.out hA9 rfl (by omega) rfl) ⟨w9.heap.size, 0, none⟩ 1 1 [.int .i64 t.kind, .bool t.flag, .int .i64 t.num, .string t.text, .slice U4 t.keys.length u44, .slice U5 t.kids.length u55] rfl rfl (World.news_of_block (heap_alloc_new w9 _)) Hone.out (by decide) (by unfold maxLen; omega) (by omega) (by have := hA9.size; simp at this ⊢; omega) _ rfl ?_; intro g cap w2 hown2 hgrow2 hat2 hlt2; obtain ⟨-, -, -, -, -, q5, qf⟩ := row6 ((blk9a ly hA9 rfl hgrow2 Hr.out hn1 (by omega)).trans HLb.out.list)))
      all_goals
       have RT2 := (blk9a ly hA9 rfl hgrow2 Hr.out hn1 (by omega)).trans HLb.out.list;have RZ2 := (blk9a lz hA9 rfl hgrow2 Hr.out hn0 (by omega)).trans HLb.out.zero;have hgA : Aside (fun q => some q = rb) w9 w2 := Aside.trans (aside_alloc (Aside.refl _ _)) ⟨hgrow2.os, hgrow2.tape, hgrow2.output, hgrow2.size, fun q h1 h2 => hgrow2.block q h1 (fun h => h2 (h.trans Hr.out.symm))⟩;have hF2 : Aside (fun q => q = b ∨ w.heap.size <= q) w w2 := (HLb.out.aside.join (Aside.trans (Aside.of_below (bel : Below wr.heap.size wr _)) hA9) (fun q hq _ => .inl hq)).join hgA (fun q hq _ => .inr (by have := (Hrl.out q hq.symm).1; omega))
       have hR2 := hR9.past hgA (fun q hq => by have := (Hrl.out q hq.symm).1; omega);have hl2 := row_lt RT2;have hs9 : wr.heap.size <= w9.heap.size := hA9.size;have hb49 : ∀ x, x < wr.heap.size -> x ≠ b -> w9.heap[x]? = wr.heap[x]? := fun x hx hxb => hA9.block x hx hxb
       obtain ⟨e1, e2, e4, e5, e6, e7⟩ := HE.out
       have Hp := hid (GrowK.push (hi := wr.heap.size) (w := w9.alloc (.cells #[.int .i64 t.kind, .bool t.flag, .int .i64 t.num, .string t.text, .slice U4 t.keys.length u44, .slice U5 t.kids.length u55] 34)) (S := fun x => wr.heap.size <= x /\ x < w9.heap.size) acc.length rfl (by simp; omega) ((hO9.up (show 10 - dd <= 9 - d by have := HDD.out; omega)).carry (fun x hx => Below.heap_alloc _ _ x hx.2) (fun x hx => by have := hx.1; (try simp at this); exact ⟨by omega, hx.2⟩)) (fun x hx => by simp; omega) (by omega) ess F e1 e2 e4 e5 e6
        (fun i d' es' h1 h2 => (e7 i d' es' h1 h2).carry (fun x hx => (Below.heap_alloc _ _ x (by have := (e5 i x hx).2.1; omega)).trans (hb49 x (by have := (e5 i x hx).2.1; omega) (by have := (e5 i x hx).1; omega))) (fun _ h => h)) hown2 hgrow2 (by rcases hat2 with h | h; exact .inl h; exact .inr (by simp at h ⊢; omega)) hlt2)
       go_wp2_with fail
       go_meet
       exact ⟨.slice (some ⟨g, 0, none⟩) (acc.length + 1) cap, ⟨(Below.heap_setCell _ _ _ _ (by simp)).trans RZ2, heap_setCell_same w2 (w.heap.size + 1) 5 _ _ _ RT2, aside_set (.inr (by simp)) hF2⟩, Hp.out.carry (by simp) (fun x h1 _ => Below.heap_setCell _ _ _ _ (by simp; omega)), hR2.past (S := fun q => q = w.heap.size + 1) (aside_set rfl (Aside.refl _ _)) (fun q hq => by omega)⟩
     case rest =>
      obtain ⟨v5, hL5, hG5, hR5⟩ := hcut;obtain ⟨A5, c5, rfl⟩ := hG5.form;have HL5 := hid hL5;have HR5 := hid hR5;have HG5 := hid hG5;clear hL5 hR5 hG5 a0 a1 a2 a3 a4' a5 a6 af y0 y1 y2 y3 y4 y5 yf;by_cases hk4 : kindAt L q = 4
      ·have HF := hid (show r = .good (tList (acc ++ [t])) (q + 1) m' by rw [HJ3.out, if_pos hk4])
       have HK4 := hid hk4;clear hk4;go_wp2_with fail
       refine (c_rd_skip_yes L E 4 b q m' flt0 _ (by omega) HR5.out rfl HK4.out).mono ?_;rintro e w6 ⟨rfl, hR6, hA6⟩;have HL6 := hid (HL5.out.same hA6 (fun q hq => .inl hq) hlb);have HR6 := hid hR6;have HG6 := hid (HG5.out.carry hA6.size (fun x h1 h2 => hA6.block x h2 (by omega)));obtain ⟨x0, x1, x2, x3, x4, x5, xf⟩ := row6 HL6.out.zero;obtain ⟨y0, y1, y2, y3, y4, y5, yf⟩ := row6 HL6.out.list
       have l0 := row_lt HL6.out.zero;have l1 := row_lt HL6.out.list;clear hR6 hA6;go_wp2_with fail
       exact bodyPost_ret (v := .agg #[.int .i64 5, .bool false, .int .i64 0, .string ⟨#[]⟩, .slice none 0 0, .slice A5 (acc ++ [t]).length c5]) (by simp only [results, Tryz.results133]; go_simp) rfl (ValE.good HF.out (GoodK.fin (nT := nd) hlb HL6.out (HN9.out ▸ HG6.out) HR6.out asd))
      ·by_cases hk6 : kindAt L q = 6
       ·have HF := hid (show r = readJ L E k1 (.list d (acc ++ [t])) (q + 1) m' by rw [HJ3.out, if_neg hk4, if_pos hk6])
        have hql := kindAt_lt (L := L) (p := q) (by omega);have HK4 := hid hk4;have HK6 := hid hk6;have HNx := hid (show needJ L (q + 1) (.list d (acc ++ [t])) <= k1 by have := HNe2.out; unfold needJ at this ⊢; simp only at this ⊢; omega);clear hk4 hk6;go_wp2_with fail
        refine (c_rd_skip_no L E 4 b q m' flt0 _ (by omega) HR5.out (.inr HK4.out)).mono ?_;rintro e w6 ⟨rfl, hb6⟩;have HB6 := hid hb6;clear hb6;go_wp2_with fail
        refine (c_rd_skip_yes L E 6 b q m' flt0 _ (by omega) (HR5.out.below HB6.out) rfl HK6.out).mono ?_;rintro e w7 ⟨rfl, hR7, hA7⟩;have HR7 := hid hR7;have HA7 := hid ((Aside.of_below (S := fun q => q = b) HB6.out).trans hA7);clear hR7 hA7;go_wp2_with fail
        go_roundw
        case rel => exact .inl ⟨acc ++ [t], q + 1, m', k1, ⟨_, HL5.out.same HA7.out (fun q hq => .inl hq) hlb, HG5.out.carry HA7.out.size (fun x h1 h2 => HA7.out.block x h2 (by omega)), HR7.out⟩, by omega, hg3, by simp; omega, HNx.out, by omega, HF.out⟩
        case measure => rw [HR7.out.meas, HRr.out.meas, if_pos (show flt0.code = 0 from rfl), if_pos (show flt0.code = 0 from rfl)]; omega
       ·have HF := hid (show r = .bad (badF L E 4 q) by rw [HJ3.out, if_neg hk4, if_neg hk6])
        have HK4 := hid hk4;have HK6 := hid hk6;clear hk4 hk6;go_wp2_with fail
        refine (c_rd_skip_no L E 4 b q m' flt0 _ (by omega) HR5.out (.inr HK4.out)).mono ?_;rintro e w6 ⟨rfl, hb6⟩;have HB6 := hid hb6;clear hb6;go_wp2_with fail
        refine (c_rd_skip_no L E 6 b q m' flt0 _ (by omega) (HR5.out.below HB6.out) (.inr HK6.out)).mono ?_;rintro e w7 ⟨rfl, hb7⟩;have HB7 := hid (HB6.out.trans (hb7.mono HB6.out.size));clear hb7;go_wp2_with fail
        refine (c_rd_fail_new L E 4 b q m' flt0 _ (by omega) (HR5.out.below HB7.out) rfl).mono ?_;rintro e w8 ⟨rfl, hR8, hA8⟩;have HR8 := hid hR8;have HA8 := hid ((Aside.of_below (S := fun q => q = b) HB7.out).trans hA8);clear hR8 hA8;go_wp2_with fail
        go_roundw
        case rel => exact .inr ⟨badF L E 4 q, ⟨A5, _, c5, q, m', HL5.out.same HA8.out (fun q hq => .inl hq) hlb, HR8.out, hg2⟩, by show (4 : Int) ≠ 0; decide, HF.out⟩
        case measure => rw [HR8.out.meas, HRr.out.meas, if_neg (by show ¬ (4 : Int) = 0; decide), if_pos (show flt0.code = 0 from rfl)]; omega
   ·clear HRel
    obtain ⟨A5, n5, c5, p5, m5, hL5, hR5, hp5⟩ := hB;have HL5 := hid hL5;have HR5 := hid hR5;have HF := hid hrr;obtain ⟨z, hz⟩ : ∃ z, z = f.code := ⟨_, rfl⟩
    obtain ⟨A, c, hbx, -, -⟩ := hR5;unfold rdC at hbx;obtain ⟨a0, a1, a2, a3, a4, a5, a6, af⟩ := row7r hbx;have lb := row_lt hbx;rw [<- hz] at a4 hf;have dz : (z == 0) = false := beq_eq_false_iff_ne.2 hf;obtain ⟨x0, x1, x2, x3, x4, x5, xf⟩ := row6 HL5.out.zero;obtain ⟨y0, y1, y2, y3, y4, y5, yf⟩ := row6 HL5.out.list;have l0 := row_lt HL5.out.zero;have l1 := row_lt HL5.out.list;clear hL5 hrr hz hbx hf
    go_wp2_with fail
    exact bodyPost_ret (v := .agg #[.int .i64 5, .bool false, .int .i64 0, .string ⟨#[]⟩, .slice none 0 0, .slice A5 n5 c5]) (by simp only [results, Tryz.results133]; go_simp) rfl (ValE.bad HF.out (BadK.fin hlb HL5.out HR5.out hp5 asd))
open Go.RowKit
theorem run_copy_rows {P : Program} (w : World) (dT sT ty elem : TypeId) (k b o dLen dCap : Nat) (a : Addr) (sLen sCap : Nat) (cs : List Value)
  (hu : P.underlying dT = some (.slice elem)) (hs : (P.info? elem).map (·.size) = some k) (hn : cs.length = Nat.min sLen dLen * k)
  (hsrc : ∀ j v, cs[j]? = some v -> w.cell? (a.add j) = some v) (hc : ∀ j, j < cs.length -> (w.cell? ⟨b, o + j, none⟩).isSome = true) (hf : ∀ j, j < cs.length -> w.frozen? ⟨b, o + j, none⟩ = false) (h1 : ∀ v ∈ cs, v.oneCell' = true) :
  (Builtin.copy_ #[dT, sT] ty #[.slice (some ⟨b, o, none⟩) dLen dCap, .slice (some a) sLen sCap]).run P w = .ok (goInt (Nat.min sLen dLen)) (w.setCells b o cs) := by
 have hl := run_loadCells_list (P := P) w a cs hsrc;have hst := run_storeCells_cells (P := P) b o cs 0 w (by simpa using hc) (by simpa using hf) h1;cases hq : P.info? elem with
 | none => simp [hq] at hs
 | some i =>
  have hi : i.size = k := by simpa [hq] using hs
  rw [hn] at hl;simp [Builtin.copy_, run_underlying hu, Builtin.lenOf, Builtin.firstCells, sizeOf, typeInfo, hq, hi, hl, hst]
theorem wpList_copy_run {P : Program} {w : World} {ops : Array Oper} {rest : List Oper} {o : Oper} {a : Act} {Q : Exit -> Act -> World -> Prop} (hgd : o.guard = none) (d s : Operand) (t t' : TypeId)
  (ho : o.op = .call { callee := .builtin .copy, args := #[d, s], argTypes := #[t, t'] }) (v u : Value) (hd : a.eval d = v) (hs : a.eval s = u) {v' : Value} {w' : World}
  (hr : (Builtin.copy_ #[t, t'] o.type #[v, u]).run P w = .ok v' w') (h : wpList P ops Q rest (a.put o.dst v') w') : wpList P ops Q (o :: rest) a w :=
 wpList_plain hgd fun _ hK => by
  unfold Oper.wp execOp;simp only [ho, resolve, invoke, builtin, Sem.run_bind, Sem.run_pure, Result.andThen_ok, List.map_toArray, List.map_cons, List.map_nil, hd, hs, hr];exact hK _ _ h
theorem step_copy_run {P : Program} {w : World} {ops : Array Oper} {o : Oper} {a : Act} {K : Act -> World -> Prop} {Q : Exit -> Act -> World -> Prop} {E : Prop} (hg : o.guard = none) (d x : Operand) (dT sT : TypeId)
  (hop : o.op = Op.call { callee := Callee.builtin Builtin.copy, args := #[d, x], argTypes := #[dT, sT] })
  (v u : Value) (hd : a.eval d = v) (hx : a.eval x = u) {v' : Value} {w' : World} (hr : (Builtin.copy_ #[dT, sT] o.type #[v, u]).run P w = .ok v' w') (hK : K (a.put o.dst v') w') :
  if Region.wanted o (yielded ops a.tmps) = true then Oper.wp P o a w K Q else E := by
 have hw : Region.wanted o (yielded ops a.tmps) = true := by simp [Region.wanted, hg]
 rw [if_pos hw];unfold Oper.wp;simp [execOp, hop, resolve, invoke, builtin, hd, hx, hr, Result.andThen];exact hK
theorem isSome_setC (b : Nat) (vs : List Value) (o : Nat) (w : World) (h : ∀ j, j < vs.length -> (w.cell? ⟨b, o + j, none⟩).isSome = true) (k : Nat) (hk : (w.cell? ⟨b, k, none⟩).isSome = true) : ((w.setCells b o vs).cell? ⟨b, k, none⟩).isSome = true := by
 by_cases hin : o <= k /\ k < o + vs.length
 ·have := World.cell?_setCells_in b vs o w h (k - o) (by omega)
  rw [show o + (k - o) = k by omega] at this;rw [this]; rfl
 ·rw [World.cell?_setCells_out b vs o w ⟨b, k, none⟩ (fun _ _ => by show k < o ∨ o + vs.length <= k; omega)]
  exact hk
def setA (cur : Array Value) : Nat -> List Value -> Array Value
 | _, [] => cur
 | o, v :: r => setA (cur.setIfInBounds o v) (o + 1) r
theorem setA_size (vs : List Value) : ∀ (cur : Array Value) (o : Nat), (setA cur o vs).size = cur.size := by
 induction vs with
 | nil => intro cur o; rfl
 | cons v r ih => intro cur o; rw [setA, ih]; simp
theorem heap_setCells {b : Nat} {t : TypeId} (vs : List Value) : ∀ (w : World) (o : Nat) (cur : Array Value), w.heap[b]? = some (.cells cur t (0, 0)) -> (w.setCells b o vs).heap[b]? = some (.cells (setA cur o vs) t (0, 0)) := by
 induction vs with
 | nil => intro w o cur h; exact h
 | cons v r ih => intro w o cur h; rw [World.setCells, setA]; exact ih _ _ _ (heap_setCell_same w b o cur t v h)
theorem setA_list (vs : List Value) : ∀ (cur : Array Value) (o : Nat), o + vs.length <= cur.size -> (setA cur o vs).toList = cur.toList.take o ++ vs ++ cur.toList.drop (o + vs.length) := by
 induction vs with
 | nil => intro cur o h; simp [setA]
 | cons v r ih =>
  intro cur o h;simp only [List.length_cons] at h;rw [setA, ih _ _ (by simp; omega)];simp only [Array.toList_setIfInBounds, List.length_cons];rw [List.take_add_one, List.getElem?_set_self (by simp; omega), List.take_set_of_le (Nat.le_refl o), List.drop_set_of_lt (by omega)];simp only [Option.toList_some, List.append_assoc, List.cons_append, List.nil_append];rw [show o + 1 + r.length = o + (r.length + 1) by omega]
theorem aside_setC {S : Nat -> Prop} {b : Nat} (hb : S b) (vs : List Value) : ∀ (a w : World) (o : Nat), Aside S a w -> Aside S a (w.setCells b o vs) := by
 induction vs with
 | nil => intro a w o h; exact h
 | cons v r ih => intro a w o h; rw [World.setCells]; exact ih _ _ _ (aside_set (p := ⟨b, o, none⟩) hb h)
theorem isSome_row {w : World} {b o : Nat} {cur : Array Value} {t : TypeId} (h : w.heap[b]? = some (.cells cur t (0, 0))) (ho : o < cur.size) : (w.cell? ⟨b, o, none⟩).isSome = true := by
 rw [cell_of_row _ _ _ _ _ _ h, Array.getElem?_eq_getElem ho];rfl
theorem shape_row {w : World} {b : Nat} {cur : Array Value} {t : TypeId} (h : w.heap[b]? = some (.cells cur t (0, 0))) : w.shape? b = some (t, cur.size) := by
 simp [World.shape?, h]
theorem c_InsT_shift (g n c i vb : Nat) (cs vs : List Value) (w : World) (hi : i < n) (hroom : n + 1 <= c) (hc63 : c <= 9223372036854775807) (hvb : vb ≠ g)
  (hcl : cs.length = n * 6) (hvl : vs.length = 6)
  (hcs : ∀ j v, cs[j]? = some v -> w.cell? ⟨g, j, none⟩ = some v) (hsp : ∀ j, j < (n + 1) * 6 -> (w.cell? ⟨g, j, none⟩).isSome = true) (hfz : ∀ j, w.frozen? ⟨g, j, none⟩ = false)
  (hvs : ∀ j v, vs[j]? = some v -> w.cell? ⟨vb, j, none⟩ = some v) (h1c : ∀ v ∈ cs, v.oneCell' = true) (h1v : ∀ v ∈ vs, v.oneCell' = true)
  (tA tB : TypeId) (kA kB : Nat) (hsa : w.shape? vb = some (tA, kA)) (hsb : w.shape? g = some (tB, kB)) (hkB : kB ≠ 0) (hfa : w.frozen? ⟨vb, 0, none⟩ = false) (hfe : w.frozen? ⟨vb, kA, none⟩ = false) :
  Calls Tryz.prog 185 #[.slice (some ⟨g, 0, none⟩) n c, .int .i64 i, .slice (some ⟨vb, 0, none⟩) 1 1] w fun e w' =>
   e = .returned (.slice (some ⟨g, 0, none⟩) (n + 1) c) /\ w' = (w.drew.setCells g ((i + 1) * 6) (cs.drop (i * 6))).setCells g (i * 6) vs := by
 have hz2 : ¬ ((i : Int) = (n : Int)) := by omega
 have hsz : (Tryz.prog.info? 34).map (·.size) = some 6 := by kernel_rfl
 have hov : ∀ lb cb, (callFunc 243 #[.slice (some ⟨vb, 0, none⟩) 1 1, .slice (some ⟨g, (i + 1) * 6, none⟩) lb cb]).run Tryz.prog w = .ok (.value (.bool false)) w := fun lb cb => by
  rw [run_callFunc_extern Tryz.func243 (by kernel_rfl) (by kernel_rfl) (by kernel_rfl) (e := Extern.SlicesOverlaps.overlaps #[32, 32] #[4]) (by kernel_rfl),
   Lib.run_overlaps_apart w 32 4 34 Tryz.underlying32 6 (fun w => Tryz.sizeOf34 w) ⟨vb, 0, none⟩ ⟨g, (i + 1) * 6, none⟩ 1 1 lb cb hvb tA tB kA kB hsa hsb hkB hfa hfe]
  rfl
 have hdl : (cs.drop (i * 6)).length = (n - i) * 6 := by rw [List.length_drop, hcl]; omega
 have mixed : Tryz.prog.follows Departure.mixedOrders = true := by kernel_rfl
 have hw1 : IntKind.i64.wrap ((i : Int) + 1) = (i : Int) + 1 := by rw [IntKind.wrap_i64]; omega
 have hb1 : (0 : Int) <= (i : Int) + 1 := by omega
 have hin : i <= n := by omega
 have htn : ((i : Int) + 1).toNat = i + 1 := by omega
 have hb2 : ¬ (c = i + 1) := by omega
 have hb3 : (i : Int) <= (n : Int) + 1 := by omega
 have hb4 : ¬ (c = i) := by omega
 have hcp1 : ∀ ty dc sc, (Builtin.copy_ #[32, 32] ty #[.slice (some ⟨g, (i + 1) * 6, none⟩) (n - i) dc, .slice (some ⟨g, i * 6, none⟩) (n + 1 - i) sc]).run Tryz.prog w.drew = .ok (goInt (Nat.min (n + 1 - i) (n - i))) (w.drew.setCells g ((i + 1) * 6) (cs.drop (i * 6))) := fun ty dc sc =>
  run_copy_rows w.drew _ _ ty 34 6 g ((i + 1) * 6) (n - i) dc ⟨g, i * 6, none⟩ (n + 1 - i) sc (cs.drop (i * 6)) Tryz.underlying32 hsz (by rw [hdl]; simp only [Nat.min_def]; split <;> omega)
   (fun j v hj => by rw [add_at]; exact hcs (i * 6 + j) v (by rwa [List.getElem?_drop] at hj))
   (fun j hj => hsp _ (by rw [hdl] at hj; omega)) (fun j _ => hfz _) (fun v hv => h1c v (List.mem_of_mem_drop hv))
 obtain ⟨W1, hW1⟩ : ∃ W1, W1 = w.drew.setCells g ((i + 1) * 6) (cs.drop (i * 6)) := ⟨_, rfl⟩
 have hsp1 : ∀ k, k < (n + 1) * 6 -> (W1.cell? ⟨g, k, none⟩).isSome = true := fun k hk => by
  rw [hW1];exact isSome_setC g (cs.drop (i * 6)) ((i + 1) * 6) w.drew (fun j hj => hsp _ (by rw [hdl] at hj; omega)) _ (hsp k hk)
 have hcp2 : ∀ (W : World), (∀ x, W.cell? x = W1.cell? x) -> (∀ x, W.frozen? x = W1.frozen? x) -> ∀ ty dc, (Builtin.copy_ #[32, 32] ty #[.slice (some ⟨g, i * 6, none⟩) (n + 1 - i) dc, .slice (some ⟨vb, 0, none⟩) 1 1]).run Tryz.prog W = .ok (goInt (Nat.min 1 (n + 1 - i))) (W.setCells g (i * 6) vs) := fun W hWc hWf ty dc =>
  run_copy_rows W _ _ ty 34 6 g (i * 6) (n + 1 - i) dc ⟨vb, 0, none⟩ 1 1 vs Tryz.underlying32 hsz (by rw [hvl]; simp only [Nat.min_def]; split <;> omega)
   (fun j v hj => by
    rw [add_at, hWc, hW1, World.cell?_setCells_out g _ _ _ _ (fun h _ => absurd h hvb), Nat.zero_add]
    exact hvs j v hj)
   (fun j hj => by rw [hWc]; exact hsp1 _ (by omega)) (fun j _ => by rw [hWf, hW1, World.frozen?_setCells]; exact hfz _) h1v
 rw [<- hW1] at hcp1;go_enter Tryz.func185, Tryz.ntmps185
 go_wp2_with (simp only [hov])
 go_region_law_o (refine step_copy_run rfl _ _ 32 32 rfl _ _ (by simp [Act.eval, Act.put]) (by simp [Act.eval, Act.put]) (hcp1 _ _ _) ?_)
 go_wp2_with (at_builtin; refine wpList_copy_run rfl _ _ 32 32 rfl _ _ rfl rfl (hcp2 _ (fun _ => rfl) (fun _ => rfl) _ _) ?_)
 go_ret
 first | exact ⟨rfl, rfl⟩ | exact ⟨rfl, by rw [hW1]⟩
theorem c_InsT_end (base n vb : Nat) (v : Value) (xs vs : List Value) (w : World) (hown : w.ownsRow base 34 6 v n xs) (hvl : vs.length = 6)
  (hvs : ∀ j u, vs[j]? = some u -> w.cell? ⟨vb, j, none⟩ = some u) (h1v : ∀ u ∈ vs, u.oneCell' = true) (hn : n <= 1048576) (hbase : base <= w.heap.size) :
  Calls Tryz.prog 185 #[v, .int .i64 n, .slice (some ⟨vb, 0, none⟩) 1 1] w fun e w' => ∃ g cap, e = .returned (.slice (some ⟨g, 0, none⟩) (n + 1) cap) /\ w'.ownsRow base 34 6 (.slice (some ⟨g, 0, none⟩) (n + 1) cap) (n + 1) (xs ++ vs) /\ w.grownBy w' v.ownBlock /\ (v.ownBlock = some g ∨ g = w.heap.size) /\ g < w'.heap.size := by
 obtain ⟨i0, hi, hz0, hz1, hz2⟩ := info_parts (show (Tryz.prog.info? 34).map (fun i => (i.zero, i.size, i.bytes)) = some (some (.agg #[.int .i64 0, .bool false, .int .i64 0, .string ⟨#[]⟩, .slice none 0 0, .slice none 0 0]), 6, 88) from by kernel_rfl);have HO := hid hown;obtain ⟨A, c, rfl⟩ := own_form hown;have hnc := own_cap hown;have hnews : ∀ j u, vs[j]? = some u -> w.cell? ((⟨vb, 0, none⟩ : Addr).add j) = some u := fun j u hj => by rw [add_at, Nat.zero_add]; exact hvs j u hj
 have HNw := hid hnews;have H1v := hid h1v;clear hvs hnews h1v;rcases A with _ | ⟨ab, ao, asp⟩
 ·have hn0 : n = 0 := by
   rcases hown.2 with ⟨-, h0⟩ | ⟨g, cap, cur, h0, -⟩
   ·exact h0
   ·cases h0
  subst hn0;clear hown;go_enter Tryz.func185, Tryz.ntmps185
  go_wp2_with (at_builtin; refine wpList_append_lies _ rfl _ _ 32 rfl base 34 i0 (.agg #[.int .i64 0, .bool false, .int .i64 0, .string ⟨#[]⟩, .slice none 0 0, .slice none 0 0]) 6 88 Tryz.underlying32 hi hz0 hz1 hz2 rfl (by decide) _ 0 xs rfl HO.out ⟨vb, 0, none⟩ 1 1 vs rfl (by rw [hvl]) HNw.out H1v.out (by decide) (by unfold maxLen; omega) (by omega) hbase _ rfl ?_)
  intro g cap w2 hown2 hgrow2 hat2 hlt2;have HX := hid (And.intro hown2 (And.intro hgrow2 (And.intro hat2 hlt2)));clear hown2 hgrow2 hat2 hlt2;go_wp2_with fail
  go_ret
  exact ⟨g, cap, rfl, HX.out.1, HX.out.2.1, HX.out.2.2.1, HX.out.2.2.2⟩
 ·clear hown
  go_enter Tryz.func185, Tryz.ntmps185
  go_wp2_with (at_builtin; refine wpList_append_lies _ rfl _ _ 32 rfl base 34 i0 (.agg #[.int .i64 0, .bool false, .int .i64 0, .string ⟨#[]⟩, .slice none 0 0, .slice none 0 0]) 6 88 Tryz.underlying32 hi hz0 hz1 hz2 rfl (by decide) _ n xs rfl HO.out ⟨vb, 0, none⟩ 1 1 vs rfl (by rw [hvl]) HNw.out H1v.out (by decide) (by unfold maxLen; omega) (by omega) hbase _ rfl ?_)
  all_goals
   intro g cap w2 hown2 hgrow2 hat2 hlt2;have HX := hid (And.intro hown2 (And.intro hgrow2 (And.intro hat2 hlt2)));clear hown2 hgrow2 hat2 hlt2;go_wp2_with fail
   go_ret
   exact ⟨g, cap, rfl, HX.out.1, HX.out.2.1, HX.out.2.2.1, HX.out.2.2.2⟩
theorem c_InsT_grow (g n c i vb : Nat) (cs vs : List Value) (w : World) (hi : i < n) (hnc : n <= c) (hroom : c < n + 1) (hbig : (n + 1) * 88 <= 140737488355328)
  (hcl : cs.length = n * 6) (hvl : vs.length = 6)
  (hcs : ∀ j v, cs[j]? = some v -> w.cell? ⟨g, j, none⟩ = some v)
  (hvs : ∀ j v, vs[j]? = some v -> w.cell? ⟨vb, j, none⟩ = some v) (h1c : ∀ v ∈ cs, v.oneCell' = true) (h1v : ∀ v ∈ vs, v.oneCell' = true) :
  Calls Tryz.prog 185 #[.slice (some ⟨g, 0, none⟩) n c, .int .i64 i, .slice (some ⟨vb, 0, none⟩) 1 1] w fun e w' => ∃ (G : Nat) (ROW : Array Value),
   e = .returned (.slice (some ⟨w.heap.size, 0, none⟩) (n + 1) G) /\ n + 1 <= G /\ G <= maxLen /\ ROW.size = G * 6 /\ ROW.toList.take (i * 6) = cs.take (i * 6) /\
   w' = ((w.alloc (.cells ROW 34)).drew.setCells w.heap.size (i * 6) vs).drew.setCells w.heap.size ((i + 1) * 6) (cs.drop (i * 6)) := by
 obtain ⟨i0, hi0, hz0, hzs, hzb⟩ := info_parts (show (Tryz.prog.info? 34).map (fun i => (i.zero, i.size, i.bytes)) = some (some (.agg #[.int .i64 0, .bool false, .int .i64 0, .string ⟨#[]⟩, .slice none 0 0, .slice none 0 0]), 6, 88) from by kernel_rfl);have mixed : Tryz.prog.follows Departure.mixedOrders = true := by kernel_rfl
 have hz2 : ¬ ((i : Int) = (n : Int)) := by omega
 have hz3 : (c : Int) < (n : Int) + 1 := by omega
 have hsz : (Tryz.prog.info? 34).map (·.size) = some 6 := by kernel_rfl
 have hbw : g < w.heap.size := block_lt_of_cell (hcs 0 _ (List.getElem?_eq_getElem (by omega)));have hvw : vb < w.heap.size := block_lt_of_cell (hvs 0 _ (List.getElem?_eq_getElem (by omega)));have hkk : (n : Int) + 1 - (i : Int) = ((n + 1 - i : Nat) : Int) := by omega
 have hik : i + (n + 1 - i) = n + 1 := by omega
 have htl : (cs.take (i * 6)).length = i * 6 := by rw [List.length_take, hcl]; omega
 have hold : (Builtin.firstCells i0.size i (.slice (some ⟨g, 0, none⟩) i c)).run Tryz.prog w.drew = .ok (cs.take (i * 6)).toArray w.drew := by
  rw [hzs]
  exact run_firstCells_some w.drew 6 i ⟨g, 0, none⟩ i c (cs.take (i * 6)) htl (fun j v hj => by
   rw [add_at, Nat.zero_add];rw [List.getElem?_take] at hj;split at hj
   ·exact hcs j v hj
   ·cases hj)
 have hrz : ∀ ty, (Builtin.append_ #[32, 3] ty #[.slice (some ⟨g, 0, none⟩) i c, .int .i64 ((n : Int) + 1 - (i : Int))]).run Tryz.prog w =
   .ok (.slice (some ⟨w.heap.size, 0, none⟩) (n + 1) (grownCap w (n + 1) c 34)) (w.drew.alloc (.cells ((cs.take (i * 6)).toArray ++ Builtin.zeroCells (.agg #[.int .i64 0, .bool false, .int .i64 0, .string ⟨#[]⟩, .slice none 0 0, .slice none 0 0] : Value).cells (n + 1 - i) ++ Builtin.zeroCells (.agg #[.int .i64 0, .bool false, .int .i64 0, .string ⟨#[]⟩, .slice none 0 0, .slice none 0 0] : Value).cells (grownCap w (n + 1) c 34 - (n + 1))) 34)) := fun ty => by
  have h := Lib.run_append_grow_zeros w 32 3 ty 34 i0 _ .i64 .i64 Tryz.underlying32 Tryz.underlying3 hi0 hz0 (some ⟨g, 0, none⟩) i c (cs.take (i * 6)) hold (n + 1 - i) (by omega) (by omega) (by omega) (by omega) (by rw [hzb]; omega) (by rw [hzb, hik]; exact growslice_fits hroom hbig);rw [hik] at h;rw [hkk];exact h
 obtain ⟨G, hG⟩ : ∃ G, G = grownCap w (n + 1) c 34 := ⟨_, rfl⟩
 have hGn : n + 1 <= G := by rw [hG]; exact grownCap_ge w _ _ _
 have hG63 : G <= maxLen := by rw [hG]; exact grownCap_le_maxLen w (n + 1) c 34 (by unfold maxLen; omega)
 obtain ⟨ROW, hROW⟩ : ∃ ROW : Array Value, ROW = (cs.take (i * 6)).toArray ++ Builtin.zeroCells (.agg #[.int .i64 0, .bool false, .int .i64 0, .string ⟨#[]⟩, .slice none 0 0, .slice none 0 0] : Value).cells (n + 1 - i) ++ Builtin.zeroCells (.agg #[.int .i64 0, .bool false, .int .i64 0, .string ⟨#[]⟩, .slice none 0 0, .slice none 0 0] : Value).cells (G - (n + 1)) := ⟨_, rfl⟩
 rw [<- hG] at hrz;rw [<- hROW] at hrz
 have hRl : ROW.size = G * 6 := by
  rw [hROW];simp only [Array.size_append, size_zeroCells, List.size_toArray, htl];rw [show (.agg #[.int .i64 0, .bool false, .int .i64 0, .string ⟨#[]⟩, .slice none 0 0, .slice none 0 0] : Value).cells.size = 6 from rfl];omega
 have hRt : ROW.toList.take (i * 6) = cs.take (i * 6) := by
  rw [hROW, Array.append_assoc, Array.toList_append];rw [List.take_left' htl]
 obtain ⟨W1, hW1⟩ : ∃ W1, W1 = w.drew.alloc (.cells ROW 34) := ⟨_, rfl⟩
 rw [<- hW1] at hrz
 have hN : ∀ j, j < (n + 1) * 6 -> (W1.cell? ⟨w.heap.size, j, none⟩).isSome = true := fun j hj => by
  rw [hW1, World.cell?_alloc_at (w := w.drew) ROW _ w.heap.size j rfl, Array.getElem?_eq_getElem (by omega)]; rfl
 have hNf : ∀ j, W1.frozen? ⟨w.heap.size, j, none⟩ = false := fun j => by rw [hW1]; exact World.frozen?_alloc_at (w := w.drew) ROW _ w.heap.size j rfl
 have hOb : ∀ j v, w.cell? ⟨g, j, none⟩ = some v -> W1.cell? ⟨g, j, none⟩ = some v := fun j v h => by rw [hW1, World.cell?_alloc_past (w := w.drew) _ g j hbw]; exact h
 have hOv : ∀ j v, w.cell? ⟨vb, j, none⟩ = some v -> W1.cell? ⟨vb, j, none⟩ = some v := fun j v h => by rw [hW1, World.cell?_alloc_past (w := w.drew) _ vb j hvw]; exact h
 have hcpA : ∀ (W : World), (∀ x, W.cell? x = W1.cell? x) -> (∀ x, W.frozen? x = W1.frozen? x) -> ∀ ty dc, (Builtin.copy_ #[32, 32] ty #[.slice (some ⟨w.heap.size, i * 6, none⟩) (n + 1 - i) dc, .slice (some ⟨vb, 0, none⟩) 1 1]).run Tryz.prog W = .ok (goInt (Nat.min 1 (n + 1 - i))) (W.setCells w.heap.size (i * 6) vs) := fun W hWc hWf ty dc =>
  run_copy_rows W _ _ ty 34 6 w.heap.size (i * 6) (n + 1 - i) dc ⟨vb, 0, none⟩ 1 1 vs Tryz.underlying32 hsz (by rw [hvl]; simp only [Nat.min_def]; split <;> omega)
   (fun j v hj => by rw [add_at, hWc, Nat.zero_add]; exact hOv _ v (hvs j v hj))
   (fun j hj => by rw [hWc]; exact hN _ (by omega)) (fun j _ => by rw [hWf]; exact hNf _) h1v
 have hG63i : G <= 9223372036854775807 := by unfold maxLen at hG63; omega
 have hGi : ¬ (G = i) := by omega
 have hGim : ¬ (G = i + 1) := by omega
 have hci : ¬ (c = i) := by omega
 have hbN : g ≠ w.heap.size := by omega
 have hdl : (cs.drop (i * 6)).length = (n - i) * 6 := by rw [List.length_drop, hcl]; omega
 have hcpB : ∀ (W : World), (∀ x, W.cell? x = (W1.setCells w.heap.size (i * 6) vs).cell? x) -> (∀ x, W.frozen? x = (W1.setCells w.heap.size (i * 6) vs).frozen? x) -> ∀ ty dc sc, (Builtin.copy_ #[32, 32] ty #[.slice (some ⟨w.heap.size, (i + 1) * 6, none⟩) (n - i) dc, .slice (some ⟨g, i * 6, none⟩) (n - i) sc]).run Tryz.prog W = .ok (goInt (Nat.min (n - i) (n - i))) (W.setCells w.heap.size ((i + 1) * 6) (cs.drop (i * 6))) := fun W hWc hWf ty dc sc =>
  run_copy_rows W _ _ ty 34 6 w.heap.size ((i + 1) * 6) (n - i) dc ⟨g, i * 6, none⟩ (n - i) sc (cs.drop (i * 6)) Tryz.underlying32 hsz (by rw [hdl]; simp only [Nat.min_def]; split <;> omega)
   (fun j v hj => by
    rw [add_at, hWc, World.cell?_setCells_out _ _ _ _ _ (fun h _ => absurd h hbN)]
    exact hOb _ v (hcs (i * 6 + j) v (by rwa [List.getElem?_drop] at hj)))
   (fun j hj => by rw [hWc]; exact isSome_setC _ vs (i * 6) W1 (fun t ht => hN _ (by omega)) _ (hN _ (by rw [hdl] at hj; omega)))
   (fun j _ => by rw [hWf, World.frozen?_setCells]; exact hNf _) (fun v hv => h1c v (List.mem_of_mem_drop hv))
 subst hW1;have hE1 : ∀ x, ((w.alloc (.cells ROW 34)).drew).cell? x = (w.drew.alloc (.cells ROW 34)).cell? x := fun x => rfl
 have hE2 : ∀ x, ((w.alloc (.cells ROW 34)).drew).frozen? x = (w.drew.alloc (.cells ROW 34)).frozen? x := fun x => rfl
 have hF1 : ∀ x, (((w.alloc (.cells ROW 34)).drew.setCells w.heap.size (i * 6) vs).drew).cell? x = ((w.drew.alloc (.cells ROW 34)).setCells w.heap.size (i * 6) vs).cell? x := fun x => rfl
 have hF2 : ∀ x, (((w.alloc (.cells ROW 34)).drew.setCells w.heap.size (i * 6) vs).drew).frozen? x = ((w.drew.alloc (.cells ROW 34)).setCells w.heap.size (i * 6) vs).frozen? x := fun x => rfl
 have hw1 : IntKind.i64.wrap ((i : Int) + 1) = (i : Int) + 1 := by rw [IntKind.wrap_i64]; omega
 have hb1 : (0 : Int) <= (i : Int) + 1 := by omega
 have hin : i <= n := by omega
 have htn : ((i : Int) + 1).toNat = i + 1 := by omega
 have hb3 : (i : Int) <= (n : Int) := by omega
 have HFin := hid (And.intro hGn (And.intro hG63 (And.intro hRl hRt)));clear hkk hik hold hROW hG hRl hRt hG63;go_enter Tryz.func185, Tryz.ntmps185
 go_wp2_with (first
  | (at_builtin; refine wpList_append_of rfl _ _ _ ?_ _ _ _ _ rfl rfl (hrz _) ?_)
  | (at_builtin; refine Lib.wpList_append_run _ rfl _ _ _ _ rfl _ _ rfl rfl _ _ (hrz _) ?_)
  | (at_builtin; refine wpList_copy_run rfl _ _ 32 32 rfl _ _ rfl rfl (hcpA _ hE1 hE2 _ _) ?_)
  | (at_builtin; refine wpList_copy_run rfl _ _ 32 32 rfl _ _ rfl rfl (hcpB _ (fun _ => rfl) (fun _ => rfl) _ _ _) ?_))
 go_region_law_o (refine step_copy_run rfl _ _ 32 32 rfl (.slice (some ⟨w.heap.size, (i + 1) * 6, none⟩) (n - i) (G - (i + 1))) (.slice (some ⟨g, i * 6, none⟩) (n - i) (c - i)) (by simp [Act.eval, Act.put]) (by simp [Act.eval, Act.put]) (hcpB _ hF1 hF2 3 (G - (i + 1)) (c - i)) ?_)
 go_wp2
 go_ret
 exact ⟨G, ROW, rfl, HFin.out.1, HFin.out.2.1, HFin.out.2.2.1, HFin.out.2.2.2, rfl⟩
theorem c_InsS_end (base n vb : Nat) (v : Value) (xs vs : List Value) (w : World) (hown : w.ownsRow base 9 1 v n xs) (hvl : vs.length = 1)
  (hvs : ∀ j u, vs[j]? = some u -> w.cell? ⟨vb, j, none⟩ = some u) (h1v : ∀ u ∈ vs, u.oneCell' = true) (hn : n <= 1048576) (hbase : base <= w.heap.size) :
  Calls Tryz.prog 184 #[v, .int .i64 n, .slice (some ⟨vb, 0, none⟩) 1 1] w fun e w' => ∃ g cap, e = .returned (.slice (some ⟨g, 0, none⟩) (n + 1) cap) /\ w'.ownsRow base 9 1 (.slice (some ⟨g, 0, none⟩) (n + 1) cap) (n + 1) (xs ++ vs) /\ w.grownBy w' v.ownBlock /\ (v.ownBlock = some g ∨ g = w.heap.size) /\ g < w'.heap.size := by
 obtain ⟨i0, hi, hz0, hz1, hz2⟩ := info_parts (show (Tryz.prog.info? 9).map (fun i => (i.zero, i.size, i.bytes)) = some (some (.string ⟨#[]⟩), 1, 16) from by kernel_rfl);have HO := hid hown;obtain ⟨A, c, rfl⟩ := own_form hown;have hnc := own_cap hown;have hnews : ∀ j u, vs[j]? = some u -> w.cell? ((⟨vb, 0, none⟩ : Addr).add j) = some u := fun j u hj => by rw [add_at, Nat.zero_add]; exact hvs j u hj
 have HNw := hid hnews;have H1v := hid h1v;clear hvs hnews h1v;rcases A with _ | ⟨ab, ao, asp⟩
 ·have hn0 : n = 0 := by
   rcases hown.2 with ⟨-, h0⟩ | ⟨g, cap, cur, h0, -⟩
   ·exact h0
   ·cases h0
  subst hn0;clear hown;go_enter Tryz.func184, Tryz.ntmps184
  go_wp2_with (at_builtin; refine wpList_append_lies _ rfl _ _ 31 rfl base 9 i0 (.string ⟨#[]⟩) 1 16 Tryz.underlying31 hi hz0 hz1 hz2 rfl (by decide) _ 0 xs rfl HO.out ⟨vb, 0, none⟩ 1 1 vs rfl (by rw [hvl]) HNw.out H1v.out (by decide) (by unfold maxLen; omega) (by omega) hbase _ rfl ?_)
  intro g cap w2 hown2 hgrow2 hat2 hlt2;have HX := hid (And.intro hown2 (And.intro hgrow2 (And.intro hat2 hlt2)));clear hown2 hgrow2 hat2 hlt2;go_wp2_with fail
  go_ret
  exact ⟨g, cap, rfl, HX.out.1, HX.out.2.1, HX.out.2.2.1, HX.out.2.2.2⟩
 ·clear hown
  go_enter Tryz.func184, Tryz.ntmps184
  go_wp2_with (at_builtin; refine wpList_append_lies _ rfl _ _ 31 rfl base 9 i0 (.string ⟨#[]⟩) 1 16 Tryz.underlying31 hi hz0 hz1 hz2 rfl (by decide) _ n xs rfl HO.out ⟨vb, 0, none⟩ 1 1 vs rfl (by rw [hvl]) HNw.out H1v.out (by decide) (by unfold maxLen; omega) (by omega) hbase _ rfl ?_)
  all_goals
   intro g cap w2 hown2 hgrow2 hat2 hlt2;have HX := hid (And.intro hown2 (And.intro hgrow2 (And.intro hat2 hlt2)));clear hown2 hgrow2 hat2 hlt2;go_wp2_with fail
   go_ret
   exact ⟨g, cap, rfl, HX.out.1, HX.out.2.1, HX.out.2.2.1, HX.out.2.2.2⟩
theorem grown_of_aside {w w' : World} {g : Nat} (h : Aside (fun q => q = g) w w') : w.grownBy w' (some g) := ⟨h.os, h.tape, h.output, h.size, fun k hk hne => h.block k hk (fun e => hne (by rw [e]))⟩
theorem ins_shift {C xs vs : List Value} {N I K : Nat} (hI : I <= N) (hC : N + K <= C.length) (hx : C.take N = xs) (hv : vs.length = K) :
  ((C.take (I + K) ++ xs.drop I ++ C.drop (I + K + (xs.drop I).length)).take I ++ vs ++ (C.take (I + K) ++ xs.drop I ++ C.drop (I + K + (xs.drop I).length)).drop (I + vs.length)).take (N + K) = xs.take I ++ vs ++ xs.drop I := by
 have hxl : xs.length = N := by rw [<- hx, List.length_take]; omega
 have hd : (xs.drop I).length = N - I := by rw [List.length_drop, hxl]
 have h1 : (C.take (I + K)).length = I + K := by rw [List.length_take]; omega
 have ht : xs.take I = C.take I := by rw [<- hx, List.take_take]; congr 1; omega
 obtain ⟨R, hR⟩ : ∃ R, R = C.drop (I + K + (xs.drop I).length) := ⟨_, rfl⟩
 rw [<- hR]
 have e1 : (C.take (I + K) ++ xs.drop I ++ R).take I = C.take I := by
  rw [List.append_assoc, List.take_append_of_le_length (by omega), List.take_take];congr 1
  omega
 have e2 : (C.take (I + K) ++ xs.drop I ++ R).drop (I + vs.length) = xs.drop I ++ R := by rw [hv, List.append_assoc, List.drop_left' h1]
 rw [e1, e2, <- ht, <- List.append_assoc, List.take_append_of_le_length (by simp only [List.length_append, List.length_take, hd, hv]; omega)];exact List.take_of_length_le (by simp only [List.length_append, List.length_take, hd, hv]; omega)
theorem own_ins_at {w W : World} {base K n g c i o1 o2 : Nat} {e : TypeId} {xs vs : List Value} (h : w.ownsRow base e K (.slice (some ⟨g, 0, none⟩) n c) n xs) (hi : i <= n) (hroom : n + 1 <= c) (hvl : vs.length = K) (h1 : o1 = (i + 1) * K) (h2 : o2 = i * K)
  (hW : W = (w.drew.setCells g o1 (xs.drop (i * K))).setCells g o2 vs) : W.ownsRow base e K (.slice (some ⟨g, 0, none⟩) (n + 1) c) (n + 1) (xs.take (i * K) ++ vs ++ xs.drop (i * K)) /\ w.grownBy W (some g) := by
 obtain ⟨cur, hg, hn, hcm, hcs, ht, hb⟩ := own_row h;have hNI : i * K <= n * K := Nat.mul_le_mul_right K hi;have hNc : (n + 1) * K <= c * K := Nat.mul_le_mul_right K hroom;have hN1 : (n + 1) * K = n * K + K := Nat.succ_mul n K;have hI1 : (i + 1) * K = i * K + K := Nat.succ_mul i K;have hcl : cur.toList.length = c * K := by rw [Array.length_toList, hcs]
 have hxl := h.1;have hdl : (xs.drop (i * K)).length = n * K - i * K := by rw [List.length_drop, hxl]
 subst hW h1 h2;have hr1 := heap_setCells (xs.drop (i * K)) w.drew ((i + 1) * K) cur (show w.drew.heap[g]? = some (.cells cur e (0, 0)) from hg);have hr2 := heap_setCells vs _ (i * K) _ hr1;refine ⟨⟨?_, .inr ⟨g, c, _, rfl, hb, hr2, hroom, hcm, by rw [setA_size, setA_size, hcs], ?_⟩⟩, ?_⟩
 ·simp only [List.length_append, List.length_take, hdl, hvl, hxl]; omega
 ·rw [setA_list _ _ _ (by rw [setA_size, hcs, hvl]; omega), setA_list _ _ _ (by rw [hcs, hdl]; omega), hI1, hN1]
  exact ins_shift hNI (by omega) ht hvl
 ·exact grown_of_aside (aside_setC (S := fun q => q = g) (b := g) rfl vs w _ _ (aside_setC (S := fun q => q = g) (b := g) rfl _ w _ _ (Aside.of_below (Below.drew (Below.refl _ _)))))
theorem ins_new {C xs vs : List Value} {N I K : Nat} (hI : I <= N) (hC : N + K <= C.length) (hx : C.take I = xs.take I) (hxl : xs.length = N) (hv : vs.length = K) :
  ((C.take I ++ vs ++ C.drop (I + vs.length)).take (I + K) ++ xs.drop I ++ (C.take I ++ vs ++ C.drop (I + vs.length)).drop (I + K + (xs.drop I).length)).take (N + K) = xs.take I ++ vs ++ xs.drop I := by
 have hd : (xs.drop I).length = N - I := by rw [List.length_drop, hxl]
 have hl : (C.take I ++ vs).length = I + K := by rw [List.length_append, List.length_take, hv]; omega
 rw [List.take_left' hl, List.take_append_of_le_length (by simp only [List.length_append, List.length_take, hd, hv]; omega), hx];exact List.take_of_length_le (by simp only [List.length_append, List.length_take, hd, hv, hxl]; omega)
theorem own_ins_new {w W : World} {base K n G i o1 o2 : Nat} {e : TypeId} {xs vs : List Value} {ROW : Array Value} (hxl : xs.length = n * K) (hbase : base <= w.heap.size) (hi : i <= n) (hroom : n + 1 <= G) (hG : G <= maxLen) (hR : ROW.size = G * K) (ht : ROW.toList.take (i * K) = xs.take (i * K)) (hvl : vs.length = K) (h1 : o1 = (i + 1) * K) (h2 : o2 = i * K) (row : Option Nat)
  (hW : W = ((w.alloc (.cells ROW e)).drew.setCells w.heap.size o2 vs).drew.setCells w.heap.size o1 (xs.drop (i * K))) : W.ownsRow base e K (.slice (some ⟨w.heap.size, 0, none⟩) (n + 1) G) (n + 1) (xs.take (i * K) ++ vs ++ xs.drop (i * K)) /\ w.grownBy W row /\ w.heap.size < W.heap.size := by
 have hNI : i * K <= n * K := Nat.mul_le_mul_right K hi;have hNc : (n + 1) * K <= G * K := Nat.mul_le_mul_right K hroom;have hN1 : (n + 1) * K = n * K + K := Nat.succ_mul n K;have hI1 : (i + 1) * K = i * K + K := Nat.succ_mul i K;have hcl : ROW.toList.length = G * K := by rw [Array.length_toList, hR]
 have hdl : (xs.drop (i * K)).length = n * K - i * K := by rw [List.length_drop, hxl]
 subst hW h1 h2;have hr0 : (w.alloc (.cells ROW e)).drew.heap[w.heap.size]? = some (.cells ROW e (0, 0)) := heap_alloc_new w _;have hr1 := heap_setCells vs _ (i * K) _ hr0;have hr2 := heap_setCells (xs.drop (i * K)) ((w.alloc (.cells ROW e)).drew.setCells w.heap.size (i * K) vs).drew ((i + 1) * K) _ hr1;refine ⟨⟨?_, .inr ⟨w.heap.size, G, _, rfl, hbase, hr2, hroom, hG, by rw [setA_size, setA_size, hR], ?_⟩⟩, ?_, row_lt hr2⟩
 ·simp only [List.length_append, List.length_take, hdl, hvl, hxl]; omega
 ·rw [setA_list _ _ _ (by rw [setA_size, hR, hdl]; omega), setA_list _ _ _ (by rw [hR, hvl]; omega), hI1, hN1]
  exact ins_new hNI (by omega) ht hxl hvl
 ·have hA : Aside (fun q => q = w.heap.size) w _ := aside_setC (S := fun q => q = w.heap.size) (b := w.heap.size) rfl (xs.drop (i * K)) w ((w.alloc (.cells ROW e)).drew.setCells w.heap.size (i * K) vs).drew ((i + 1) * K) (Aside.trans (aside_setC (S := fun q => q = w.heap.size) (b := w.heap.size) rfl vs w (w.alloc (.cells ROW e)).drew (i * K) (Aside.trans (aside_alloc (Aside.refl _ _)) (Aside.of_below (Below.drew (Below.refl _ _))))) (Aside.of_below (Below.drew (Below.refl _ _))))
  exact ⟨hA.os, hA.tape, hA.output, hA.size, fun k hk _ => hA.block k hk (by omega)⟩
theorem c_Insert_Tree (base n i vb : Nat) (v : Value) (xs vs : List Value) (w : World) (hown : w.ownsRow base 34 6 v n xs) (hi : i <= n) (hvb : w.heap[vb]? = some (.cells vs.toArray 34 (0, 0))) (hvl : vs.length = 6) (h1 : ∀ x ∈ xs, x.oneCell' = true) (h1v : ∀ x ∈ vs, x.oneCell' = true) (hn : n <= 1048576) (hbase : base <= w.heap.size) (hne : v.ownBlock ≠ some vb) :
  Calls Tryz.prog 185 #[v, .int .i64 i, .slice (some ⟨vb, 0, none⟩) 1 1] w fun e w' => ∃ g cap, e = .returned (.slice (some ⟨g, 0, none⟩) (n + 1) cap) /\ w'.ownsRow base 34 6 (.slice (some ⟨g, 0, none⟩) (n + 1) cap) (n + 1) (xs.take (i * 6) ++ vs ++ xs.drop (i * 6)) /\ w.grownBy w' v.ownBlock /\ (v.ownBlock = some g ∨ g = w.heap.size) /\ g < w'.heap.size := by
 have hvs : ∀ j u, vs[j]? = some u -> w.cell? ⟨vb, j, none⟩ = some u := fun j u hj => by rw [cell_of_row _ _ _ _ _ _ hvb]; simpa using hj
 have hxl := hown.1;by_cases hin : i = n
 ·subst hin
  rw [List.take_of_length_le (by omega), List.drop_of_length_le (by omega), List.append_nil];exact c_InsT_end base i vb v xs vs w hown hvl hvs h1v hn hbase
 ·obtain ⟨A, c, rfl⟩ := own_form hown
  have hown2 := hown;rcases hown.2 with ⟨-, h0⟩ | ⟨g, cap, cur, h0, hb, hg, hnc, hcm, hcs, ht⟩
  ·omega
  ·simp only [Value.slice.injEq, true_and] at h0
   obtain ⟨rfl, rfl⟩ := h0
   have hcx : ∀ j v, xs[j]? = some v -> w.cell? ⟨g, j, none⟩ = some v := fun j v hj => by
    have := own_news hown2 j v hj
    rwa [add_at, Nat.zero_add] at this
   by_cases hroom : n + 1 <= c
   ·refine (c_InsT_shift g n c i vb xs vs w (by omega) hroom (by unfold maxLen at hcm; omega) (fun e => hne (by rw [e]; rfl)) hxl hvl hcx (fun j hj => isSome_row hg (by rw [hcs]; have := Nat.mul_le_mul_right 6 hroom; omega)) (fun j => frozen_row hg j) hvs h1 h1v _ _ _ _ (shape_row hvb) (shape_row hg) (by rw [hcs]; omega) (frozen_row hvb _) (frozen_row hvb _)).mono ?_
    rintro e w' ⟨rfl, hw⟩;obtain ⟨a1, a2⟩ := own_ins_at hown2 hi hroom hvl rfl rfl hw;exact ⟨g, c, rfl, a1, a2, .inl rfl, Nat.lt_of_lt_of_le (row_lt hg) a2.size⟩
   ·refine (c_InsT_grow g n c i vb xs vs w (by omega) hnc (by omega) (by omega) hxl hvl hcx hvs h1 h1v).mono ?_
    rintro e w' ⟨G, ROW, rfl, hG1, hG2, hR1, hR2, hw⟩;obtain ⟨a1, a2, a3⟩ := own_ins_new hxl hbase hi hG1 hG2 hR1 hR2 hvl rfl rfl (some g) hw;exact ⟨_, G, rfl, a1, a2, .inr rfl, a3⟩
theorem c_Insert_Str (base n i vb : Nat) (v x : Value) (xs : List Value) (w : World) (hown : w.ownsRow base 9 1 v n xs) (hi : i <= n) (hvb : w.heap[vb]? = some (.cells #[x] 9 (0, 0))) (h1 : ∀ x ∈ xs, x.oneCell' = true) (h1v : x.oneCell' = true) (hn : n <= 1048576) (hbase : base <= w.heap.size) (hne : v.ownBlock ≠ some vb) :
  Calls Tryz.prog 184 #[v, .int .i64 i, .slice (some ⟨vb, 0, none⟩) 1 1] w fun e w' => ∃ g cap, e = .returned (.slice (some ⟨g, 0, none⟩) (n + 1) cap) /\ w'.ownsRow base 9 1 (.slice (some ⟨g, 0, none⟩) (n + 1) cap) (n + 1) (xs.take i ++ [x] ++ xs.drop i) /\ w.grownBy w' v.ownBlock /\ (v.ownBlock = some g ∨ g = w.heap.size) /\ g < w'.heap.size := by
 have hvs : ∀ (j : Nat) (u : Value), [x][j]? = some u -> w.cell? ⟨vb, j, none⟩ = some u := fun j u hj => by rw [cell_of_row _ _ _ _ _ _ hvb]; simpa using hj
 have hxl : xs.length = n := by have := hown.1; omega
 have h1vs : ∀ u ∈ [x], u.oneCell' = true := fun u hu => by simp at hu; rw [hu]; exact h1v
 by_cases hin : i = n
 ·subst hin
  rw [List.take_of_length_le (by omega), List.drop_of_length_le (by omega), List.append_nil];exact c_InsS_end base i vb v xs [x] w hown rfl hvs h1vs hn hbase
 ·obtain ⟨A, c, rfl⟩ := own_form hown
  have hown2 := hown;rcases hown.2 with ⟨-, h0⟩ | ⟨g, cap, cur, h0, hb, hg, hnc, hcm, hcs, ht⟩
  ·omega
  ·simp only [Value.slice.injEq, true_and] at h0
   obtain ⟨rfl, rfl⟩ := h0
   have hcx : ∀ (j : Nat) (v : Value), xs[j]? = some v -> w.cell? ⟨g, 0 + j, none⟩ = some v := fun j v hj => by
    have := own_news hown2 j v hj
    rwa [add_at] at this
   have hvs0 : ∀ (j : Nat) (u : Value), [x][j]? = some u -> w.cell? ⟨vb, 0 + j, none⟩ = some u := fun j u hj => by rw [Nat.zero_add]; exact hvs j u hj
   by_cases hroom : n + 1 <= c
   ·have hk := Any2.slices_Insert_string_shift laysIs g 0 n c i vb 0 1 1 xs [x] w (by omega) (by decide) hroom (by unfold maxLen at hcm; omega) (fun e => hne (by rw [e]; rfl)) hxl rfl hcx (fun j hj => by rw [Nat.zero_add]; exact isSome_row hg (by omega)) (fun j _ => frozen_row hg _) hvs0 h1 h1vs _ _ _ _ (shape_row hvb) (shape_row hg) (by omega) (frozen_row hvb _) (frozen_row hvb _)
    change Calls Tryz.prog 184 _ _ _ at hk
    refine hk.mono ?_;rintro e w' ⟨rfl, hw⟩;obtain ⟨a1, a2⟩ := own_ins_at (W := w') (K := 1) (vs := [x]) (i := i) (o1 := 0 + (i + 1)) (o2 := 0 + i) hown2 hi hroom rfl (by omega) (by omega) (by rw [Nat.mul_one]; exact hw);rw [Nat.mul_one] at a1;exact ⟨g, c, rfl, a1, a2, .inl rfl, Nat.lt_of_lt_of_le (row_lt hg) a2.size⟩
   ·have hk := Any2.slices_Insert_string_grow laysIs g 0 n c i vb 0 1 1 xs [x] w (by omega) (by decide) hnc (by omega) (by omega) hxl rfl hcx hvs0 h1 h1vs
    change Calls Tryz.prog 184 _ _ _ at hk
    refine hk.mono ?_;rintro e w' ⟨rfl, hw⟩;obtain ⟨G, hG⟩ : ∃ G, G = grownCap w (n + 1) c 9 := ⟨_, rfl⟩
    have hGn : n + 1 <= G := by rw [hG]; exact grownCap_ge w _ _ _
    have hG63 : G <= maxLen := by rw [hG]; exact grownCap_le_maxLen w (n + 1) c 9 (by unfold maxLen; omega)
    change w' = (((w.alloc (.cells ((xs.take i).toArray ++ Builtin.zeroCells (Value.string ⟨#[]⟩).cells (n + 1 - i) ++ Builtin.zeroCells (Value.string ⟨#[]⟩).cells (grownCap w (n + 1) c 9 - (n + 1))) 9)).drew.setCells w.heap.size i [x]).drew).setCells w.heap.size (i + 1) (xs.drop i) at hw
    rw [<- hG] at hw;have htl : (xs.take i).length = i := by rw [List.length_take]; omega
    obtain ⟨ROW, hROW⟩ : ∃ ROW : Array Value, ROW = (xs.take i).toArray ++ Builtin.zeroCells (Value.string ⟨#[]⟩).cells (n + 1 - i) ++ Builtin.zeroCells (Value.string ⟨#[]⟩).cells (G - (n + 1)) := ⟨_, rfl⟩
    rw [<- hROW] at hw
    have hR1 : ROW.size = G * 1 := by
     rw [hROW];simp only [Array.size_append, size_zeroCells, List.size_toArray, htl];rw [show (Value.string ⟨#[]⟩).cells.size = 1 from rfl];omega
    have hR2 : ROW.toList.take (i * 1) = xs.take (i * 1) := by
     rw [hROW, Nat.mul_one, Array.append_assoc, Array.toList_append];exact List.take_left' htl
    obtain ⟨a1, a2, a3⟩ := own_ins_new (W := w') (K := 1) (n := n) (i := i) (G := G) (xs := xs) (vs := [x]) (ROW := ROW) (o1 := i + 1) (o2 := i) (by omega) hbase hi hGn hG63 hR1 hR2 rfl (by omega) (by omega) (some g) (by rw [Nat.mul_one]; exact hw);rw [Nat.mul_one] at a1;exact ⟨_, G, by show Ending.returned (Value.slice _ _ (grownCap w (n + 1) c 9)) = _; rw [<- hG], a1, a2, .inr rfl, a3⟩
structure MapG (nT base hi : Nat) (w : World) (ks : List ByteArray) (l : List TreeD) (vk vl : Value) (ess : List (List Value)) (F : Nat -> Nat -> Prop) : Prop where
 len : ess.length = l.length
 six : ∀ es ∈ ess, es.length = 6
 keys : w.ownsRow base 9 1 vk ks.length (ks.map Value.string)
 kids : w.ownsRow base 34 6 vl l.length ess.flatten
 hk : ∀ g, vk.ownBlock = some g -> g < hi
 hl : ∀ g, vl.ownBlock = some g -> g < hi
 part : ∀ i b, F i b -> base <= b /\ b < hi /\ vk.ownBlock ≠ some b /\ vl.ownBlock ≠ some b
 apart : ∀ i j b, F i b -> F j b -> i = j
 own : ∀ i d es, l[i]? = some d -> ess[i]? = some es -> OwnT nT (F i) w d es
 size : ∀ s ∈ ks, s.size <= 9223372036854775807
theorem MapG.nil (nT base hi : Nat) (w : World) : MapG nT base hi w [] [] (.slice none 0 0) (.slice none 0 0) [] (fun _ _ => False) :=
 ⟨rfl, fun _ h => (by cases h), World.ownsRow_nil _ _ _ _, World.ownsRow_nil _ _ _ _, fun g h => (by cases h), fun g h => (by cases h), fun _ _ h => h.elim, fun _ _ _ h => h.elim, fun i d es h => (by simp at h), fun _ h => (by cases h)⟩
theorem MapG.carry {nT base hi hi' : Nat} {w w' : World} {ks : List ByteArray} {l : List TreeD} {vk vl : Value} {ess : List (List Value)} {F : Nat -> Nat -> Prop} (h : MapG nT base hi w ks l vk vl ess F) (hh : hi <= hi') (hb : ∀ g, base <= g -> g < hi -> w'.heap[g]? = w.heap[g]?) : MapG nT base hi' w' ks l vk vl ess F :=
 ⟨h.len, h.six, ownsRow_carry h.keys (fun g hg => hb g (h.keys.lt g hg).1 (h.hk g hg)), ownsRow_carry h.kids (fun g hg => hb g (h.kids.lt g hg).1 (h.hl g hg)), fun g hg => Nat.lt_of_lt_of_le (h.hk g hg) hh, fun g hg => Nat.lt_of_lt_of_le (h.hl g hg) hh,
  fun i b hF => ⟨(h.part i b hF).1, Nat.lt_of_lt_of_le (h.part i b hF).2.1 hh, (h.part i b hF).2.2⟩, h.apart, fun i d es hd he => (h.own i d es hd he).carry (fun b hF => hb b (h.part i b hF).1 (h.part i b hF).2.1) (fun _ h => h), h.size⟩
theorem ins_get {D : Type} {l : List D} {i : Nat} {x : D} (hi : i <= l.length) (j : Nat) : (insL l i x)[j]? = if j < i then l[j]? else if j = i then some x else l[j - 1]? := by
 unfold insL;have hl : (l.take i).length = i := by rw [List.length_take]; omega
 by_cases h1 : j < i
 ·rw [if_pos h1, List.getElem?_append_left (by omega), List.getElem?_take, if_pos h1]
 ·rw [if_neg h1, List.getElem?_append_right (by omega), hl]
  by_cases h2 : j = i
  ·rw [if_pos h2, h2, Nat.sub_self]; rfl
  ·rw [if_neg h2, show j - i = (j - 1 - i) + 1 by omega, List.getElem?_cons_succ, List.getElem?_drop, show i + (j - 1 - i) = j - 1 by omega]
theorem ins_map {D C : Type} (f : D -> C) (l : List D) (i : Nat) (x : D) : (insL l i x).map f = insL (l.map f) i (f x) := by
 unfold insL;rw [List.map_append, List.map_cons, List.map_take, List.map_drop]
theorem ins_append {D : Type} (l : List D) (i : Nat) (x : D) : insL l i x = l.take i ++ [x] ++ l.drop i := by unfold insL; simp
theorem ins_mem {D : Type} {l : List D} {i : Nat} {x y : D} (h : y ∈ insL l i x) : y = x ∨ y ∈ l := by
 unfold insL at h;rcases List.mem_append.1 h with h | h
 ·exact .inr (List.mem_of_mem_take h)
 ·rcases List.mem_cons.1 h with h | h
  ·exact .inl h
  ·exact .inr (List.mem_of_mem_drop h)
theorem flat_take : ∀ (ess : List (List Value)) (i : Nat), (∀ es ∈ ess, es.length = 6) -> ess.flatten.take (i * 6) = (ess.take i).flatten
 | [], i, _ => by simp
 | es :: ess, 0, _ => by simp
 | es :: ess, i + 1, h => by
  have h6 := h es (by simp);rw [List.flatten_cons, List.take_succ_cons, List.flatten_cons, List.take_append, h6, show (i + 1) * 6 - 6 = i * 6 by omega, flat_take ess i (fun x hx => h x (by simp [hx])), List.take_of_length_le (by omega)]
theorem flat_drop : ∀ (ess : List (List Value)) (i : Nat), (∀ es ∈ ess, es.length = 6) -> ess.flatten.drop (i * 6) = (ess.drop i).flatten
 | [], i, _ => by simp
 | es :: ess, 0, _ => by simp
 | es :: ess, i + 1, h => by
  have h6 := h es (by simp);rw [List.flatten_cons, List.drop_succ_cons, List.drop_append, h6, show (i + 1) * 6 - 6 = i * 6 by omega, flat_drop ess i (fun x hx => h x (by simp [hx])), List.drop_of_length_le (by omega), List.nil_append]
theorem flat_ins (ess : List (List Value)) (i : Nat) (es : List Value) (h : ∀ es ∈ ess, es.length = 6) : (insL ess i es).flatten = ess.flatten.take (i * 6) ++ es ++ ess.flatten.drop (i * 6) := by
 rw [flat_take ess i h, flat_drop ess i h];unfold insL;rw [List.flatten_append, List.flatten_cons, List.append_assoc]
theorem MapG.one {nT base hi : Nat} {w : World} {ks : List ByteArray} {l : List TreeD} {vk vl : Value} {ess : List (List Value)} {F : Nat -> Nat -> Prop} (h : MapG nT base hi w ks l vk vl ess F) : ∀ u ∈ ess.flatten, u.oneCell' = true := by
 intro u hu;obtain ⟨es, hes, hu⟩ := List.mem_flatten.1 hu;obtain ⟨i, hi⟩ := List.getElem?_of_mem hes;have hil := (List.getElem?_eq_some_iff.1 hi).1;obtain ⟨d, hd⟩ := exists_at (l := l) (k := i) (by have := h.len; omega);exact (h.own i d es hd hi).one u hu
theorem MapG.ins {nT base hi i : Nat} {w0 w1 w2 : World} {ks : List ByteArray} {l : List TreeD} {vk vl vk' vl' : Value} {ess : List (List Value)} {F : Nat -> Nat -> Prop} {S : Nat -> Prop} {t : TreeD} {es : List Value} {key : ByteArray} (h : MapG nT base hi w0 ks l vk vl ess F) (hbh : base <= hi) (hhi : hi <= w0.heap.size) (hi1 : i <= ks.length) (hi2 : i <= l.length)
  (ht : OwnT nT S w0 t es) (hS : ∀ b, S b -> hi <= b /\ b < w0.heap.size) (hkey : key.size <= 9223372036854775807)
  (h01 : ∀ b, base <= b -> b < w0.heap.size -> vk.ownBlock ≠ some b -> w1.heap[b]? = w0.heap[b]?) (hs01 : w0.heap.size <= w1.heap.size)
  (hK : w1.ownsRow base 9 1 vk' (ks.length + 1) ((ks.map Value.string).take i ++ [.string key] ++ (ks.map Value.string).drop i)) (hgk : ∀ g, vk'.ownBlock = some g -> vk.ownBlock = some g ∨ w0.heap.size <= g)
  (h12 : ∀ b, base <= b -> b < w1.heap.size -> vl.ownBlock ≠ some b -> w2.heap[b]? = w1.heap[b]?) (hs12 : w1.heap.size <= w2.heap.size)
  (hL : w2.ownsRow base 34 6 vl' (l.length + 1) (ess.flatten.take (i * 6) ++ es ++ ess.flatten.drop (i * 6))) (hgl : ∀ g, vl'.ownBlock = some g -> vl.ownBlock = some g ∨ w1.heap.size <= g) :
  MapG nT base w2.heap.size w2 (insL ks i key) (insL l i t) vk' vl' (insL ess i es) (fun j b => if j < i then F j b else if j = i then S b else F (j - 1) b) := by
 have hvv := own_apart h.kids h.keys (by decide)
 have hkl : ∀ g, vk'.ownBlock = some g -> vl.ownBlock ≠ some g := fun g hg e => by
  rcases hgk g hg with h1 | h1
  ·exact hvv g e h1
  ·have := h.hl g e; omega
 have hkeep : ∀ b, base <= b -> b < w0.heap.size -> vk.ownBlock ≠ some b -> vl.ownBlock ≠ some b -> w2.heap[b]? = w0.heap[b]? := fun b h1 h2 h3 h4 => (h12 b h1 (by omega) h4).trans (h01 b h1 h2 h3)
 have hlen := h.len;have hFS : ∀ j b, F j b -> ¬ S b := fun j b hF hs => by have := (h.part j b hF).2.1; have := (hS b hs).1; omega
 refine ⟨by rw [ins_len (by omega), ins_len hi2, hlen], ?_, ?_, ?_, ?_, ?_, ?_, ?_, ?_, ?_⟩
 ·intro x hx
  rcases ins_mem hx with rfl | hx
  ·exact ht.len
  ·exact h.six x hx
 ·rw [ins_len hi1, ins_map, ins_append]
  exact ownsRow_carry hK (fun g hg => h12 g (hK.lt g hg).1 (hK.lt g hg).2 (hkl g hg))
 ·rw [ins_len hi2, flat_ins ess i es h.six]
  exact hL
 ·intro g hg
  have := (hK.lt g hg).2;omega
 ·intro g hg
  exact (hL.lt g hg).2
 ·have hnew : ∀ b, base <= b -> b < w0.heap.size -> vk.ownBlock ≠ some b -> vl.ownBlock ≠ some b -> base <= b /\ b < w2.heap.size /\ vk'.ownBlock ≠ some b /\ vl'.ownBlock ≠ some b := fun b h1 h2 h3 h4 =>
   ⟨h1, by omega, fun e => by rcases hgk b e with h5 | h5; exact h3 h5; omega, fun e => by rcases hgl b e with h5 | h5; exact h4 h5; omega⟩
  intro j b hF;by_cases c1 : j < i
  ·rw [if_pos c1] at hF
   obtain ⟨f1, f2, f3, f4⟩ := h.part j b hF;exact hnew b f1 (by omega) f3 f4
  ·rw [if_neg c1] at hF
   by_cases c2 : j = i
   ·rw [if_pos c2] at hF
    obtain ⟨f1, f2⟩ := hS b hF;exact hnew b (by omega) f2 (fun e => by have := h.hk b e; omega) (fun e => by have := h.hl b e; omega)
   ·rw [if_neg c2] at hF
    obtain ⟨f1, f2, f3, f4⟩ := h.part (j - 1) b hF;exact hnew b f1 (by omega) f3 f4
 ·intro j k b hF hG
  have key : ∀ j k, (if j < i then F j b else if j = i then S b else F (j - 1) b) -> (if k < i then F k b else if k = i then S b else F (k - 1) b) -> j <= k -> j = k := by
   intro j k hF hG hjk;by_cases c1 : j < i
   ·rw [if_pos c1] at hF
    by_cases c2 : k < i
    ·rw [if_pos c2] at hG
     exact h.apart j k b hF hG
    ·rw [if_neg c2] at hG
     by_cases c3 : k = i
     ·rw [if_pos c3] at hG
      exact absurd hG (hFS j b hF)
     ·rw [if_neg c3] at hG
      have := h.apart j (k - 1) b hF hG;omega
   ·rw [if_neg c1] at hF
    by_cases c3 : j = i
    ·rw [if_pos c3] at hF
     by_cases c4 : k = i
     ·omega
     ·rw [if_neg (by omega), if_neg c4] at hG
      exact absurd hF (hFS (k - 1) b hG)
    ·rw [if_neg c3] at hF
     rw [if_neg (by omega), if_neg (by omega)] at hG;have := h.apart (j - 1) (k - 1) b hF hG;omega
  rcases Nat.le_total j k with hjk | hjk
  ·exact key j k hF hG hjk
  ·exact (key k j hG hF hjk).symm
 ·have hset : ∀ b, S b -> w2.heap[b]? = w0.heap[b]? := fun b hs => by
   obtain ⟨f1, f2⟩ := hS b hs;exact hkeep b (by omega) f2 (fun e => by have := h.hk b e; omega) (fun e => by have := h.hl b e; omega)
  intro j d' es' hd hes;rw [ins_get hi2] at hd;rw [ins_get (by omega)] at hes;by_cases c1 : j < i
  ·rw [if_pos c1] at hd hes
   refine (h.own j d' es' hd hes).carry (fun b hF => ?_) (fun b hF => by rw [if_pos c1]; exact hF);obtain ⟨f1, f2, f3, f4⟩ := h.part j b hF;exact hkeep b f1 (by omega) f3 f4
  ·rw [if_neg c1] at hd hes
   by_cases c2 : j = i
   ·rw [if_pos c2] at hd hes
    obtain rfl := Option.some.inj hd;obtain rfl := Option.some.inj hes;exact ht.carry hset (fun b hF => by rw [if_neg c1, if_pos c2]; exact hF)
   ·rw [if_neg c2] at hd hes
    refine (h.own (j - 1) d' es' hd hes).carry (fun b hF => ?_) (fun b hF => by rw [if_neg c1, if_neg c2]; exact hF);obtain ⟨f1, f2, f3, f4⟩ := h.part (j - 1) b hF;exact hkeep b f1 (by omega) f3 f4
 ·intro s hs
  rcases ins_mem hs with rfl | hs
  ·exact hkey
  ·exact h.size s hs
theorem MapG.tree {nT base hi : Nat} {w wF : World} {ks : List ByteArray} {l : List TreeD} {vk vl : Value} {ess : List (List Value)} {F : Nat -> Nat -> Prop} {S : Nat -> Prop} (h : MapG nT base hi w ks l vk vl ess F) (hF : ∀ q, base <= q -> q < hi -> wF.heap[q]? = w.heap[q]?) (hS : ∀ b, base <= b -> b < hi -> S b) :
  OwnT (nT + 1) S wF (tMap ks l) [.int .i64 6, .bool false, .int .i64 0, .string ⟨#[]⟩, vk, vl] := by
 have hvv := own_apart h.kids h.keys (by decide);refine OwnT.into ⟨_, _, fun b => vk.ownBlock = some b, fun b => base <= b /\ b < hi /\ vk.ownBlock ≠ some b, rfl, (show I64 6 from by unfold I64; decide), (show I64 0 from by unfold I64; decide), (show ByteArray.size ⟨#[]⟩ <= 9223372036854775807 from by decide), fun b hb => ⟨hS b (h.keys.lt b hb).1 (h.hk b hb), fun hx => hx.2.2 hb⟩, fun b hb => hS b hb.1 hb.2.1, ?_, ?_⟩
 ·obtain ⟨hl, h1⟩ := h.keys
  rcases h1 with ⟨rfl, h0⟩ | ⟨g, cap, cur, rfl, hb, hg, hnc, hcm, hcs, ht⟩
  ·exact ⟨none, 0, by show _ = Value.slice none ks.length 0; rw [h0], by show ks.length <= 0; omega, by omega, fun hp => by change 0 < ks.length at hp; omega⟩
  ·refine ⟨_, cap, rfl, hnc, by unfold maxLen at hcm; omega, fun _ => ⟨g, cur, rfl, rfl, (hF g hb (h.hk g rfl)).trans hg, fun i s hs => ⟨?_, h.size s (List.mem_of_getElem? hs)⟩⟩⟩
   change ks[i]? = some s at hs
   have hi : i < ks.length := (List.getElem?_eq_some_iff.1 hs).1;have : (cur.toList.take (ks.length * 1))[i]? = some (.string s) := by rw [ht, List.getElem?_map, hs]; rfl
   rw [List.getElem?_take, if_pos (by omega)] at this
   simpa using this
 ·obtain ⟨hl, h1⟩ := h.kids
  rcases h1 with ⟨rfl, h0⟩ | ⟨g, cap, cur, rfl, hb, hg, hnc, hcm, hcs, ht⟩
  ·exact ⟨none, 0, by show _ = Value.slice none l.length 0; rw [h0], by show l.length <= 0; omega, by omega, fun hp => by change 0 < l.length at hp; omega⟩
  ·refine ⟨_, cap, rfl, hnc, by unfold maxLen at hcm; omega, fun _ => ⟨g, F, rfl, ⟨hb, h.hl g rfl, fun e => hvv g rfl e⟩, fun i b hb => ⟨⟨(h.part i b hb).1, (h.part i b hb).2.1, (h.part i b hb).2.2.1⟩, fun e => (h.part i b hb).2.2.2 (by rw [e]; rfl)⟩, h.apart, cur, (hF g hb (h.hl g rfl)).trans hg, fun i d hd => ?_⟩⟩
   change l[i]? = some d at hd
   have hi : i < l.length := (List.getElem?_eq_some_iff.1 hd).1;have hlen := h.len;obtain ⟨es, hes⟩ := exists_at (l := ess) (k := i) (by omega);refine ⟨es, h.six es (List.mem_of_getElem? hes), fun j hj => ?_, (h.own i d es hd hes).carry (fun b hb => hF b (h.part i b hb).1 (h.part i b hb).2.1) (fun _ h => h)⟩;have hf := flat_get ess i es j h.six hes hj;rw [<- ht, List.getElem?_take, if_pos (by omega)] at hf
   simpa using hf
end Go.Proofs.YtohcpifekcehjaaGreatDoor
