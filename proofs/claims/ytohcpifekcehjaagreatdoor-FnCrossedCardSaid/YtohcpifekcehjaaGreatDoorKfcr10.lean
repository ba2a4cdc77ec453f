/- Steps to FnCrossed. No conditions. -/
import Derived.Test.YtohcpifekcehjaaGreatDoorKfcr9
import Derived.Test.YtohcpifekcehjaaGreatDoorKfcr6
import Derived.Test.YtohcpifekcehjaaGreatDoorKfcr7
import Derived.Test.YtohcpifekcehjaaGreatDoorKfcr8
import Derived.Test.YtohcpifekcehjaaGreatDoorKfcr5
import Derived.Shelf.LaysM
import Derived.Shelf.Strconv.Itoa3
import Derived.Test.YtohcpifekcehjaaGreatDoorKfcr1
set_option maxHeartbeats 16000000
set_option maxRecDepth 20000
namespace Go.Proofs.YtohcpifekcehjaaGreatDoor
open Go.RowKit Go.Lib
structure PBox (b : Nat) (w wx : World) (vk vl : Value) : Prop where
 zero : wx.heap[w.heap.size]? = some (.cells #[.int .i64 0, .bool false, .int .i64 0, .string ⟨#[]⟩, .slice none 0 0, .slice none 0 0] 34 (0, 0))
 map : wx.heap[w.heap.size + 1]? = some (.cells #[.int .i64 6, .bool false, .int .i64 0, .string ⟨#[]⟩, vk, vl] 34 (0, 0))
 aside : Aside (fun q => q = b ∨ w.heap.size <= q) w wx
theorem PBox.same {b : Nat} {w wx wy : World} {vk vl : Value} {S : Nat -> Prop} (h : PBox b w wx vk vl) (hF : Aside S wx wy) (hS : ∀ q, S q -> q = b ∨ w.heap.size + 2 <= q) (hb : b < w.heap.size) : PBox b w wy vk vl :=
 ⟨(hF.block _ (row_lt h.zero) (fun hq => by have := hS _ hq; omega)).trans h.zero, (hF.block _ (row_lt h.map) (fun hq => by have := hS _ hq; omega)).trans h.map, h.aside.join hF (fun q hq _ => by have := hS q hq; omega)⟩
theorem PBox.set4 {b : Nat} {w wx : World} {vk vl u : Value} (h : PBox b w wx vk vl) : PBox b w (wx.setCell ⟨w.heap.size + 1, 4, none⟩ u) u vl :=
 ⟨(Below.heap_setCell _ _ _ _ (by simp)).trans h.zero, heap_setCell_same wx (w.heap.size + 1) 4 _ _ u h.map, aside_set (.inr (by simp)) h.aside⟩
theorem PBox.set5 {b : Nat} {w wx : World} {vk vl u : Value} (h : PBox b w wx vk vl) : PBox b w (wx.setCell ⟨w.heap.size + 1, 5, none⟩ u) vk u :=
 ⟨(Below.heap_setCell _ _ _ _ (by simp)).trans h.zero, heap_setCell_same wx (w.heap.size + 1) 5 _ _ u h.map, aside_set (.inr (by simp)) h.aside⟩
theorem aside_grown {w w' : World} {r : Option Nat} (h : w.grownBy w' r) : Aside (fun q => some q = r) w w' := ⟨h.os, h.tape, h.output, h.size, fun q h1 h2 => h.block q h1 h2⟩
def GoodM (R : Nat -> Nat -> Flt -> World -> Prop) (b nT : Nat) (w : World) (ks : List ByteArray) (acc : List TreeD) (q m : Nat) (wx : World) : Prop :=
 ∃ vk vl ess F, PBox b w wx vk vl /\ MapG nT (w.heap.size + 2) wx.heap.size wx ks acc vk vl ess F /\ R q m flt0 wx
def BadM (R : Nat -> Nat -> Flt -> World -> Prop) (b N : Nat) (w : World) (f : Flt) (wx : World) : Prop :=
 ∃ (A : Option Addr) (n c : Nat) (A' : Option Addr) (n' c' p m : Nat), PBox b w wx (.slice A n c) (.slice A' n' c') /\ R p m f wx /\ p <= N
def PairsAt (L : List SignD) (E : Int) (R : Nat -> Nat -> Flt -> World -> Prop) (b n d : Nat) (r : Res) (w wx : World) : Prop :=
 (∃ (ks : List ByteArray) (acc : List TreeD) (p m k : Nat), GoodM R b (9 - d) w ks acc p m wx /\ p <= L.length /\ m <= 300 /\ ks.length <= p /\ acc.length = ks.length /\ SortK ks /\ needJ L p (.pairs d ks acc) <= k /\ k <= n /\ r = readJ L E k (.pairs d ks acc) p m) ∨
 (∃ f, BadM R b L.length w f wx /\ f.code ≠ 0 /\ r = .bad f)
theorem BadM.fin {L : List SignD} {E : Int} {b N : Nat} {w wx wF : World} {f : Flt} {A A' : Option Addr} {n c n' c' p m : Nat} (hb : b < w.heap.size) (hL : PBox b w wx (.slice A n c) (.slice A' n' c')) (hR : RdAt L E b p m f wx) (hp : p <= N) (hF : Aside (fun q => q = w.heap.size) wx wF) :
  BadT (RdAt L E b) b N f w (.returned (.agg #[.int .i64 6, .bool false, .int .i64 0, .string ⟨#[]⟩, .slice A n c, .slice A' n' c'])) wF :=
 ⟨6, false, 0, ⟨#[]⟩, A, n, c, A', n', c', p, m, rfl, hR.past hF (fun q hq => by omega), hp, Aside.low (hL.aside.join hF (fun q hq _ => .inr (by omega)))⟩
theorem GoodM.fin {L : List SignD} {E : Int} {b nT : Nat} {w wx wF : World} {ks : List ByteArray} {acc : List TreeD} {q m : Nat} {vk vl : Value} {ess : List (List Value)} {F : Nat -> Nat -> Prop} (hb : b < w.heap.size) (hL : PBox b w wx vk vl) (hG : MapG nT (w.heap.size + 2) wx.heap.size wx ks acc vk vl ess F) (hR : RdAt L E b q m flt0 wx) (hF : Aside (fun q => q = w.heap.size) wx wF) :
  GoodT (RdAt L E b) b (nT + 1) (tMap ks acc) q m w (.returned (.agg #[.int .i64 6, .bool false, .int .i64 0, .string ⟨#[]⟩, vk, vl])) wF := by
 refine ⟨[.int .i64 6, .bool false, .int .i64 0, .string ⟨#[]⟩, vk, vl], rfl, hG.tree (fun q h1 h2 => hF.block q h2 (by omega)) (fun b h1 h2 => ⟨by omega, Nat.lt_of_lt_of_le h2 hF.size⟩), hR.past hF (fun q hq => by omega), ?_⟩;exact Aside.low (hL.aside.join hF (fun q hq _ => .inr (by omega)))
theorem of_pairsI (L : List SignD) (E : Int) (b n : Nat) (hL : SgOk L) (hv : ∀ k, k < n -> T_valI L E b k) : T_pairsI L E b n := by
 intro d p0 m0 w hd1 hd8 hpl hm hn h;have HRd := hid h;have Hv := hid hv;have hlb := h.lt;have hlen := hL.len;have HLs := hid hL;obtain ⟨nd, hnd⟩ : ∃ k, 10 - d = k + 1 := ⟨9 - d, by omega⟩
 have hnd9 : 9 - d = nd := by omega
 obtain ⟨r, hr⟩ : ∃ r, r = pairsR L E n d p0 m0 := ⟨_, rfl⟩
 rw [<- hr, hnd];have HR := hid hr;have HN9 := hid hnd9;have HNe := hid hn;clear hr h hv hnd hnd9 hn hL;by_cases hk4 : kindAt L p0 = 2
 ·have HQ := hid (show r = .good (tMap [] []) (p0 + 1) m0 by rw [HR.out]; exact if_pos hk4)
  have HK := hid hk4;clear hk4;go_enter Tryz.func134, Tryz.ntmps134
  go_wp2_with fail
  refine (c_rd_skip_yes L E 2 b p0 m0 flt0 _ (by omega) (HRd.out.below bel) rfl HK.out).mono ?_;rintro e w1 ⟨rfl, hR1, hA1⟩;have hL1 : PBox b w w1 (.slice none 0 0) (.slice none 0 0) := ⟨(hA1.block _ (by simp; omega) (by omega)).trans ((Below.heap_alloc _ _ _ (by simp)).trans (heap_at (by simp))), (hA1.block _ (by simp) (by omega)).trans (heap_at (by simp)), ((Aside.of_below (bel : Below w.heap.size w _)).trans (hA1.mono (fun q h => .inl h)))⟩
  have HL1 := hid hL1;have HR1 := hid hR1;obtain ⟨x0, x1, x2, x3, x4, x5, xf⟩ := row6 hL1.zero;obtain ⟨y0, y1, y2, y3, y4, y5, yf⟩ := row6 hL1.map;have l0 := row_lt hL1.zero;have l1 := row_lt hL1.map;clear hL1 hR1 hA1;go_wp2_with fail
  exact bodyPost_ret (v := .agg #[.int .i64 6, .bool false, .int .i64 0, .string ⟨#[]⟩, .slice none 0 0, .slice none 0 0]) (by simp only [results, Tryz.results134]; go_simp) rfl (ValE.good HQ.out (GoodM.fin hlb HL1.out (MapG.nil _ _ _ _) HR1.out asd))
 ·have HQ := hid (show r = readJ L E n (.pairs d [] []) p0 m0 by rw [HR.out]; exact if_neg hk4)
  have HK := hid hk4;clear hk4;go_enter Tryz.func134, Tryz.ntmps134
  go_wp2_with fail
  refine (c_rd_skip_no L E 2 b p0 m0 flt0 _ (by omega) (HRd.out.below bel) (.inr HK.out)).mono ?_;rintro e w1 ⟨rfl, hb1⟩;have hR1 : RdAt L E b p0 m0 flt0 w1 := HRd.out.below bel;have hL1 : PBox b w w1 (.slice none 0 0) (.slice none 0 0) := ⟨(hb1.block _ (by simp; omega)).trans ((Below.heap_alloc _ _ _ (by simp)).trans (heap_at (by simp))), (hb1.block _ (by simp)).trans (heap_at (by simp)), Aside.of_below bel⟩
  have hG1 : GoodM (RdAt L E b) b (9 - d) w [] [] p0 m0 w1 := ⟨_, _, _, _, hL1, MapG.nil _ _ _ _, hR1⟩;have HG1 := hid hG1;clear hR1 hL1 hG1 hb1;go_wp2_with fail
  go_loopw [] (fun wr => PairsAt L E (RdAt L E b) b n d r w wr) (fun wr => rdM L.length b wr)
  case atStart => exact .inl ⟨[], [], p0, m0, n, HG1.out, hpl, hm, by simp, rfl, List.Pairwise.nil, HNe.out, Nat.le_refl _, HQ.out⟩
  case round =>
   have HRel := hid hrel;clear hrel HG1;rcases HRel.out with ⟨ks, acc, p, m, k, hG, hp, hm3, hac, hac2, hso, hne, hkn, hrr⟩ | ⟨f, hB, hf, hrr⟩
   ·clear HRel
    obtain ⟨vk, vl, ess, F, hLb, hmg, hRr⟩ := hG;obtain ⟨KA, kc, rfl⟩ := own_form hmg.keys;obtain ⟨VA, vc, rfl⟩ := own_form hmg.kids;have HRr := hid hRr;have HLb := hid hLb;have HM := hid hmg;have HSo := hid hso;have HJ := hid hrr;obtain ⟨k1, hk1⟩ : ∃ k1, k = k1 + 1 := by cases k with | zero => simp [needJ] at hne | succ k1 => exact ⟨k1, rfl⟩
    have hk1n : k1 < n := by omega
    have HJ2 := hid (show r = readJ L E (k1 + 1) (.pairs d ks acc) p m by rw [HJ.out, hk1]);have HNl := hid (show 2 * (L.length - p) + 2 <= k1 + 1 by subst hk1; unfold needJ at hne; simp only at hne; exact hne);obtain ⟨dd, hdd⟩ : ∃ dd, dd = d + 1 := ⟨_, rfl⟩
    have hdd1 : 1 <= dd := by omega
    have hdd9 : dd <= 9 := by omega
    have hddI : (d : Int) + 1 = (dd : Int) := by omega
    have HDD := hid hdd;have HAC := hid hac2;obtain ⟨A, c, hbx, -, -⟩ := hRr;unfold rdC at hbx;obtain ⟨a0, a1, a2, a3, a4, a5, a6, af⟩ := row7r hbx;have lb := row_lt hbx;have a4' : wr.cell? ⟨b, 4, none⟩ = some (.int .i64 0) := a4;obtain ⟨y0, y1, y2, y3, y4, y5, yf⟩ := row6 hLb.map;have ly := row_lt hLb.map;have lz := row_lt hLb.zero;have HKs := hid (fun (w' : World) (hA : Aside (fun q => q = b) wr w') => own_strs (ownsRow_carry HM.out.keys (fun q hq => hA.block q (HM.out.hk q hq) (by have := (HM.out.keys.lt q hq).1; omega))) HM.out.size)
    clear hLb hmg hrr hk1 hne hbx a4 hso hkn hdd hac2;by_cases hkk : kindAt L p = 7
    ·obtain ⟨x, hx⟩ : ∃ x, L[p]? = some x := by
      rcases hx : L[p]? with _ | x
      ·rw [kindAt_none hx] at hkk; omega
      ·exact ⟨x, rfl⟩
     have hxk : x.kind = 7 := by rw [<- kindAt_some hx]; exact hkk
     have hpl2 : p < L.length := (List.getElem?_eq_some_iff.1 hx).1;have hxt := HLs.out.text p x hx;have HX := hid hx;have HXk := hid hxk;obtain ⟨key, hkey⟩ : ∃ key, key = x.text := ⟨_, rfl⟩
     have HKey := hid hkey;obtain ⟨kf, hkf⟩ : ∃ kf, kf = keyF L E ks p x flt0 := ⟨_, rfl⟩
     have HKf := hid hkf;clear hx hxk hkk;rw [<- hkey] at hxt;clear hkey hkf;go_wp2_with fail
     refine (c_rd_key L E b p m (w.heap.size + 2) flt0 ks _ x _ (by omega) HRr.out rfl HX.out HXk.out (by rw [<- HKey.out]; exact hxt) HKs.out).mono ?_;rintro e w2 ⟨rfl, hR2, hA2⟩;rw [<- HKey.out];have hR2' : RdAt L E b (p + 1) m kf w2 := by rw [HKf.out]; exact hR2
     have HR2 := hid hR2';have HL2 := hid (HLb.out.same hA2 (fun q hq => .inl hq) hlb);have HM2 := hid (HM.out.carry (Nat.le_refl _) (fun q h1 h2 => hA2.block q h2 (by omega)));have hs2 := hA2.size;clear a0 a1 a2 a3 a4' a5 a6 af y0 y1 y2 y3 y4 y5 yf hR2 hR2' hA2;by_cases hf0 : kf.code = 0
     ·obtain ⟨hsz, hno⟩ : ¬ 400 < key.size /\ hasS ks key = false := by
       have h1 := HKf.out;unfold keyF at h1;rw [<- HKey.out] at h1;by_cases c1 : 400 < key.size
       ·rw [if_pos c1] at h1; rw [h1] at hf0; exact absurd hf0 (by decide : ¬ (8 : Int) = 0)
       ·rw [if_neg c1] at h1
        refine ⟨c1, ?_⟩;rcases h2 : hasS ks key with _ | _
        ·rfl
        ·rw [if_pos h2] at h1; rw [h1] at hf0; exact absurd hf0 (by decide : ¬ (5 : Int) = 0)
      have hkf0 : kf = flt0 := by rw [HKf.out]; unfold keyF; rw [<- HKey.out, if_neg hsz, if_neg (by rw [hno]; decide)]
      subst hkf0;have HNo := hid hno;have HNc := hid (show ks.contains x.text = false by rw [contains_hasS, <- HKey.out]; exact hno);have HSz := hid (show ¬ 400 < x.text.size by rw [<- HKey.out]; exact hsz);clear hno hf0 hsz;by_cases hk5 : kindAt L (p + 1) = 5
      ·have HK5 := hid hk5
       have hpl3 := kindAt_lt (L := L) (p := p + 1) (by omega);clear hk5;go_wp2_with fail
       refine (c_rd_skip_yes L E 5 b (p + 1) m flt0 _ (by omega) HR2.out rfl HK5.out).mono ?_;rintro e w3 ⟨rfl, hR3, hA3⟩;have HR3 := hid (show RdAt L E b (p + 2) m flt0 w3 from hR3);have HL3 := hid (HL2.out.same hA3 (fun q hq => .inl hq) hlb);have HM3 := hid (HM2.out.carry (Nat.le_refl _) (fun q h1 h2 => hA3.block q (by omega) (by omega)));have hs3 := hA3.size;obtain ⟨A, c, hbx, -, -⟩ := HR3.out
       unfold rdC at hbx;obtain ⟨a0, a1, a2, a3, a4, a5, a6, af⟩ := row7r hbx;have lb3 := row_lt hbx;have a4' : w3.cell? ⟨b, 4, none⟩ = some (.int .i64 0) := a4;clear hR3 hA3 hbx a4;have hne2 : needJ L (p + 2) (.value dd) <= k1 := by have := HNl.out; unfold needJ; simp only; omega
       have hgood := readJ_good L E k1 (.value dd) (p + 2) m (by omega) hm3 hne2;have HNe2 := hid hne2;have hiks := posK_le ks key;have hp2 : p + 2 <= L.length := by omega
       obtain ⟨i, hi⟩ : ∃ i, i = posK ks key := ⟨_, rfl⟩
       have HI := hid hi;rw [<- hi] at hiks;clear hne2 hi;go_wp2_with fail
       refine (Hv.out k1 hk1n dd (p + 2) m _ hdd1 hdd9 hp2 hm3 HNe2.out HR3.out).mono ?_;intro e w4 hv4;rcases hq : readJ L E k1 (.value dd) (p + 2) m with f | ⟨t, q, m'⟩
       ·have hf0 : f.code ≠ 0 := by rw [hq] at hgood; exact hgood
        obtain ⟨u0, u1, u2, u3, U4, u4, u44, U5, u5, u55, p4, m4, rfl, hR4, hp4, hA4⟩ := ValE.isBad hq hv4;have HJ6 := hid (show r = .bad f from HJ2.out.trans (readP_bad HX.out HXk.out HSz.out HNc.out HK5.out (by rw [<- HDD.out]; exact hq)));have Hone := hid (show ∀ z ∈ [Value.int .i64 u0, .bool u1, .int .i64 u2, .string u3, .slice U4 u4 u44, .slice U5 u5 u55], z.oneCell' = true by intro z hz; simp at hz; rcases hz with rfl | rfl | rfl | rfl | rfl | rfl <;> rfl)
        clear hq hgood hv4 a0 a1 a2 a3 a4' a5 a6 af;have hs4 := hA4.size;obtain ⟨w5, hw5⟩ : ∃ W, W = w4.alloc (.cells #[.int .i64 u0, .bool u1, .int .i64 u2, .string u3, .slice U4 u4 u44, .slice U5 u5 u55] 34) := ⟨_, rfl⟩
        have hb5 : Below w4.heap.size w4 w5 := by rw [hw5]; exact bel
        have hz5a : w5.heap.size <= w4.heap.size + 1 := by rw [hw5]; simp
        have hz5b : w4.heap.size + 1 <= w5.heap.size := by rw [hw5]; simp
        have X5 : w5.heap[w4.heap.size]? = some (.cells #[.int .i64 u0, .bool u1, .int .i64 u2, .string u3, .slice U4 u4 u44, .slice U5 u5 u55] 34 (0, 0)) := by rw [hw5]; exact heap_at rfl
        have HW5 := hid hw5;have HX5 := hid X5;have HL4 := hid (HL3.out.same hA4 (fun q hq => .inl hq) hlb);have HM4 := hid (HM3.out.carry (Nat.le_refl _) (fun q h1 h2 => hA4.block q (by omega) (by omega)));have HL5 := hid (HL4.out.same (Aside.of_below (S := fun q => q = b) hb5) (fun q hq => .inl hq) hlb);have HR5 := hid (hR4.below hb5);have HM5 := hid (HM4.out.carry (Nat.le_refl _) (fun q h1 h2 => hb5.block q (by omega)))
        have H45 := hid (fun (x : Nat) (hx : x < w4.heap.size) => hb5.block x hx);have hL4f := HL4.out;obtain ⟨y0, y1, y2, y3, y4, y5, yf⟩ := row6 hL4f.map;have ly4 := row_lt hL4f.map;have hn5 : ¬ w.heap.size + 1 = w4.heap.size := by omega
        clear hA4 hR4 hw5 X5 hL4f;go_upto_region 10 with fail
        rw [<- HW5.out];clear y0 y1 y2 y3 y4 y5 yf;obtain ⟨y0, y1, y2, y3, y4, y5, yf⟩ := row6 HL5.out.map;have ly5 := row_lt HL5.out.map;go_wp2_with fail
        refine (c_BinarySearch ks key _ _ (w.heap.size + 2) (own_strs HM5.out.keys HM5.out.size) HSo.out (by omega)).mono ?_;rintro e w6 ⟨z6, rfl, hb6⟩;rw [<- HI.out];have HB6 := hid hb6;have HL6 := hid (HL5.out.same (Aside.of_below (S := fun q => q = b) hb6) (fun q hq => .inl hq) hlb);have HR6 := hid (HR5.out.below hb6);have HX6 := hid ((hb6.block _ (by omega)).trans HX5.out)
        have HM6 := hid (HM5.out.carry (Nat.le_refl _) (fun q h1 h2 => hb6.block q (by omega)));have hs6 := hb6.size;clear y0 y1 y2 y3 y4 y5 yf hb6;obtain ⟨y0, y1, y2, y3, y4, y5, yf⟩ := row6 HL6.out.map;have ly6 := row_lt HL6.out.map;go_wp2_with fail
        obtain ⟨w7, hw7⟩ : ∃ W, W = w6.alloc (.cells #[.string key] 9) := ⟨_, rfl⟩
        have hb7 : Below w6.heap.size w6 w7 := by rw [hw7]; exact bel
        have hz7a : w7.heap.size <= w6.heap.size + 1 := by rw [hw7]; simp
        have hz7b : w6.heap.size + 1 <= w7.heap.size := by rw [hw7]; simp
        have X7 : w7.heap[w6.heap.size]? = some (.cells #[.string key] 9 (0, 0)) := by rw [hw7]; exact heap_at rfl
        rw [<- hw7];have HB7 := hid hb7;have HX7 := hid X7;have HL7 := hid (HL6.out.same (Aside.of_below (S := fun q => q = b) hb7) (fun q hq => .inl hq) hlb);have HR7 := hid (HR6.out.below hb7);have HXt7 := hid ((hb7.block _ (by omega)).trans HX6.out);have HM7 := hid (HM6.out.carry (Nat.le_refl _) (fun q h1 h2 => hb7.block q (by omega)));clear y0 y1 y2 y3 y4 y5 yf hw7 X7 hb7
        refine (c_Insert_Str (w.heap.size + 2) ks.length i w6.heap.size _ (.string key) (ks.map Value.string) _ HM7.out.keys hiks HX7.out (one_strs ks) rfl (by omega) (by omega) (fun h => by have := HM7.out.hk _ h; omega)).mono ?_;rintro e w8 ⟨g, cap, rfl, hown8, hgrow8, hat8, hlt8⟩;have hA8 := aside_grown hgrow8;have hkb : ∀ q, (Value.slice KA ks.length kc).ownBlock = some q -> w.heap.size + 2 <= q /\ q < wr.heap.size := fun q hq => ⟨(HM7.out.keys.lt q hq).1, HM7.out.hk q hq⟩
        have hlb8 : ∀ q, (Value.slice VA acc.length vc).ownBlock = some q -> w.heap.size + 2 <= q /\ q < wr.heap.size := fun q hq => ⟨(HM7.out.kids.lt q hq).1, HM7.out.hl q hq⟩
        have hvv := own_apart HM7.out.kids HM7.out.keys (by decide);have hs8 := hgrow8.size;have HL8 := hid (HL7.out.same hA8 (fun q hq => .inr (hkb q hq.symm).1) hlb);have HR8 := hid (HR7.out.past hA8 (fun q hq => by have := (hkb q hq.symm).1; omega));have HXt8 := hid ((hA8.block _ (by omega) (fun h => by have := (hkb _ h.symm).2; omega)).trans HXt7.out);have HV8 := hid (ownsRow_carry HM7.out.kids (fun q hq => hA8.block q (by have := (hlb8 q hq).2; omega) (fun h => hvv q hq h.symm)))
        have hg8 : w.heap.size + 2 <= g := (hown8.lt g rfl).1;obtain ⟨y0, y1, y2, y3, y4, y5, yf⟩ := row6 HL8.out.map;have ly8 := row_lt HL8.out.map;have HOwn8 := hid hown8;have HGr8 := hid (And.intro hgrow8 hat8);have HKB := hid hkb;have HLB := hid hlb8;have HVV := hid hvv;clear hown8 hgrow8 hat8 hA8 hkb hlb8 hvv;go_upto_region 12 with fail
        obtain ⟨w9, hw9⟩ : ∃ W, W = w8.setCell ⟨w.heap.size + 1, 4, none⟩ (.slice (some ⟨g, 0, none⟩) (ks.length + 1) cap) := ⟨_, rfl⟩
        rw [<- hw9];have hz9a : w9.heap.size <= w8.heap.size := by rw [hw9]; simp
        have hz9b : w8.heap.size <= w9.heap.size := by rw [hw9]; simp
        have hA9 : Aside (fun q => q = w.heap.size + 1) w8 w9 := by rw [hw9]; exact aside_set rfl (Aside.refl _ _)
        have HL9 := hid (show PBox b w w9 (.slice (some ⟨g, 0, none⟩) (ks.length + 1) cap) (.slice VA acc.length vc) by rw [hw9]; exact HL8.out.set4);have HR9 := hid (HR8.out.past hA9 (fun q hq => by omega));have HXt9 := hid ((hA9.block _ (by omega) (by omega)).trans HXt8.out);have HV9 := hid (ownsRow_carry HV8.out (fun q hq => hA9.block q (by have := (HLB.out q hq).2; omega) (by have := (HLB.out q hq).1; omega)))
        have HK9 := hid (ownsRow_carry HOwn8.out (fun q hq => hA9.block q (HOwn8.out.lt q hq).2 (by have := (HOwn8.out.lt q hq).1; omega)));have HF01 := hid (show ∀ q, w.heap.size + 2 <= q -> q < w5.heap.size -> (Value.slice KA ks.length kc).ownBlock ≠ some q -> w9.heap[q]? = w5.heap[q]? from fun q h1 h2 h3 => (hA9.block q (by omega) (by omega)).trans ((HGr8.out.1.block q (by omega) (fun h => h3 h.symm)).trans ((HB7.out.block q (by omega)).trans (HB6.out.block q h2))))
        have HG9 := hid (show ∀ q, (Value.slice (some ⟨g, 0, none⟩) (ks.length + 1) cap).ownBlock = some q -> (Value.slice KA ks.length kc).ownBlock = some q ∨ w5.heap.size <= q from fun q hq => by
         simp [Value.ownBlock] at hq;subst hq;rcases HGr8.out.2 with h | h
         ·exact .inl h
         ·exact .inr (by omega))
        have hs59 : w5.heap.size <= w9.heap.size := by omega
        clear y0 y1 y2 y3 y4 y5 yf hw9 hA9;obtain ⟨y0, y1, y2, y3, y4, y5, yf⟩ := row6 HL9.out.map;obtain ⟨v0, v1, v2, v3, v4, v5, vf⟩ := row6 HXt9.out;have ly9 := row_lt HL9.out.map;have lx9 := row_lt HXt9.out;go_wp2_with fail
        obtain ⟨w10, hw10⟩ : ∃ W, W = w9.alloc (.cells #[.int .i64 u0, .bool u1, .int .i64 u2, .string u3, .slice U4 u4 u44, .slice U5 u5 u55] 34) := ⟨_, rfl⟩
        have hb10 : Below w9.heap.size w9 w10 := by rw [hw10]; exact bel
        have hz10a : w10.heap.size <= w9.heap.size + 1 := by rw [hw10]; simp
        have hz10b : w9.heap.size + 1 <= w10.heap.size := by rw [hw10]; simp
        have X10 : w10.heap[w9.heap.size]? = some (.cells #[.int .i64 u0, .bool u1, .int .i64 u2, .string u3, .slice U4 u4 u44, .slice U5 u5 u55] 34 (0, 0)) := by rw [hw10]; exact heap_at rfl
        rw [<- hw10];have HB10 := hid hb10;have HX10 := hid X10;have HL10 := hid (HL9.out.same (Aside.of_below (S := fun q => q = b) hb10) (fun q hq => .inl hq) hlb);have HR10 := hid (HR9.out.below hb10);have HV10 := hid (ownsRow_carry HV9.out (fun q hq => hb10.block q (by have := (HLB.out q hq).2; omega)));clear y0 y1 y2 y3 y4 y5 yf v0 v1 v2 v3 v4 v5 vf hw10 X10 hb10;refine (c_Insert_Tree (w.heap.size + 2) acc.length i w9.heap.size _ ess.flatten [.int .i64 u0, .bool u1, .int .i64 u2, .string u3, .slice U4 u4 u44, .slice U5 u5 u55] _ HV10.out (by have := HAC.out; omega) HX10.out rfl HM7.out.one Hone.out (by have := HAC.out; omega) (by omega) (fun h => by have := (HLB.out _ h).2; omega)).mono ?_
        rintro e w12 ⟨g2, cap2, rfl, hown12, hgrow12, hat12, hlt12⟩;have hA12 := aside_grown hgrow12;have hs12 := hgrow12.size;have HL12 := hid (HL10.out.same hA12 (fun q hq => .inr (HLB.out q hq.symm).1) hlb);have HR12 := hid (HR10.out.past hA12 (fun q hq => by have := (HLB.out q hq.symm).1; omega));obtain ⟨y0, y1, y2, y3, y4, y5, yf⟩ := row6 HL12.out.map;have ly12 := row_lt HL12.out.map
        have HOwn12 := hid hown12;have HGr12 := hid (And.intro hgrow12 hat12);clear hown12 hgrow12 hat12 hA12;go_upto_region 13 with fail
        obtain ⟨w13, hw13⟩ : ∃ W, W = w12.setCell ⟨w.heap.size + 1, 5, none⟩ (.slice (some ⟨g2, 0, none⟩) (acc.length + 1) cap2) := ⟨_, rfl⟩
        rw [<- hw13];have hz13a : w13.heap.size <= w12.heap.size := by rw [hw13]; simp
        have hz13b : w12.heap.size <= w13.heap.size := by rw [hw13]; simp
        have hA13 : Aside (fun q => q = w.heap.size + 1) w12 w13 := by rw [hw13]; exact aside_set rfl (Aside.refl _ _)
        have HL13 := hid (show PBox b w w13 (.slice (some ⟨g, 0, none⟩) (ks.length + 1) cap) (.slice (some ⟨g2, 0, none⟩) (acc.length + 1) cap2) by rw [hw13]; exact HL12.out.set5);have HR13 := hid (HR12.out.past hA13 (fun q hq => by omega));have HL13k := hid (ownsRow_carry HOwn12.out (fun q hq => hA13.block q (HOwn12.out.lt q hq).2 (by have := (HOwn12.out.lt q hq).1; omega)));have HF12 := hid (show ∀ q, w.heap.size + 2 <= q -> q < w9.heap.size -> (Value.slice VA acc.length vc).ownBlock ≠ some q -> w13.heap[q]? = w9.heap[q]? from fun q h1 h2 h3 => (hA13.block q (by omega) (by omega)).trans ((HGr12.out.1.block q (by omega) (fun h => h3 h.symm)).trans (HB10.out.block q h2)))
        have HG13 := hid (show ∀ q, (Value.slice (some ⟨g2, 0, none⟩) (acc.length + 1) cap2).ownBlock = some q -> (Value.slice VA acc.length vc).ownBlock = some q ∨ w9.heap.size <= q from fun q hq => by
         simp [Value.ownBlock] at hq;subst hq;rcases HGr12.out.2 with h | h
         ·exact .inl h
         ·exact .inr (by omega))
        have hs913 : w9.heap.size <= w13.heap.size := by omega
        clear y0 y1 y2 y3 y4 y5 yf hw13 hA13;go_wp2_with fail
        refine (c_rd_skip_no L E 2 b p4 m4 f _ (by omega) HR13.out (.inl hf0)).mono ?_;rintro e w14 ⟨rfl, hb14⟩;have HB14 := hid hb14;clear hb14;go_wp2_with fail
        refine (c_rd_skip_no L E 6 b p4 m4 f _ (by omega) (HR13.out.below HB14.out) (.inl hf0)).mono ?_;rintro e w15 ⟨rfl, hb15⟩;have HB15 := hid (HB14.out.trans (hb15.mono HB14.out.size));clear hb15;go_wp2_with fail
        refine (c_rd_fail_old L E 4 b p4 m4 f _ (HR13.out.below HB15.out) hf0).mono ?_;rintro e w16 ⟨rfl, hb16⟩;have HB16 := hid (HB15.out.trans (hb16.mono HB15.out.size));clear hb16;go_wp2_with fail
        go_roundw
        case rel => exact .inr ⟨f, ⟨_, _, _, _, _, _, p4, m4, HL13.out.same (Aside.of_below (S := fun q => q = b) HB16.out) (fun q hq => .inl hq) hlb, HR13.out.below HB16.out, hp4⟩, hf0, HJ6.out⟩
        case measure => rw [(HR13.out.below HB16.out).meas, HRr.out.meas, if_neg hf0, if_pos (show flt0.code = 0 from rfl)]; omega
       ·rw [hq] at hgood
        obtain ⟨hg1, hg2, hg3⟩ := hgood;obtain ⟨cs4, rfl, hO4, hR4, hA4⟩ := ValE.isGood hq hv4;have HO4 := hid hO4;obtain ⟨U4, u44, U5, u55, rfl, -⟩ := hO4.flat;have HJ6 := hid (show r = if kindAt L q = 2 then .good (tMap (insL ks i key) (insL acc i t)) (q + 1) m' else if kindAt L q = 6 then readJ L E k1 (.pairs d (insL ks i key) (insL acc i t)) (q + 1) m' else .bad (badF L E 4 q) by rw [HJ2.out, readP_good HX.out HXk.out HSz.out HNc.out HK5.out (by rw [<- HDD.out]; exact hq), HI.out, HKey.out])
        have Hone := hid hO4.one;clear hq hv4 a0 a1 a2 a3 a4' a5 a6 af hO4;have hs4 := hA4.size;obtain ⟨w5, hw5⟩ : ∃ W, W = w4.alloc (.cells #[.int .i64 t.kind, .bool t.flag, .int .i64 t.num, .string t.text, .slice U4 t.keys.length u44, .slice U5 t.kids.length u55] 34) := ⟨_, rfl⟩
        have hb5 : Below w4.heap.size w4 w5 := by rw [hw5]; exact bel
        have hz5a : w5.heap.size <= w4.heap.size + 1 := by rw [hw5]; simp
        have hz5b : w4.heap.size + 1 <= w5.heap.size := by rw [hw5]; simp
        have X5 : w5.heap[w4.heap.size]? = some (.cells #[.int .i64 t.kind, .bool t.flag, .int .i64 t.num, .string t.text, .slice U4 t.keys.length u44, .slice U5 t.kids.length u55] 34 (0, 0)) := by rw [hw5]; exact heap_at rfl
        have HW5 := hid hw5;have HX5 := hid X5;have HL4 := hid (HL3.out.same hA4 (fun q hq => .inl hq) hlb);have HM4 := hid (HM3.out.carry (Nat.le_refl _) (fun q h1 h2 => hA4.block q (by omega) (by omega)));have HL5 := hid (HL4.out.same (Aside.of_below (S := fun q => q = b) hb5) (fun q hq => .inl hq) hlb);have HR5 := hid (hR4.below hb5);have HM5 := hid (HM4.out.carry (Nat.le_refl _) (fun q h1 h2 => hb5.block q (by omega)))
        have H45 := hid (fun (x : Nat) (hx : x < w4.heap.size) => hb5.block x hx);have hL4f := HL4.out;obtain ⟨y0, y1, y2, y3, y4, y5, yf⟩ := row6 hL4f.map;have ly4 := row_lt hL4f.map;have hn5 : ¬ w.heap.size + 1 = w4.heap.size := by omega
        clear hA4 hR4 hw5 X5 hL4f;go_upto_region 10 with fail
        rw [<- HW5.out];clear y0 y1 y2 y3 y4 y5 yf;obtain ⟨y0, y1, y2, y3, y4, y5, yf⟩ := row6 HL5.out.map;have ly5 := row_lt HL5.out.map;go_wp2_with fail
        refine (c_BinarySearch ks key _ _ (w.heap.size + 2) (own_strs HM5.out.keys HM5.out.size) HSo.out (by omega)).mono ?_;rintro e w6 ⟨z6, rfl, hb6⟩;rw [<- HI.out];have HB6 := hid hb6;have HL6 := hid (HL5.out.same (Aside.of_below (S := fun q => q = b) hb6) (fun q hq => .inl hq) hlb);have HR6 := hid (HR5.out.below hb6);have HX6 := hid ((hb6.block _ (by omega)).trans HX5.out)
        have HM6 := hid (HM5.out.carry (Nat.le_refl _) (fun q h1 h2 => hb6.block q (by omega)));have hs6 := hb6.size;clear y0 y1 y2 y3 y4 y5 yf hb6;obtain ⟨y0, y1, y2, y3, y4, y5, yf⟩ := row6 HL6.out.map;have ly6 := row_lt HL6.out.map;go_wp2_with fail
        obtain ⟨w7, hw7⟩ : ∃ W, W = w6.alloc (.cells #[.string key] 9) := ⟨_, rfl⟩
        have hb7 : Below w6.heap.size w6 w7 := by rw [hw7]; exact bel
        have hz7a : w7.heap.size <= w6.heap.size + 1 := by rw [hw7]; simp
        have hz7b : w6.heap.size + 1 <= w7.heap.size := by rw [hw7]; simp
        have X7 : w7.heap[w6.heap.size]? = some (.cells #[.string key] 9 (0, 0)) := by rw [hw7]; exact heap_at rfl
        rw [<- hw7];have HB7 := hid hb7;have HX7 := hid X7;have HL7 := hid (HL6.out.same (Aside.of_below (S := fun q => q = b) hb7) (fun q hq => .inl hq) hlb);have HR7 := hid (HR6.out.below hb7);have HXt7 := hid ((hb7.block _ (by omega)).trans HX6.out);have HM7 := hid (HM6.out.carry (Nat.le_refl _) (fun q h1 h2 => hb7.block q (by omega)));clear y0 y1 y2 y3 y4 y5 yf hw7 X7 hb7
        refine (c_Insert_Str (w.heap.size + 2) ks.length i w6.heap.size _ (.string key) (ks.map Value.string) _ HM7.out.keys hiks HX7.out (one_strs ks) rfl (by omega) (by omega) (fun h => by have := HM7.out.hk _ h; omega)).mono ?_;rintro e w8 ⟨g, cap, rfl, hown8, hgrow8, hat8, hlt8⟩;have hA8 := aside_grown hgrow8;have hkb : ∀ q, (Value.slice KA ks.length kc).ownBlock = some q -> w.heap.size + 2 <= q /\ q < wr.heap.size := fun q hq => ⟨(HM7.out.keys.lt q hq).1, HM7.out.hk q hq⟩
        have hlb8 : ∀ q, (Value.slice VA acc.length vc).ownBlock = some q -> w.heap.size + 2 <= q /\ q < wr.heap.size := fun q hq => ⟨(HM7.out.kids.lt q hq).1, HM7.out.hl q hq⟩
        have hvv := own_apart HM7.out.kids HM7.out.keys (by decide);have hs8 := hgrow8.size;have HL8 := hid (HL7.out.same hA8 (fun q hq => .inr (hkb q hq.symm).1) hlb);have HR8 := hid (HR7.out.past hA8 (fun q hq => by have := (hkb q hq.symm).1; omega));have HXt8 := hid ((hA8.block _ (by omega) (fun h => by have := (hkb _ h.symm).2; omega)).trans HXt7.out);have HV8 := hid (ownsRow_carry HM7.out.kids (fun q hq => hA8.block q (by have := (hlb8 q hq).2; omega) (fun h => hvv q hq h.symm)))
        have hg8 : w.heap.size + 2 <= g := (hown8.lt g rfl).1;obtain ⟨y0, y1, y2, y3, y4, y5, yf⟩ := row6 HL8.out.map;have ly8 := row_lt HL8.out.map;have HOwn8 := hid hown8;have HGr8 := hid (And.intro hgrow8 hat8);have HKB := hid hkb;have HLB := hid hlb8;have HVV := hid hvv;clear hown8 hgrow8 hat8 hA8 hkb hlb8 hvv;go_upto_region 12 with fail
        obtain ⟨w9, hw9⟩ : ∃ W, W = w8.setCell ⟨w.heap.size + 1, 4, none⟩ (.slice (some ⟨g, 0, none⟩) (ks.length + 1) cap) := ⟨_, rfl⟩
        rw [<- hw9];have hz9a : w9.heap.size <= w8.heap.size := by rw [hw9]; simp
        have hz9b : w8.heap.size <= w9.heap.size := by rw [hw9]; simp
        have hA9 : Aside (fun q => q = w.heap.size + 1) w8 w9 := by rw [hw9]; exact aside_set rfl (Aside.refl _ _)
        have HL9 := hid (show PBox b w w9 (.slice (some ⟨g, 0, none⟩) (ks.length + 1) cap) (.slice VA acc.length vc) by rw [hw9]; exact HL8.out.set4);have HR9 := hid (HR8.out.past hA9 (fun q hq => by omega));have HXt9 := hid ((hA9.block _ (by omega) (by omega)).trans HXt8.out);have HV9 := hid (ownsRow_carry HV8.out (fun q hq => hA9.block q (by have := (HLB.out q hq).2; omega) (by have := (HLB.out q hq).1; omega)))
        have HK9 := hid (ownsRow_carry HOwn8.out (fun q hq => hA9.block q (HOwn8.out.lt q hq).2 (by have := (HOwn8.out.lt q hq).1; omega)));have HF01 := hid (show ∀ q, w.heap.size + 2 <= q -> q < w5.heap.size -> (Value.slice KA ks.length kc).ownBlock ≠ some q -> w9.heap[q]? = w5.heap[q]? from fun q h1 h2 h3 => (hA9.block q (by omega) (by omega)).trans ((HGr8.out.1.block q (by omega) (fun h => h3 h.symm)).trans ((HB7.out.block q (by omega)).trans (HB6.out.block q h2))))
        have HG9 := hid (show ∀ q, (Value.slice (some ⟨g, 0, none⟩) (ks.length + 1) cap).ownBlock = some q -> (Value.slice KA ks.length kc).ownBlock = some q ∨ w5.heap.size <= q from fun q hq => by
         simp [Value.ownBlock] at hq;subst hq;rcases HGr8.out.2 with h | h
         ·exact .inl h
         ·exact .inr (by omega))
        have hs59 : w5.heap.size <= w9.heap.size := by omega
        clear y0 y1 y2 y3 y4 y5 yf hw9 hA9;obtain ⟨y0, y1, y2, y3, y4, y5, yf⟩ := row6 HL9.out.map;obtain ⟨v0, v1, v2, v3, v4, v5, vf⟩ := row6 HXt9.out;have ly9 := row_lt HL9.out.map;have lx9 := row_lt HXt9.out;go_wp2_with fail
        obtain ⟨w10, hw10⟩ : ∃ W, W = w9.alloc (.cells #[.int .i64 t.kind, .bool t.flag, .int .i64 t.num, .string t.text, .slice U4 t.keys.length u44, .slice U5 t.kids.length u55] 34) := ⟨_, rfl⟩
        have hb10 : Below w9.heap.size w9 w10 := by rw [hw10]; exact bel
        have hz10a : w10.heap.size <= w9.heap.size + 1 := by rw [hw10]; simp
        have hz10b : w9.heap.size + 1 <= w10.heap.size := by rw [hw10]; simp
        have X10 : w10.heap[w9.heap.size]? = some (.cells #[.int .i64 t.kind, .bool t.flag, .int .i64 t.num, .string t.text, .slice U4 t.keys.length u44, .slice U5 t.kids.length u55] 34 (0, 0)) := by rw [hw10]; exact heap_at rfl
        rw [<- hw10];have HB10 := hid hb10;have HX10 := hid X10;have HL10 := hid (HL9.out.same (Aside.of_below (S := fun q => q = b) hb10) (fun q hq => .inl hq) hlb);have HR10 := hid (HR9.out.below hb10);have HV10 := hid (ownsRow_carry HV9.out (fun q hq => hb10.block q (by have := (HLB.out q hq).2; omega)));clear y0 y1 y2 y3 y4 y5 yf v0 v1 v2 v3 v4 v5 vf hw10 X10 hb10;refine (c_Insert_Tree (w.heap.size + 2) acc.length i w9.heap.size _ ess.flatten [.int .i64 t.kind, .bool t.flag, .int .i64 t.num, .string t.text, .slice U4 t.keys.length u44, .slice U5 t.kids.length u55] _ HV10.out (by have := HAC.out; omega) HX10.out rfl HM7.out.one Hone.out (by have := HAC.out; omega) (by omega) (fun h => by have := (HLB.out _ h).2; omega)).mono ?_
        rintro e w12 ⟨g2, cap2, rfl, hown12, hgrow12, hat12, hlt12⟩;have hA12 := aside_grown hgrow12;have hs12 := hgrow12.size;have HL12 := hid (HL10.out.same hA12 (fun q hq => .inr (HLB.out q hq.symm).1) hlb);have HR12 := hid (HR10.out.past hA12 (fun q hq => by have := (HLB.out q hq.symm).1; omega));obtain ⟨y0, y1, y2, y3, y4, y5, yf⟩ := row6 HL12.out.map;have ly12 := row_lt HL12.out.map
        have HOwn12 := hid hown12;have HGr12 := hid (And.intro hgrow12 hat12);clear hown12 hgrow12 hat12 hA12;go_upto_region 13 with fail
        obtain ⟨w13, hw13⟩ : ∃ W, W = w12.setCell ⟨w.heap.size + 1, 5, none⟩ (.slice (some ⟨g2, 0, none⟩) (acc.length + 1) cap2) := ⟨_, rfl⟩
        rw [<- hw13];have hz13a : w13.heap.size <= w12.heap.size := by rw [hw13]; simp
        have hz13b : w12.heap.size <= w13.heap.size := by rw [hw13]; simp
        have hA13 : Aside (fun q => q = w.heap.size + 1) w12 w13 := by rw [hw13]; exact aside_set rfl (Aside.refl _ _)
        have HL13 := hid (show PBox b w w13 (.slice (some ⟨g, 0, none⟩) (ks.length + 1) cap) (.slice (some ⟨g2, 0, none⟩) (acc.length + 1) cap2) by rw [hw13]; exact HL12.out.set5);have HR13 := hid (HR12.out.past hA13 (fun q hq => by omega));have HL13k := hid (ownsRow_carry HOwn12.out (fun q hq => hA13.block q (HOwn12.out.lt q hq).2 (by have := (HOwn12.out.lt q hq).1; omega)));have HF12 := hid (show ∀ q, w.heap.size + 2 <= q -> q < w9.heap.size -> (Value.slice VA acc.length vc).ownBlock ≠ some q -> w13.heap[q]? = w9.heap[q]? from fun q h1 h2 h3 => (hA13.block q (by omega) (by omega)).trans ((HGr12.out.1.block q (by omega) (fun h => h3 h.symm)).trans (HB10.out.block q h2)))
        have HG13 := hid (show ∀ q, (Value.slice (some ⟨g2, 0, none⟩) (acc.length + 1) cap2).ownBlock = some q -> (Value.slice VA acc.length vc).ownBlock = some q ∨ w9.heap.size <= q from fun q hq => by
         simp [Value.ownBlock] at hq;subst hq;rcases HGr12.out.2 with h | h
         ·exact .inl h
         ·exact .inr (by omega))
        have hs913 : w9.heap.size <= w13.heap.size := by omega
        clear y0 y1 y2 y3 y4 y5 yf hw13 hA13;go_wp2_with fail
        have hMG := MapG.ins (i := i) (w0 := w5) (w1 := w9) (w2 := w13) (vk' := .slice (some ⟨g, 0, none⟩) (ks.length + 1) cap) (vl' := .slice (some ⟨g2, 0, none⟩) (acc.length + 1) cap2) HM5.out (by omega) (by omega) hiks (by have := HAC.out; omega) ((HO4.out.up (show 10 - dd <= 9 - d by have := HDD.out; omega)).carry (fun x hx => H45.out x hx.2) (fun x hx => hx)) (fun x hx => ⟨by omega, by have := hx.2; omega⟩) (by omega)
         HF01.out hs59 HK9.out HG9.out HF12.out hs913 HL13k.out HG13.out
        have HMG := hid hMG;have HSN := hid (show SortK (insL ks i key) by rw [HI.out]; exact ins_sorted HSo.out HNo.out);have hkn1 : (insL ks i key).length = ks.length + 1 := ins_len hiks;have hkn2 : (insL acc i t).length = acc.length + 1 := ins_len (by have := HAC.out; omega);have HKN := hid (And.intro hkn1 hkn2);clear hMG hkn1 hkn2;by_cases hk2 : kindAt L q = 2
        ·have HF := hid (show r = .good (tMap (insL ks i key) (insL acc i t)) (q + 1) m' by rw [HJ6.out, if_pos hk2])
         have HK2 := hid hk2;clear hk2;refine (c_rd_skip_yes L E 2 b q m' flt0 _ (by omega) HR13.out rfl HK2.out).mono ?_;rintro e w14 ⟨rfl, hR14, hA14⟩;have HL14 := hid (HL13.out.same hA14 (fun q hq => .inl hq) hlb);have HR14 := hid hR14;have HM14 := hid (HMG.out.carry hA14.size (fun x h1 h2 => hA14.block x h2 (by omega)));obtain ⟨x0, x1, x2, x3, x4, x5, xf⟩ := row6 HL14.out.zero
         obtain ⟨y0, y1, y2, y3, y4, y5, yf⟩ := row6 HL14.out.map;have l0 := row_lt HL14.out.zero;have l1 := row_lt HL14.out.map;clear hR14 hA14;go_wp2_with fail
         exact bodyPost_ret (v := .agg #[.int .i64 6, .bool false, .int .i64 0, .string ⟨#[]⟩, .slice (some ⟨g, 0, none⟩) (ks.length + 1) cap, .slice (some ⟨g2, 0, none⟩) (acc.length + 1) cap2]) (by simp only [results, Tryz.results134]; go_simp) rfl (ValE.good HF.out (GoodM.fin (nT := nd) hlb HL14.out (HN9.out ▸ HM14.out) HR14.out asd))
        ·by_cases hk6 : kindAt L q = 6
         ·have HF := hid (show r = readJ L E k1 (.pairs d (insL ks i key) (insL acc i t)) (q + 1) m' by rw [HJ6.out, if_neg hk2, if_pos hk6])
          have hql := kindAt_lt (L := L) (p := q) (by omega);have HK2 := hid hk2;have HK6 := hid hk6;have HNx := hid (show needJ L (q + 1) (.pairs d (insL ks i key) (insL acc i t)) <= k1 by have := HNl.out; unfold needJ; simp only; omega);clear hk2 hk6;refine (c_rd_skip_no L E 2 b q m' flt0 _ (by omega) HR13.out (.inr HK2.out)).mono ?_;rintro e w14 ⟨rfl, hb14⟩;have HB14 := hid hb14
          clear hb14;go_wp2_with fail
          refine (c_rd_skip_yes L E 6 b q m' flt0 _ (by omega) (HR13.out.below HB14.out) rfl HK6.out).mono ?_;rintro e w15 ⟨rfl, hR15, hA15⟩;have HR15 := hid hR15;have HA15 := hid ((Aside.of_below (S := fun q => q = b) HB14.out).trans hA15);clear hR15 hA15;go_wp2_with fail
          go_roundw
          case rel => exact .inl ⟨insL ks i key, insL acc i t, q + 1, m', k1, ⟨_, _, _, _, HL13.out.same HA15.out (fun q hq => .inl hq) hlb, HMG.out.carry HA15.out.size (fun x h1 h2 => HA15.out.block x h2 (by omega)), HR15.out⟩, by omega, hg3, by rw [HKN.out.1]; omega, by rw [HKN.out.1, HKN.out.2, HAC.out], HSN.out, HNx.out, by omega, HF.out⟩
          case measure => rw [HR15.out.meas, HRr.out.meas, if_pos (show flt0.code = 0 from rfl), if_pos (show flt0.code = 0 from rfl)]; omega
         ·have HF := hid (show r = .bad (badF L E 4 q) by rw [HJ6.out, if_neg hk2, if_neg hk6])
          have HK2 := hid hk2;have HK6 := hid hk6;clear hk2 hk6;refine (c_rd_skip_no L E 2 b q m' flt0 _ (by omega) HR13.out (.inr HK2.out)).mono ?_;rintro e w14 ⟨rfl, hb14⟩;have HB14 := hid hb14;clear hb14;go_wp2_with fail
          refine (c_rd_skip_no L E 6 b q m' flt0 _ (by omega) (HR13.out.below HB14.out) (.inr HK6.out)).mono ?_;rintro e w15 ⟨rfl, hb15⟩;have HB15 := hid (HB14.out.trans (hb15.mono HB14.out.size));clear hb15;go_wp2_with fail
          refine (c_rd_fail_new L E 4 b q m' flt0 _ (by omega) (HR13.out.below HB15.out) rfl).mono ?_;rintro e w16 ⟨rfl, hR16, hA16⟩;have HR16 := hid hR16;have HA16 := hid ((Aside.of_below (S := fun q => q = b) HB15.out).trans hA16);clear hR16 hA16;go_wp2_with fail
          go_roundw
          case rel => exact .inr ⟨badF L E 4 q, ⟨_, _, _, _, _, _, q, m', HL13.out.same HA16.out (fun q hq => .inl hq) hlb, HR16.out, hg2⟩, by show (4 : Int) ≠ 0; decide, HF.out⟩
          case measure => rw [HR16.out.meas, HRr.out.meas, if_neg (by show ¬ (4 : Int) = 0; decide), if_pos (show flt0.code = 0 from rfl)]; omega
      ·have HF := hid (show r = .bad (badF L E 4 (p + 1)) from HJ2.out.trans (readP_colon HX.out HXk.out HSz.out HNc.out hk5))
       have HK5 := hid hk5;clear hk5;go_wp2_with fail
       refine (c_rd_skip_no L E 5 b (p + 1) m flt0 _ (by omega) HR2.out (.inr HK5.out)).mono ?_;rintro e w3 ⟨rfl, hb3⟩;have HB3 := hid hb3;clear hb3;go_wp2_with fail
       refine (c_rd_fail_new L E 4 b (p + 1) m flt0 _ (by omega) (HR2.out.below HB3.out) rfl).mono ?_;rintro e w4 ⟨rfl, hR4, hA4⟩;have HR4 := hid hR4;have HL4 := hid ((HL2.out.same (Aside.of_below (S := fun q => q = b) HB3.out) (fun q hq => .inl hq) hlb).same hA4 (fun q hq => .inl hq) hlb);obtain ⟨A, c, hbx, -, -⟩ := HR4.out;unfold rdC at hbx;obtain ⟨a0, a1, a2, a3, a4, a5, a6, af⟩ := row7r hbx
       have lb4 := row_lt hbx;have a4' : w4.cell? ⟨b, 4, none⟩ = some (.int .i64 4) := a4;obtain ⟨x0, x1, x2, x3, x4, x5, xf⟩ := row6 HL4.out.zero;obtain ⟨y0, y1, y2, y3, y4, y5, yf⟩ := row6 HL4.out.map;have l0 := row_lt HL4.out.zero;have l1 := row_lt HL4.out.map;clear hR4 hA4 hbx a4;go_wp2_with fail
       exact bodyPost_ret (v := .agg #[.int .i64 6, .bool false, .int .i64 0, .string ⟨#[]⟩, .slice KA ks.length kc, .slice VA acc.length vc]) (by simp only [results, Tryz.results134]; go_simp) rfl (ValE.bad HF.out (BadM.fin hlb HL4.out HR4.out (by omega) asd))
     ·have HF := hid (show r = .bad kf by
       have h1 := HKf.out;unfold keyF at h1;by_cases c1 : 400 < x.text.size
       ·rw [if_pos c1] at h1; rw [h1]; exact HJ2.out.trans (readP_wide HX.out HXk.out c1)
       ·rw [if_neg c1] at h1
        by_cases c2 : hasS ks x.text = true
        ·rw [if_pos c2] at h1; rw [h1]; exact HJ2.out.trans (readP_twice HX.out HXk.out c1 (by rw [contains_hasS]; exact c2))
        ·rw [if_neg c2] at h1
         rw [h1] at hf0
         exact absurd rfl hf0)
      have hp1 : p + 1 <= L.length := by omega
      obtain ⟨z, hz⟩ : ∃ z, z = kf.code := ⟨_, rfl⟩
      have hf1 := hf0;rw [<- hz] at hf1;have dz : (z != 0) = true := bne_iff_ne.2 hf1;have HZ := hid hz;clear hz hf1;go_wp2_with fail
      refine (c_rd_skip_no L E 5 b (p + 1) m kf _ (by omega) HR2.out (.inl hf0)).mono ?_;rintro e w3 ⟨rfl, hb3⟩;have HB3 := hid hb3;clear hb3;go_wp2_with fail
      refine (c_rd_fail_old L E 4 b (p + 1) m kf _ (HR2.out.below HB3.out) hf0).mono ?_;rintro e w4 ⟨rfl, hb4⟩;have HB4 := hid (HB3.out.trans (hb4.mono HB3.out.size));have HR4 := hid (HR2.out.below HB4.out);have HL4 := hid (HL2.out.same (Aside.of_below (S := fun q => q = b) HB4.out) (fun q hq => .inl hq) hlb);obtain ⟨A, c, hbx, -, -⟩ := HR4.out;unfold rdC at hbx;obtain ⟨a0, a1, a2, a3, a4, a5, a6, af⟩ := row7r hbx
      have lb4 := row_lt hbx;rw [<- HZ.out] at a4;obtain ⟨x0, x1, x2, x3, x4, x5, xf⟩ := row6 HL4.out.zero;obtain ⟨y0, y1, y2, y3, y4, y5, yf⟩ := row6 HL4.out.map;have l0 := row_lt HL4.out.zero;have l1 := row_lt HL4.out.map;clear hb4 hbx hf0;go_wp2_with fail
      exact bodyPost_ret (v := .agg #[.int .i64 6, .bool false, .int .i64 0, .string ⟨#[]⟩, .slice KA ks.length kc, .slice VA acc.length vc]) (by simp only [results, Tryz.results134]; go_simp) rfl (ValE.bad HF.out (BadM.fin hlb HL4.out HR4.out (by omega) asd))
    ·have HK := hid hkk
     have HF := hid (show r = .bad (badF L E 4 p) from HJ2.out.trans (readP_kind hkk));clear hkk HJ2;go_wp2_with fail
     refine (c_rd_key_kind L E b p m flt0 _ _ (by omega) HRr.out rfl HK.out).mono ?_;rintro e w2 ⟨rfl, hR2, hA2⟩;obtain ⟨kf, hkf⟩ : ∃ kf, kf = badF L E 4 p := ⟨_, rfl⟩
     have hf0 : kf.code ≠ 0 := by rw [hkf]; show (4 : Int) ≠ 0; decide
     rw [<- hkf] at hR2 HF;have HR2 := hid hR2;have HL2 := hid (HLb.out.same hA2 (fun q hq => .inl hq) hlb);clear a0 a1 a2 a3 a4' a5 a6 af y0 y1 y2 y3 y4 y5 yf hR2 hA2 hkf;obtain ⟨z, hz⟩ : ∃ z, z = kf.code := ⟨_, rfl⟩
     have hf1 := hf0;rw [<- hz] at hf1;have dz : (z != 0) = true := bne_iff_ne.2 hf1;have HZ := hid hz;clear hz hf1;go_wp2_with fail
     refine (c_rd_skip_no L E 5 b p m kf _ (by omega) HR2.out (.inl hf0)).mono ?_;rintro e w3 ⟨rfl, hb3⟩;have HB3 := hid hb3;clear hb3;go_wp2_with fail
     refine (c_rd_fail_old L E 4 b p m kf _ (HR2.out.below HB3.out) hf0).mono ?_;rintro e w4 ⟨rfl, hb4⟩;have HB4 := hid (HB3.out.trans (hb4.mono HB3.out.size));have HR4 := hid (HR2.out.below HB4.out);have HL4 := hid (HL2.out.same (Aside.of_below (S := fun q => q = b) HB4.out) (fun q hq => .inl hq) hlb);obtain ⟨A, c, hbx, -, -⟩ := HR4.out;unfold rdC at hbx;obtain ⟨a0, a1, a2, a3, a4, a5, a6, af⟩ := row7r hbx
     have lb4 := row_lt hbx;rw [<- HZ.out] at a4;obtain ⟨x0, x1, x2, x3, x4, x5, xf⟩ := row6 HL4.out.zero;obtain ⟨y0, y1, y2, y3, y4, y5, yf⟩ := row6 HL4.out.map;have l0 := row_lt HL4.out.zero;have l1 := row_lt HL4.out.map;clear hb4 hbx hf0;go_wp2_with fail
     exact bodyPost_ret (v := .agg #[.int .i64 6, .bool false, .int .i64 0, .string ⟨#[]⟩, .slice KA ks.length kc, .slice VA acc.length vc]) (by simp only [results, Tryz.results134]; go_simp) rfl (ValE.bad HF.out (BadM.fin hlb HL4.out HR4.out (by omega) asd))
   ·clear HRel
    obtain ⟨A5, n5, c5, A6, n6, c6, p5, m5, hL5, hR5, hp5⟩ := hB;have HL5 := hid hL5;have HR5 := hid hR5;have HF := hid hrr;obtain ⟨z, hz⟩ : ∃ z, z = f.code := ⟨_, rfl⟩
    obtain ⟨A, c, hbx, -, -⟩ := hR5;unfold rdC at hbx;obtain ⟨a0, a1, a2, a3, a4, a5, a6, af⟩ := row7r hbx;have lb := row_lt hbx;rw [<- hz] at a4 hf;have dz : (z == 0) = false := beq_eq_false_iff_ne.2 hf;obtain ⟨x0, x1, x2, x3, x4, x5, xf⟩ := row6 HL5.out.zero;obtain ⟨y0, y1, y2, y3, y4, y5, yf⟩ := row6 HL5.out.map;have l0 := row_lt HL5.out.zero;have l1 := row_lt HL5.out.map;clear hL5 hrr hz hbx hf
    go_wp2_with fail
    exact bodyPost_ret (v := .agg #[.int .i64 6, .bool false, .int .i64 0, .string ⟨#[]⟩, .slice A5 n5 c5, .slice A6 n6 c6]) (by simp only [results, Tryz.results134]; go_simp) rfl (ValE.bad HF.out (BadM.fin hlb HL5.out HR5.out hp5 asd))
open Go.RowKit
theorem quotR_size (s : ByteArray) : ∀ (k j : Nat) (acc : List UInt8), (quotR s k j acc).1.size <= acc.length + 4 * (s.size - j)
 | 0, j, acc => by show (0 : Nat) <= _; omega
 | k + 1, j, acc => by
  unfold quotR;by_cases h : j < s.size
  ·rw [if_pos h]
   by_cases h1 : byteI s j = 34
   ·rw [if_pos h1]
    show acc.toArray.size <= _
    rw [List.size_toArray];omega
   ·rw [if_neg h1]
    by_cases h2 : (quotN s j).2 < 0
    ·rw [if_pos h2]; show (0 : Nat) <= _; omega
    ·rw [if_neg h2]
     have h3 := quotR_size s k (quotN s j).2.toNat (acc ++ (textB (quotN s j).1).data.toList);have h4 := (quotN_next s j).1;have h5 := textB_size (quotN s j).1;have h6 : (textB (quotN s j).1).data.toList.length = (textB (quotN s j).1).size := by rw [Array.length_toList]; rfl
     rw [List.length_append, h6] at h3;omega
  ·rw [if_neg h]; show (0 : Nat) <= _; omega
structure SignOk (x : SignD) : Prop where
 kind : 1 <= x.kind /\ x.kind <= 11
 num : I64 x.num
 text : x.text.size <= 1048576
theorem sign_ok {s : ByteArray} {i : Nat} (hs : s.size <= 20000) (h : ¬ (signB s i).2 < 0) : SignOk (signB s i).1 := by
 have h0 : I64 0 := by unfold I64; decide
 have he : ByteArray.size ⟨#[]⟩ <= 1048576 := by decide
 unfold signB at h ⊢;by_cases c0 : i < s.size
 ·rw [if_pos c0] at h ⊢
  have hm := markI_range (byteI s i);by_cases c1 : markI (byteI s i) ≠ 0
  ·rw [if_pos c1]; exact ⟨by show 1 <= markI (byteI s i) /\ markI (byteI s i) <= 11; omega, h0, he⟩
  ·rw [if_neg c1] at h ⊢
   by_cases c2 : byteI s i = 34
   ·rw [if_pos c2] at h ⊢
    by_cases c3 : (quotB s i).2 < 0
    ·rw [if_pos c3] at h; exact absurd (show (-1 : Int) < 0 by decide) h
    ·rw [if_neg c3]
     refine ⟨by show (1 : Int) <= 7 /\ (7 : Int) <= 11; decide, h0, ?_⟩;show (quotB s i).1.size <= 1048576
     unfold quotB;rw [if_pos c0, if_pos c2];have := quotR_size s (s.size - (i + 1)) (i + 1) [];unfold quotG;simp at this;omega
   ·rw [if_neg c2] at h ⊢
    by_cases c4 : byteI s i = 45 ∨ figI (byteI s i) = true
    ·rw [if_pos c4] at h ⊢
     by_cases c3 : (wholeB s i).2 < 0
     ·rw [if_pos c3] at h; exact absurd (show (-1 : Int) < 0 by decide) h
     ·rw [if_neg c3]
      have := (wholeB_next s i).2;exact ⟨by show (1 : Int) <= 8 /\ (8 : Int) <= 11; decide, by unfold I64; exact ⟨this.1, this.2⟩, he⟩
    ·rw [if_neg c4] at h ⊢
     by_cases c5 : wordB s i wT = true
     ·rw [if_pos c5]; exact ⟨by show (1 : Int) <= 9 /\ (9 : Int) <= 11; decide, h0, he⟩
     ·rw [if_neg c5] at h ⊢
      by_cases c6 : wordB s i wF = true
      ·rw [if_pos c6]; exact ⟨by show (1 : Int) <= 10 /\ (10 : Int) <= 11; decide, h0, he⟩
      ·rw [if_neg c6] at h ⊢
       by_cases c7 : wordB s i wN = true
       ·rw [if_pos c7]; exact ⟨by show (1 : Int) <= 11 /\ (11 : Int) <= 11; decide, h0, he⟩
       ·rw [if_neg c7] at h; exact absurd (show (-1 : Int) < 0 by decide) h
 ·rw [if_neg c0] at h; exact absurd (show (-1 : Int) < 0 by decide) h
theorem signsR_ok {s : ByteArray} (hs : s.size <= 20000) : ∀ (k j : Nat) (acc : List SignD), (∀ x ∈ acc, SignOk x) -> acc.length <= j -> j <= s.size -> (∀ x ∈ (signsR s k j acc).1, SignOk x) /\ (signsR s k j acc).1.length <= s.size
 | 0, j, acc, ha, hl, hj => ⟨ha, by show acc.length <= _; omega⟩
 | k + 1, j, acc, ha, hl, hj => by
  unfold signsR;by_cases h : j < s.size
  ·rw [if_pos h]
   by_cases h1 : blankI (byteI s j) = true
   ·rw [if_pos h1]; exact signsR_ok hs k (j + 1) acc ha (by omega) (by omega)
   ·rw [if_neg h1]
    by_cases h2 : (signB s j).2 < 0
    ·rw [if_pos h2]; exact ⟨fun x hx => (by cases hx), Nat.zero_le _⟩
    ·rw [if_neg h2]
     have h3 := signB_next s j;refine signsR_ok hs k _ _ (fun x hx => ?_) (by rw [List.length_append]; simp only [List.length_cons, List.length_nil]; omega) (by omega);rcases List.mem_append.1 hx with hx | hx
     ·exact ha x hx
     ·rw [List.mem_singleton] at hx
      subst hx;exact sign_ok hs h2
  ·rw [if_neg h]; exact ⟨ha, by show acc.length <= _; omega⟩
theorem signsF_ok (s : ByteArray) : SgOk (signsF s).1 := by
 have h : (∀ x ∈ (signsF s).1, SignOk x) /\ (signsF s).1.length <= 1048576 := by
  unfold signsF;split
  ·rename_i hc
   have hs : s.size <= 20000 := by
    rcases Nat.lt_or_ge 20000 s.size with h1 | h1
    ·unfold textF at hc
     rw [if_pos h1] at hc;exact absurd hc (by decide : ¬ (1 : Int) = 0)
    ·exact h1
   have := signsR_ok hs (s.size - 0) 0 [] (fun x hx => (by cases hx)) (Nat.le_refl _) (Nat.zero_le _);exact ⟨this.1, by have := this.2; unfold signsG; omega⟩
  ·exact ⟨fun x hx => (by cases hx), Nat.zero_le _⟩
 exact ⟨h.2, fun i x hx => (h.1 x (List.mem_of_getElem? hx)).kind, fun i x hx => (h.1 x (List.mem_of_getElem? hx)).num, fun i x hx => (h.1 x (List.mem_of_getElem? hx)).text⟩
def treeZ : TreeD := ⟨0, false, 0, ⟨#[]⟩, [], []⟩
def readB (s : ByteArray) : Flt × TreeD := if (signsF s).2.code = 0 then readL (signsF s).1 s.size else ((signsF s).2, treeZ)
theorem all_rdI (L : List SignD) (E : Int) (b : Nat) (hL : SgOk L) : ∀ n, T_valI L E b n := by
 intro n;induction n using Nat.strongRecOn with
 | ind n ih =>
  cases n with
  | zero =>
   intro d p m w _ _ _ _ hn _;simp [needJ] at hn
  | succ n => exact of_valI L E b n hL (of_listI L E b n hL (fun k hk => ih k (by omega))) (of_pairsI L E b n hL (fun k hk => ih k (by omega)))
theorem readB_sign {s : ByteArray} (h : (signsF s).2.code ≠ 0) : readB s = ((signsF s).2, treeZ) := if_neg h
theorem readB_bad {s : ByteArray} {f : Flt} (h : (signsF s).2.code = 0) (hr : readJ (signsF s).1 s.size (2 * (signsF s).1.length + 4) (.value 1) 0 0 = .bad f) : readB s = (f, treeZ) := by
 unfold readB readL;rw [if_pos h, hr];rfl
theorem readB_more {s : ByteArray} {t : TreeD} {p m : Nat} (h : (signsF s).2.code = 0) (hr : readJ (signsF s).1 s.size (2 * (signsF s).1.length + 4) (.value 1) 0 0 = .good t p m) (hp : p < (signsF s).1.length) : readB s = (badF (signsF s).1 s.size 4 p, treeZ) := by
 unfold readB readL;rw [if_pos h, hr];simp only;rw [if_pos hp];rfl
theorem readB_good {s : ByteArray} {t : TreeD} {p m : Nat} (h : (signsF s).2.code = 0) (hr : readJ (signsF s).1 s.size (2 * (signsF s).1.length + 4) (.value 1) 0 0 = .good t p m) (hp : ¬ p < (signsF s).1.length) : readB s = (flt0, t) := by
 unfold readB readL;rw [if_pos h, hr];simp only;rw [if_neg hp]
def ReadE (r : Flt × TreeD) (w : World) (e : Ending) (w' : World) : Prop := ∃ cs, e = .returned (.tuple #[.agg cs.toArray, .agg (fltC r.1)]) /\ OwnT 10 (fun x => w.heap.size <= x /\ x < w'.heap.size) w' r.2 cs /\ Below w.heap.size w w'
theorem ReadE.bad {r : Flt × TreeD} {f : Flt} {w w' : World} (hr : r = (f, treeZ)) (h : Below w.heap.size w w') : ReadE r w (.returned (.tuple #[.agg #[.int .i64 0, .bool false, .int .i64 0, .string ⟨#[]⟩, .slice none 0 0, .slice none 0 0], .agg (fltC f)])) w' := by
 subst hr;exact ⟨[.int .i64 0, .bool false, .int .i64 0, .string ⟨#[]⟩, .slice none 0 0, .slice none 0 0], rfl, own_leaf (by unfold I64; decide) (by unfold I64; decide) (by decide), h⟩
theorem c_rdb_sign (s : ByteArray) (w : World) (hs : s.size <= 1048576) (hV : CTab w) (hT : Tabs w) (hE : ErrR w) (hf : (signsF s).2.code ≠ 0) :
  Calls Tryz.prog 34 #[.string s] w (ReadE (readB s) w) := by
 have HVT := hid (And.intro hV (And.intro hT hE));clear hV hT hE;obtain ⟨r, hr⟩ : ∃ r, r = readB s := ⟨_, rfl⟩
 rw [<- hr];have HSg := hid (signsF_ok s);have HSg2 := hid (c_impl_SignsOf s);rw [readB_sign hf] at hr;obtain ⟨L, hL⟩ : ∃ L, L = (signsF s).1 := ⟨_, rfl⟩
 obtain ⟨F, hF⟩ : ∃ F, F = (signsF s).2 := ⟨_, rfl⟩
 rw [<- hL] at HSg HSg2;rw [<- hF] at HSg2;have HR := hid (show r = (F, treeZ) by rw [hr, hF]);have hfc : F.code ≠ 0 := by rw [hF]; exact hf
 clear hf;clear hr hL hF;obtain ⟨fc, fa, fp⟩ := F;go_enter Tryz.func34, Tryz.ntmps34
 go_wp2_with fail
 refine (HSg2.out _ hs (HVT.out.1.below bel) (HVT.out.2.1.below bel) (HVT.out.2.2.below bel)).mono ?_;rintro e w1 ⟨A, c, rfl, hrow, hb1⟩;have hrf : fltC ⟨fc, fa, fp⟩ = #[.int .i64 fc, .int .i64 fa, .string fp] := rfl;rw [hrf];have HRow := hid hrow;have HB1 := hid (bel : Below w.heap.size w w1);have HT2 := hid ((hb1.block w.heap.size (by simp; omega)).trans ((Below.heap_alloc _ _ _ (by simp)).trans (heap_at (w := w) (o := .cells #[.int .i64 0, .bool false, .int .i64 0, .string ⟨#[]⟩, .slice none 0 0, .slice none 0 0] 34) rfl)))
 have HT3 := hid ((hb1.block (w.heap.size + 1) (by simp)).trans (heap_at (w := w.alloc (.cells #[.int .i64 0, .bool false, .int .i64 0, .string ⟨#[]⟩, .slice none 0 0, .slice none 0 0] 34)) (o := .cells #[.int .i64 0, .int .i64 0, .string ⟨#[]⟩] 23) (by simp)));have l2 := row_lt HT2.out;have l3 := row_lt HT3.out;clear hrow hb1 hrf;have dz : (fc != 0) = true := bne_iff_ne.2 hfc;clear hfc;go_wp2_with fail
 obtain ⟨w2, hw2⟩ : ∃ W, W = w1.alloc (.cells #[.int .i64 fc, .int .i64 fa, .string fp] 23) := ⟨_, rfl⟩
 rw [<- hw2];have hb2 : Below w1.heap.size w1 w2 := by rw [hw2]; exact bel
 have X2 : w2.heap[w1.heap.size]? = some (.cells #[.int .i64 fc, .int .i64 fa, .string fp] 23 (0, 0)) := by rw [hw2]; exact heap_at rfl
 have hB2 := HB1.out.trans (hb2.mono HB1.out.size);obtain ⟨v0, v1, v2, vf⟩ := row3 X2;obtain ⟨x0, x1, x2, x3, x4, x5, xf⟩ := row6 ((hb2.block _ l2).trans HT2.out);obtain ⟨y0, y1, y2, yf⟩ := row3 ((hb2.block _ l3).trans HT3.out);have m0 := row_lt X2;have m2 := Nat.lt_of_lt_of_le l2 hb2.size;have m3 := Nat.lt_of_lt_of_le l3 hb2.size;clear hw2 hb2 X2;go_region_law (fail)
 all_goals
  (try go_wp2_with fail)
  exact bodyPost_ret (v := .tuple #[.agg #[.int .i64 0, .bool false, .int .i64 0, .string ⟨#[]⟩, .slice none 0 0, .slice none 0 0], .agg #[.int .i64 fc, .int .i64 fa, .string fp]]) (by simp only [results, Tryz.results34]; go_simp) rfl (ReadE.bad HR.out bel)
theorem c_rdb_main (s : ByteArray) (w : World) (hs : s.size <= 1048576) (hV : CTab w) (hT : Tabs w) (hE : ErrR w) (hf : (signsF s).2.code = 0) :
  Calls Tryz.prog 34 #[.string s] w (ReadE (readB s) w) := by
 have HVT := hid (And.intro hV (And.intro hT hE));clear hV hT hE;obtain ⟨r, hr⟩ : ∃ r, r = readB s := ⟨_, rfl⟩
 rw [<- hr];have HSg := hid (signsF_ok s);have HSg2 := hid (c_impl_SignsOf s);rcases hq : readJ (signsF s).1 s.size (2 * (signsF s).1.length + 4) (.value 1) 0 0 with f | ⟨t, p, m⟩
 rotate_left
 by_cases hp : p < (signsF s).1.length
 rotate_left 2
 focus
  rw [readB_bad hf hq] at hr;obtain ⟨L, hL⟩ : ∃ L, L = (signsF s).1 := ⟨_, rfl⟩
  obtain ⟨F, hF⟩ : ∃ F, F = (signsF s).2 := ⟨_, rfl⟩
  rw [<- hL] at HSg HSg2;rw [<- hF] at HSg2
 rotate_left
 focus
  rw [readB_more hf hq hp] at hr;obtain ⟨L, hL⟩ : ∃ L, L = (signsF s).1 := ⟨_, rfl⟩
  obtain ⟨F, hF⟩ : ∃ F, F = (signsF s).2 := ⟨_, rfl⟩
  rw [<- hL] at HSg HSg2;rw [<- hF] at HSg2;rw [<- hL] at hp hr
 rotate_left
 focus
  rw [readB_good hf hq hp] at hr;obtain ⟨L, hL⟩ : ∃ L, L = (signsF s).1 := ⟨_, rfl⟩
  obtain ⟨F, hF⟩ : ∃ F, F = (signsF s).2 := ⟨_, rfl⟩
  rw [<- hL] at HSg HSg2;rw [<- hF] at HSg2;rw [<- hL] at hp
 rotate_left
 all_goals
  have HR := hid hr;rw [<- hL] at hq;have HQ := hid hq;have hgd := readJ_good L s.size (2 * L.length + 4) (.value 1) 0 0 (Nat.zero_le _) (Nat.zero_le _) (by unfold needJ; simp only; omega);rw [hq] at hgd;have hlen := HSg.out.len;have hfc : F.code = 0 := by rw [hF]; exact hf
  have HAll := hid (fun b => all_rdI L s.size b HSg.out (2 * L.length + 4));clear hq hf;clear hr hL hF;obtain ⟨fc, fa, fp⟩ := F;go_enter Tryz.func34, Tryz.ntmps34
  go_wp2_with fail
  refine (HSg2.out _ hs (HVT.out.1.below bel) (HVT.out.2.1.below bel) (HVT.out.2.2.below bel)).mono ?_;rintro e w1 ⟨A, c, rfl, hrow, hb1⟩;have hrf : fltC ⟨fc, fa, fp⟩ = #[.int .i64 fc, .int .i64 fa, .string fp] := rfl;rw [hrf];have HRow := hid hrow;have HB1 := hid (bel : Below w.heap.size w w1);have HT2 := hid ((hb1.block w.heap.size (by simp; omega)).trans ((Below.heap_alloc _ _ _ (by simp)).trans (heap_at (w := w) (o := .cells #[.int .i64 0, .bool false, .int .i64 0, .string ⟨#[]⟩, .slice none 0 0, .slice none 0 0] 34) rfl)))
  have HT3 := hid ((hb1.block (w.heap.size + 1) (by simp)).trans (heap_at (w := w.alloc (.cells #[.int .i64 0, .bool false, .int .i64 0, .string ⟨#[]⟩, .slice none 0 0, .slice none 0 0] 34)) (o := .cells #[.int .i64 0, .int .i64 0, .string ⟨#[]⟩] 23) (by simp)));have l2 := row_lt HT2.out;have l3 := row_lt HT3.out;clear hrow hb1 hrf;change fc = 0 at hfc
  subst hfc;go_upto_region 5 with fail
  obtain ⟨w2, hw2⟩ : ∃ W, W = w1.alloc (.cells #[.int .i64 0, .int .i64 fa, .string fp] 23) := ⟨_, rfl⟩
  rw [<- hw2];have hb2 : Below w1.heap.size w1 w2 := by rw [hw2]; exact bel
  have HZ2 := hid (show w1.heap.size + 1 = w2.heap.size by rw [hw2]; simp);have hz2 : w1.heap.size < w2.heap.size := by rw [hw2]; simp
  have hz2a : w1.heap.size + 1 <= w2.heap.size := by rw [hw2]; simp
  have hz2b : w2.heap.size <= w1.heap.size + 1 := by rw [hw2]; simp
  obtain ⟨w3, hw3⟩ : ∃ W, W = w2.alloc (.cells #[.slice A L.length c, .int .i64 0, .int .i64 s.size, .int .i64 0, .int .i64 0, .int .i64 0, .string ⟨#[]⟩] 84) := ⟨_, rfl⟩
  have HW3 := hid hw3;have hb3 : Below w2.heap.size w2 w3 := by rw [hw3]; exact bel
  have hz3 : w2.heap.size < w3.heap.size := by rw [hw3]; simp
  have hR3 : RdAt L s.size (w1.heap.size + 1) 0 0 flt0 w3 := ⟨A, c, by rw [hw3]; exact heap_at HZ2.out, (RowE.less (HRow.out.below hb2) (Nat.zero_le _)).below hb3, fun g hg => by have := (World.ownsRow.lt HRow.out g hg).2; omega⟩;have HR3 := hid hR3;have HB3 := hid ((HB1.out.trans (hb2.mono HB1.out.size)).trans (hb3.mono (by have := HB1.out.size; omega)));have HT2b := hid ((hb3.block _ (by omega)).trans ((hb2.block _ l2).trans HT2.out))
  have HT3b := hid ((hb3.block _ (by omega)).trans ((hb2.block _ l3).trans HT3.out));clear hw2 hb2 hw3 hb3 hR3;go_wp2_with fail
  rw [<- HW3.out];refine (HAll.out (w1.heap.size + 1) 1 0 0 w3 (by omega) (by omega) (Nat.zero_le _) (Nat.zero_le _) (by unfold needJ; simp only; omega) HR3.out).mono ?_;intro e w4 hv4;have hsw : w.heap.size + 1 < w2.heap.size := by have := HB1.out.size; omega
 ·obtain ⟨u0, u1, u2, u3, U4, u4, u44, U5, u5, u55, p4, m4, rfl, hR4, hp4, hA4⟩ := ValE.isBad HQ.out hv4
  have hs4 := hA4.size;have hB4 : Below w.heap.size w w4 := HB3.out.trans (hA4.below HB3.out.size (fun i hi => by have := HB1.out.size; omega));have HT2c := (hA4.block _ (by omega) (by omega)).trans HT2b.out;have HT3c := (hA4.block _ (by omega) (by omega)).trans HT3b.out;obtain ⟨gc, ga, gp⟩ := f;have dz : (gc != 0) = true := bne_iff_ne.2 hgd;have dz2 : (gc == 0) = false := beq_eq_false_iff_ne.2 hgd
  have HR4 := hid hR4;obtain ⟨A5, c5, hbx, -, -⟩ := hR4;unfold rdC at hbx;obtain ⟨a0, a1, a2, a3, a4, a5, a6, af⟩ := row7r hbx;have lb := row_lt hbx;clear hbx;obtain ⟨x0, x1, x2, x3, x4, x5, xf⟩ := row6 HT2c;obtain ⟨y0, y1, y2, yf⟩ := row3 HT3c;have m2 := row_lt HT2c;have m3 := row_lt HT3c;clear hgd hv4 HT2c HT3c hA4;go_upto_region 9 with fail
  go_region_law (fail)
  all_goals
   (try go_wp2_with fail)
   exact bodyPost_ret (v := .tuple #[.agg #[.int .i64 0, .bool false, .int .i64 0, .string ⟨#[]⟩, .slice none 0 0, .slice none 0 0], .agg #[.int .i64 gc, .int .i64 ga, .string gp]]) (by simp only [results, Tryz.results34]; go_simp) rfl (ReadE.bad HR.out bel)
 ·obtain ⟨cs4, rfl, hO4, hR4, hA4⟩ := ValE.isGood HQ.out hv4
  obtain ⟨U4, u44, U5, u55, rfl, -⟩ := hO4.flat;have hs4 := hA4.size;have hB4 : Below w.heap.size w w4 := HB3.out.trans (hA4.below HB3.out.size (fun i hi => by have := HB1.out.size; omega));have HT2c := hid ((hA4.block _ (by omega) (by omega)).trans HT2b.out);have HT3c := hid ((hA4.block _ (by omega) (by omega)).trans HT3b.out);have dp : (p : Int) < L.length := by omega
  have HR4 := hid hR4;obtain ⟨A5, c5, hbx, -, -⟩ := hR4;unfold rdC at hbx;obtain ⟨a0, a1, a2, a3, a4, a5, a6, af⟩ := row7r hbx;have lb := row_lt hbx;clear hbx;have a4' : w4.cell? ⟨w1.heap.size + 1, 4, none⟩ = some (.int .i64 0) := a4;clear hgd hv4 hA4 a4 hO4;go_wp2_with fail
  refine (c_rd_fail_new L s.size 4 (w1.heap.size + 1) p m flt0 _ (by omega) (HR4.out.below bel) rfl).mono ?_;rintro e w6 ⟨rfl, hR6, hA6⟩;have hs6 := hA6.size;simp at hs6;have hB6 : Below w.heap.size w w6 := Below.trans (b := w4.alloc (.cells #[.int .i64 t.kind, .bool t.flag, .int .i64 t.num, .string t.text, .slice U4 t.keys.length u44, .slice U5 t.kids.length u55] 34)) bel (hA6.below (by simp; have := hB4.size; omega) (fun i hi => by have := HB1.out.size; omega))
  have HT2d := (hA6.block _ (by simp; omega) (by omega)).trans ((Below.heap_alloc _ _ _ (by omega)).trans HT2c.out);have HT3d := (hA6.block _ (by simp; omega) (by omega)).trans ((Below.heap_alloc _ _ _ (by omega)).trans HT3c.out);clear a0 a1 a2 a3 a4' a5 a6 af;obtain ⟨f, hfe⟩ : ∃ f, f = badF L s.size 4 p := ⟨_, rfl⟩
  rw [<- hfe] at hR6;have HR2 := hid (show r = (f, treeZ) by rw [hfe]; exact HR.out);have hgc : f.code = 4 := by rw [hfe]; rfl
  clear hfe HR;have HR := HR2;obtain ⟨gc, ga, gp⟩ := f;change gc = 4 at hgc
  subst hgc;obtain ⟨A5, c5, hbx, -, -⟩ := hR6;unfold rdC at hbx;obtain ⟨a0, a1, a2, a3, a4, a5, a6, af⟩ := row7r hbx;have lb := row_lt hbx;clear hbx;obtain ⟨x0, x1, x2, x3, x4, x5, xf⟩ := row6 HT2d;obtain ⟨y0, y1, y2, yf⟩ := row3 HT3d;have m2 := row_lt HT2d;have m3 := row_lt HT3d;clear HT2d HT3d hA6;go_upto_region 9 with fail
  go_region_law (fail)
  all_goals
   (try go_wp2_with fail)
   exact bodyPost_ret (v := .tuple #[.agg #[.int .i64 0, .bool false, .int .i64 0, .string ⟨#[]⟩, .slice none 0 0, .slice none 0 0], .agg #[.int .i64 4, .int .i64 ga, .string gp]]) (by simp only [results, Tryz.results34]; go_simp) rfl (ReadE.bad HR.out bel)
 ·obtain ⟨cs4, rfl, hO4, hR4, hA4⟩ := ValE.isGood HQ.out hv4
  have HO4 := hid hO4;obtain ⟨U4, u44, U5, u55, rfl, -⟩ := hO4.flat;have hs4 := hA4.size;have hB4 : Below w.heap.size w w4 := HB3.out.trans (hA4.below HB3.out.size (fun i hi => by have := HB1.out.size; omega));have HT2c := (hA4.block _ (by omega) (by omega)).trans HT2b.out;have HT3c := (hA4.block _ (by omega) (by omega)).trans HT3b.out;have dp : decide ((p : Int) < L.length) = false := decide_eq_false (by omega)
  have dp2 : decide (p < L.length) = false := decide_eq_false hp;obtain ⟨A5, c5, hbx, -, -⟩ := hR4;unfold rdC at hbx;obtain ⟨a0, a1, a2, a3, a4, a5, a6, af⟩ := row7r hbx;have lb := row_lt hbx;clear hbx;have a4' : w4.cell? ⟨w1.heap.size + 1, 4, none⟩ = some (.int .i64 0) := a4;obtain ⟨x0, x1, x2, x3, x4, x5, xf⟩ := row6 HT2c;obtain ⟨y0, y1, y2, yf⟩ := row3 HT3c;have m2 := row_lt HT2c;have m3 := row_lt HT3c
  have HS4 := hid (show w.heap.size + 1 < w3.heap.size by omega);clear hgd hv4 hA4 a4 hO4 HT2c HT3c hp;go_wp2_with fail
  refine bodyPost_ret (v := .tuple #[.agg #[.int .i64 t.kind, .bool t.flag, .int .i64 t.num, .string t.text, .slice U4 t.keys.length u44, .slice U5 t.kids.length u55], .agg #[.int .i64 0, .int .i64 0, .string ⟨#[]⟩]]) (by simp only [results, Tryz.results34]; go_simp) rfl ?_;rw [HR.out];refine ⟨[.int .i64 t.kind, .bool t.flag, .int .i64 t.num, .string t.text, .slice U4 t.keys.length u44, .slice U5 t.kids.length u55], rfl, (HO4.out.up (by omega)).carry (fun x hx => Aside.block (S := fun q => q = w.heap.size ∨ q = w.heap.size + 1) (w := w4) asd x hx.2 (by have := HS4.out; have := hx.1; omega)) (fun x hx => ⟨by have := HS4.out; have := hx.1; omega, Nat.lt_of_lt_of_le hx.2 (Aside.size (S := fun q => q = w.heap.size ∨ q = w.heap.size + 1) (w := w4) asd)⟩), bel⟩
theorem c_impl_ReadBraced (s : ByteArray) (w : World) (hs : s.size <= 1048576) (hV : CTab w) (hT : Tabs w) (hE : ErrR w) :
  Calls Tryz.prog 34 #[.string s] w (ReadE (readB s) w) := by
 by_cases hf : (signsF s).2.code = 0
 ·exact c_rdb_main s w hs hV hT hE hf
 ·exact c_rdb_sign s w hs hV hT hE hf
theorem szL_app {D : Type} (f : D -> Nat) : ∀ a b : List D, szL f (a ++ b) = szL f a + szL f b
 | [], b => by simp [szL]
 | x :: a, b => by
  simp only [List.cons_append, szL];rw [szL_app f a b];omega
theorem szL_ins {D : Type} (f : D -> Nat) (l : List D) (i : Nat) (x : D) : szL f (insL l i x) = f x + szL f l := by
 have h := szL_app f (l.take i) (l.drop i);rw [List.take_append_drop] at h;unfold insL;rw [szL_app, h];simp only [szL];omega
theorem shape_mk {n : Nat} {d : TreeD} (h1 : badH d = false) (h2 : strB d.text = true) (h3 : lensOk d = true) (h4 : ∀ i, i < d.keys.length -> keyOk d.keys i = true) (h5 : ∀ t ∈ d.kids, shapeT n t = true) : shapeT (n + 1) d = true := by
 rw [shapeT_succ, h1, h2, h3]
 have hall : ∀ {m : Nat} {p : Nat -> Bool}, (∀ i, i < m -> p i = true) -> allR m p = true := fun {m p} ha => by
  unfold allR;exact List.all_eq_true.2 (fun i hi => ha i (List.mem_range.1 hi))
 rw [hall h4, hall (fun i hi => by
  obtain ⟨t, ht⟩ := exists_at hi;rw [kidAt_eq ht]
  exact h5 t (List.mem_of_getElem? ht))]
 rfl
theorem strB_empty : strB ⟨#[]⟩ = true := by
 unfold strB utf8B;rw [runesAt_end (by decide)];rfl
theorem keys_ok {ks : List ByteArray} (hs : SortK ks) (hk : ∀ k ∈ ks, strB k = true) : ∀ i, i < ks.length -> keyOk ks i = true := by
 intro i hi;obtain ⟨k, hk1⟩ := exists_at hi;have h1 := hk k (List.mem_of_getElem? hk1);cases i with
 | zero => rw [keyOk_zero hk1, h1]
 | succ i =>
  obtain ⟨p, hp⟩ := exists_at (show i < ks.length by omega);rw [keyOk_succ hk1 hp, h1];have h2 := List.pairwise_iff_getElem.1 hs i (i + 1) (by omega) hi (by omega);obtain ⟨g1, g2⟩ := List.getElem?_eq_some_iff.1 hk1;obtain ⟨f1, f2⟩ := List.getElem?_eq_some_iff.1 hp;rw [g2, f2] at h2;rw [h2];rfl
theorem items_cost {pre : Nat -> List UInt8} {f : TreeD -> List UInt8} {g : Nat -> Nat} {l : List TreeD} (hp : ∀ i, i < l.length -> (pre i).length = g i) : ∀ k, 1 <= k -> k <= l.length -> (itemsT pre f l k).length + 1 = szL g (List.range k) + szL (fun t => (f t).length + 1) (l.take k)
 | 0, h, _ => by omega
 | 1, _, hk => by
  obtain ⟨t, ht⟩ := exists_at (show 0 < l.length by omega);have h1 := hp 0 (by omega);rw [items_next ht, szL_take_succ _ l 0 t ht];simp only [itemsT, if_true, List.nil_append, List.length_append, List.take_zero, szL, List.range_succ, List.range_zero];omega
 | k + 2, _, hk => by
  obtain ⟨t, ht⟩ := exists_at (show k + 1 < l.length by omega);have h1 := hp (k + 1) (by omega);have ih := items_cost (f := f) hp (k + 1) (by omega) (by omega);rw [items_next ht, szL_take_succ _ l (k + 1) t ht, if_neg (by omega), List.range_succ, szL_app];simp only [List.length_append, List.length_cons, List.length_nil, szL];omega
theorem szL_zero {D : Type} (l : List D) : szL (fun _ => 0) l = 0 := by
 induction l with
 | nil => rfl
 | cons x l ih => simp only [szL]; omega
theorem szL_keys (q : ByteArray -> Nat) (ks : List ByteArray) : ∀ k, k <= ks.length -> szL (fun i => match ks[i]? with | none => 0 | some x => q x) (List.range k) = szL q (ks.take k)
 | 0, _ => rfl
 | k + 1, hk => by
  obtain ⟨x, hx⟩ := exists_at (show k < ks.length by omega);rw [List.range_succ, szL_app, szL_keys q ks k (by omega), szL_take_succ q ks k x hx];simp only [szL];rw [hx];rfl
def qlen (k : ByteArray) : Nat := (quoteB k).data.toList.length + 1
theorem list_len {n : Nat} {l : List TreeD} (h : l ≠ []) : (sayL (n + 1) (tList l)).length = 1 + szL (fun t => (sayL n t).length + 1) l := by
 have hl : 0 < l.length := List.length_pos_iff.2 h;have h1 := items_cost (pre := fun _ => []) (f := sayL n) (g := fun _ => 0) (l := l) (fun _ _ => rfl) l.length (by omega) (Nat.le_refl _);rw [szL_zero, List.take_length] at h1;show ([91] ++ itemsT (fun _ => []) (sayL n) l l.length ++ [93]).length = _
 simp only [List.length_append, List.length_cons, List.length_nil];omega
theorem map_len {n : Nat} {ks : List ByteArray} {l : List TreeD} (h : l ≠ []) (hk : ks.length = l.length) : (sayL (n + 1) (tMap ks l)).length = 1 + szL qlen ks + szL (fun t => (sayL n t).length + 1) l := by
 have hl : 0 < l.length := List.length_pos_iff.2 h
 have h1 := items_cost (pre := preM ks) (f := sayL n) (g := fun i => match ks[i]? with | none => 0 | some x => qlen x) (l := l) (fun i hi => by
  obtain ⟨x, hx⟩ := exists_at (show i < ks.length by omega);unfold preM qlen;rw [hx]
  simp) l.length (by omega) (Nat.le_refl _)
 rw [szL_keys qlen ks l.length (by omega), List.take_length, <- hk, List.take_length] at h1;show ([123] ++ itemsT (preM ks) (sayL n) l l.length ++ [125]).length = _
 rw [<- hk];simp only [List.length_append, List.length_cons, List.length_nil];omega
structure VOk (N d : Nat) (t : TreeD) : Prop where
 shape : shapeT N t = true
 num : numT N t
 deep : depthT N t + d <= 9
theorem num_leaf {N : Nat} {t : TreeD} (h : I64 t.num) (hk : t.kids = []) : numT (N + 1) t := ⟨h, fun x hx => by rw [hk] at hx; cases hx⟩
theorem leaf_ok {N d : Nat} {t : TreeD} (hd : d <= 8) (h1 : badH t = false) (h2 : strB t.text = true) (h3 : lensOk t = true) (h4 : t.keys = []) (h5 : t.kids = []) (h6 : I64 t.num) : VOk (N + 1) d t /\ sizeT (N + 1) t = 1 := by
 refine ⟨⟨shape_mk h1 h2 h3 (fun i hi => by rw [h4] at hi; simp at hi) (fun x hx => by rw [h5] at hx; cases hx), num_leaf h6 h5, ?_⟩, ?_⟩
 ·rw [depthT_succ, h5]
  simp only [mxL];omega
 ·rw [sizeT_succ, h5]
  rfl
theorem mxL_le {D : Type} {f : D -> Nat} {b : Nat} : ∀ {l : List D}, (∀ x ∈ l, f x <= b) -> mxL f l <= b
 | [], _ => Nat.zero_le _
 | x :: l, h => by
  have h1 := h x (by simp);have h2 := mxL_le (f := f) (l := l) (fun y hy => h y (by simp [hy]));simp only [mxL];omega
theorem list_ok {N d : Nat} {l : List TreeD} (hd : d <= 8) (h : ∀ x ∈ l, VOk N (d + 1) x) : VOk (N + 1) d (tList l) := by
 refine ⟨shape_mk (by unfold badH tList inB; simp) strB_empty (by unfold lensOk tList; simp) (fun i hi => by simp [tList] at hi) (fun x hx => (h x hx).shape), ⟨i64_zero, fun x hx => (h x hx).num⟩, ?_⟩;rw [depthT_succ];have := mxL_le (f := depthT N) (b := 8 - d) (l := l) (fun x hx => by have := (h x hx).deep; omega);show mxL (depthT N) l + 1 + d <= 9
 omega
theorem map_ok {N d : Nat} {ks : List ByteArray} {l : List TreeD} (hd : d <= 8) (hk : ks.length = l.length) (hs : SortK ks) (hst : ∀ k ∈ ks, strB k = true) (h : ∀ x ∈ l, VOk N (d + 1) x) : VOk (N + 1) d (tMap ks l) := by
 refine ⟨shape_mk (by unfold badH tMap inB; simp) strB_empty (by unfold lensOk tMap; simp [hk]) (keys_ok hs hst) (fun x hx => (h x hx).shape), ⟨i64_zero, fun x hx => (h x hx).num⟩, ?_⟩;rw [depthT_succ];have := mxL_le (f := depthT N) (b := 8 - d) (l := l) (fun x hx => by have := (h x hx).deep; omega);show mxL (depthT N) l + 1 + d <= 9
 omega
structure Grb (w : World) (v : Value) (w' : World) (v' : Value) : Prop where
 grown : w.grownBy w' v.ownBlock
 at' : ∀ q, v'.ownBlock = some q -> v.ownBlock = some q ∨ w.heap.size <= q
theorem Grb.trans {w w1 w2 : World} {v v1 v2 : Value} (h : Grb w v w1 v1) (k : Grb w1 v1 w2 v2) : Grb w v w2 v2 := by
 have hs := h.grown.size;refine ⟨⟨k.grown.os.trans h.grown.os, k.grown.tape.trans h.grown.tape, k.grown.output.trans h.grown.output, Nat.le_trans h.grown.size k.grown.size, fun q h1 h2 => ?_⟩, fun q hq => ?_⟩
 ·refine (k.grown.block q (by omega) (fun e => ?_)).trans (h.grown.block q h1 h2)
  rcases h.at' q e.symm with h3 | h3
  ·exact h2 h3.symm
  ·omega
 ·rcases k.at' q hq with h3 | h3
  ·exact h.at' q h3
  ·exact .inr (by omega)
theorem Grb.of {w w' : World} (v : Value) (h : Below w.heap.size w w') : Grb w v w' v := ⟨⟨h.os, h.tape, h.output, h.size, fun q h1 _ => h.block q h1⟩, fun _ hq => .inl hq⟩
theorem Grb.below {base : Nat} {w w' : World} {v v' : Value} {n : Nat} {xs : List Value} {e : TypeId} {z : Nat} (h : Grb w v w' v') (ho : w.ownsRow base e z v n xs) (hb : base <= w.heap.size) : Below base w w' :=
 Below.grown (Below.refl base w) h.grown hb (fun q hq => (World.ownsRow.lt ho q hq).1)
theorem Grb.keep {w w' : World} {v v' : Value} {q : Nat} (h : Grb w v w' v') (h1 : q < w.heap.size) (h2 : v.ownBlock ≠ some q) : w'.heap[q]? = w.heap[q]? := h.grown.block q h1 (fun e => h2 e.symm)
theorem Grb.of_at {w w' : World} {v v' : Value} (h : w.grownBy w' v.ownBlock) (ha : v'.ownBlock = v.ownBlock ∨ v'.ownBlock = some w.heap.size) : Grb w v w' v' :=
 ⟨h, fun q hq => by
  rcases ha with h1 | h1
  ·exact .inl (h1 ▸ hq)
  ·rw [hq] at h1
   exact .inr (by have := Option.some.inj h1; omega)⟩
def BufN (base : Nat) (w : World) (M : List UInt8) (n : Nat) (v : Value) : Prop := n = M.length /\ w.ownsRow base 5 1 v n (Lib.strCells ⟨M.toArray⟩)
theorem BufN.below {base n : Nat} {w w' : World} {M : List UInt8} {v : Value} (h : BufN base w M n v) (hb : Below w.heap.size w w') : BufN base w' M n v := ⟨h.1, ownsRow_carry h.2 (fun q hq => hb.block q (World.ownsRow.lt h.2 q hq).2)⟩
theorem BufN.lt {base n : Nat} {w : World} {M : List UInt8} {v : Value} (h : BufN base w M n v) {q : Nat} (hq : v.ownBlock = some q) : base <= q /\ q < w.heap.size := World.ownsRow.lt h.2 q hq
theorem bufN_lit (wx : World) (base n c k : Nat) (A : Option Addr) (M bs : List UInt8) (cs : List Value) (h : BufN base wx M n (.slice A n c)) (hk : k = bs.length) (hcs : cs = Lib.strCells ⟨bs.toArray⟩) (hsz : n + k <= 2147483648) (hk2 : k <= 1048576) (hbase : base <= wx.heap.size) :
  ∃ (A' : Option Addr) (c' : Nat) (w' : World), (Builtin.append_ #[28, 28] 28 #[.slice A n c, .slice (some ⟨wx.heap.size, 0, none⟩) k k]).run Tryz.prog (wx.alloc (.cells cs.toArray 5)) = .ok (.slice A' (n + k) c') w' /\ BufN base w' (M ++ bs) (n + k) (.slice A' (n + k) c') /\ Grb wx (.slice A n c) w' (.slice A' (n + k) c') := by
 obtain ⟨i0, hi, hz0, hz1, hz2⟩ := info_parts (show (Tryz.prog.info? 5).map (fun i => (i.zero, i.size, i.bytes)) = some (some (.int .u8 0), 1, 1) from by kernel_rfl);obtain ⟨hn, h⟩ := h;have hb : Below wx.heap.size wx (wx.alloc (.cells cs.toArray 5)) := bel;have h' := ownsRow_carry h (fun q hq => hb.block q (World.ownsRow.lt h q hq).2);obtain ⟨v', w', hr, h2, h3, h5⟩ := run_append_row (P := Tryz.prog) (wx.alloc (.cells cs.toArray 5)) 28 28 base 5 i0 (.int .u8 0) 1 1 Tryz.underlying28 hi hz0 hz1 hz2 rfl (by decide) (.slice A n c) n _ h' wx.heap.size k _ _ (own_lit hk hk2 hcs) (cells_one bs) (by unfold maxLen; omega) (by omega) (by simp; omega)
 obtain ⟨A', c', rfl⟩ := own_form h2;refine ⟨A', c', w', hr, ⟨by rw [List.length_append, <- hn, <- hk], ?_⟩, (Grb.of _ hb).trans (Grb.of_at h3 h5)⟩;rw [strCells_list] at h2;exact h2
theorem run_str_at (w : World) (base n c : Nat) (A : Option Addr) (xs : List Value) (hown : w.ownsRow base 5 1 (.slice A n c) n xs) (s : ByteArray) (hsz : n + s.size <= 2147483648) (hbase : base <= w.heap.size) :
  ∃ (A' : Option Addr) (c' : Nat) (w' : World), (Builtin.append_ #[28, 9] 28 #[.slice A n c, .string s]).run Tryz.prog w = .ok (.slice A' (n + s.size) c') w' /\ w'.ownsRow base 5 1 (.slice A' (n + s.size) c') (n + s.size) (xs ++ Lib.strCells s) /\ Grb w (.slice A n c) w' (.slice A' (n + s.size) c') := by
 obtain ⟨i0, hi, hz0, hz1, hz2⟩ := info_parts (show (Tryz.prog.info? 5).map (fun i => (i.zero, i.size, i.bytes)) = some (some (.int .u8 0), 1, 1) from by kernel_rfl);obtain ⟨v', w', hr, h2, h3, h4⟩ := run_append_own_string (P := Tryz.prog) w base 28 9 28 5 i0 Tryz.underlying28 Tryz.underlying9 hi hz0 hz1 hz2 (.slice A n c) n xs hown s (by unfold maxLen; omega) (by omega) hbase;obtain ⟨A', c', rfl⟩ := own_form h2
 refine ⟨A', c', w', hr, h2, h3, ?_⟩;rcases hown.2 with ⟨e1, e2⟩ | ⟨g, cap, cur, e1, hb, hg, hnc, hcm, hcs, ht⟩
 ·obtain ⟨v2, w2, hr2, k2, -⟩ := run_append_own_string (P := Tryz.prog) w w.heap.size 28 9 28 5 i0 Tryz.underlying28 Tryz.underlying9 hi hz0 hz1 hz2 (.slice A n c) n xs ⟨hown.1, .inl ⟨e1, e2⟩⟩ s (by unfold maxLen; omega) (by omega) (Nat.le_refl _)
  rw [hr] at hr2;simp only [Result.ok.injEq] at hr2;obtain ⟨rfl, rfl⟩ := hr2;exact fun q hq => .inr (World.ownsRow.lt k2 q hq).1
 ·cases e1
  by_cases hroom : n + s.size <= c
  ·have hr2 := run_append_room_string (P := Tryz.prog) w 28 9 28 5 i0 Tryz.underlying28 Tryz.underlying9 hi hz1 g n c cur hg s hroom (by omega)
   rw [hr] at hr2;simp only [Result.ok.injEq, Value.slice.injEq] at hr2;obtain ⟨⟨rfl, -, rfl⟩, -⟩ := hr2;exact fun q hq => .inl hq
  ·have hr2 := run_append_grow_string (P := Tryz.prog) w 28 9 28 5 i0 (.int .u8 0) Tryz.underlying28 Tryz.underlying9 hi hz0 ⟨g, 0, none⟩ n c xs (by rw [hz1]; exact hown.1) (by
    intro j u hu;rw [<- ht, List.getElem?_take] at hu;rw [add_at, cell_of_row w g _ cur _ _ hg];split at hu
    ·simpa using hu
    ·cases hu) s (by omega) (by omega) (by rw [hz2]; exact growslice_fits (by omega) (by omega))
   rw [hr] at hr2;simp only [Result.ok.injEq, Value.slice.injEq] at hr2;obtain ⟨⟨rfl, -, rfl⟩, -⟩ := hr2;intro q hq;simp [Value.ownBlock] at hq;exact .inr (by omega)
theorem bufN_str (w : World) (base n c : Nat) (A : Option Addr) (M : List UInt8) (s : ByteArray) (h : BufN base w M n (.slice A n c)) (hsz : n + s.size <= 2147483648) (hbase : base <= w.heap.size) :
  ∃ (A' : Option Addr) (c' : Nat) (w' : World), (Builtin.append_ #[28, 9] 28 #[.slice A n c, .string s]).run Tryz.prog w = .ok (.slice A' (n + s.size) c') w' /\ BufN base w' (M ++ s.data.toList) (n + s.size) (.slice A' (n + s.size) c') /\ Grb w (.slice A n c) w' (.slice A' (n + s.size) c') := by
 obtain ⟨A', c', w', hr, h2, h3⟩ := run_str_at w base n c A _ h.2 s hsz hbase;rw [strCells_list] at h2;exact ⟨A', c', w', hr, ⟨by rw [List.length_append, <- h.1, Array.length_toList]; rfl, h2⟩, h3⟩
theorem wpList_append_to {P : Program} {w : World} {ops : Array Oper} {rest : List Oper} {o : Oper} {a : Act} {Q : Exit -> Act -> World -> Prop} (hgd : o.guard = none) (s x : Operand) (t t2 : TypeId)
  (ho : o.op = .call { callee := .builtin .append, args := #[s, x], argTypes := #[t, t2] }) (v u v' : Value) (w' : World) (hs : a.eval s = v) (hx : a.eval x = u)
  (hr : (Builtin.append_ #[t, t2] o.type #[v, u]).run P w = .ok v' w') (h : wpList P ops Q rest (a.put o.dst v') w') : wpList P ops Q (o :: rest) a w :=
 wpList_plain hgd fun K hK => by
  unfold Oper.wp execOp;simp only [ho, resolve, invoke, builtin, Sem.run_bind, Sem.run_pure, Result.andThen_ok, List.map_toArray, List.map_cons, List.map_nil, hs, hx, hr];exact hK _ _ h
def boolL (f : Bool) : List UInt8 := if f then litT else litF
theorem c_AppendBoolI (f : Bool) (w : World) (base n c : Nat) (A : Option Addr) (M : List UInt8) (h : BufN base w M n (.slice A n c)) (hsz : n <= 1073741824) (hbase : base <= w.heap.size) :
  Calls Tryz.prog 221 #[.slice A n c, .bool f] w fun e w' => ∃ (A' : Option Addr) (c' : Nat), e = .returned (.slice A' (n + (boolL f).length) c') /\ BufN base w' (M ++ (boolL f)) (n + (boolL f).length) (.slice A' (n + (boolL f).length) c') /\ Grb w (.slice A n c) w' (.slice A' (n + (boolL f).length) c') := by
 cases f with
 | true =>
  obtain ⟨A5, c5, w5, hr5, h5, g5⟩ := bufN_str w base n c A M ⟨#[116, 114, 117, 101]⟩ h (by show n + 4 <= _; omega) hbase;have H5 := hid (And.intro h5 g5);clear h h5 g5;go_enter Tryz.func221, Tryz.ntmps221
  go_wp2_with (at_builtin; refine wpList_append_to rfl (.tmp 6) (.const (.string ⟨#[116, 114, 117, 101]⟩)) 28 9 rfl _ _ _ w5 rfl rfl hr5 ?_)
  go_ret
  exact ⟨A5, c5, rfl, H5.out.1, H5.out.2⟩
 | false =>
  obtain ⟨A5, c5, w5, hr5, h5, g5⟩ := bufN_str w base n c A M ⟨#[102, 97, 108, 115, 101]⟩ h (by show n + 5 <= _; omega) hbase;have H5 := hid (And.intro h5 g5);clear h h5 g5;go_enter Tryz.func221, Tryz.ntmps221
  go_wp2_with (at_builtin; refine wpList_append_to rfl (.tmp 8) (.const (.string ⟨#[102, 97, 108, 115, 101]⟩)) 28 9 rfl _ _ _ w5 rfl rfl hr5 ?_)
  go_ret
  exact ⟨A5, c5, rfl, H5.out.1, H5.out.2⟩
theorem c_AppendBool (f : Bool) (w : World) (base n c : Nat) (A : Option Addr) (M : List UInt8) (h : BufN base w M n (.slice A n c)) (hsz : n <= 1073741824) (hbase : base <= w.heap.size) :
  Calls Tryz.prog 162 #[.slice A n c, .bool f] w fun e w' => ∃ (A' : Option Addr) (c' : Nat), e = .returned (.slice A' (n + (boolL f).length) c') /\ BufN base w' (M ++ (boolL f)) (n + (boolL f).length) (.slice A' (n + (boolL f).length) c') /\ Grb w (.slice A n c) w' (.slice A' (n + (boolL f).length) c') := by
 have HC := hid (c_AppendBoolI f w base n c A M h hsz hbase);obtain ⟨r, hr⟩ : ∃ r, r = boolL f := ⟨_, rfl⟩
 rw [<- hr] at HC ⊢;clear h hr;go_enter Tryz.func162, Tryz.ntmps162
 go_wp2_with fail
 refine HC.out.mono ?_;rintro e w1 ⟨A', c', rfl, h1, h2⟩;have H12 := hid (And.intro h1 h2);clear h1 h2;go_wp2_with fail
 go_ret
 exact ⟨A', c', rfl, H12.out.1, H12.out.2⟩
open Go.Shelf
def laysItoa_ren : Go.Shelf.Ren := ⟨fun | 171 => 128 | 243 => 206 | 246 => 248 | 283 => 273 | 284 => 274 | 285 => 275 | 286 => 276 | 129 => 288 | 317 => 287 | 318 => 289 | 319 => 290 | 320 => 291 | 337 => 298 | 338 => 299 | n => n, fun | 3 => 3 | 9 => 9 | 2 => 2 | 4 => 4 | 171 => 212 | 0 => 0 | 53 => 213 | 37 => 28 | 5 => 5 | 173 => 216 | 212 => 233 | 51 => 202 | 20 => 20 | 213 => 234 | 46 => 179 | 232 => 247 | 233 => 248 | n => n, fun | 17 => 5 | 18 => 6 | 19 => 7 | n => n⟩
theorem laysItoa : Go.Proofs.LaysM.n171 Tryz.prog laysItoa_ren := {
 mixed := by kernel_rfl
 f129 := Tryz.func288.trans (congrArg some (by kernel_rfl))
 f171 := Tryz.func128.trans (congrArg some (by kernel_rfl))
 f243 := Tryz.func206.trans (congrArg some (by kernel_rfl))
 f246 := Tryz.func248.trans (congrArg some (by kernel_rfl))
 f283 := Tryz.func273.trans (congrArg some (by kernel_rfl))
 f284 := Tryz.func274.trans (congrArg some (by kernel_rfl))
 f285 := Tryz.func275.trans (congrArg some (by kernel_rfl))
 f286 := Tryz.func276.trans (congrArg some (by kernel_rfl))
 f317 := Tryz.func287.trans (congrArg some (by kernel_rfl))
 f318 := Tryz.func289.trans (congrArg some (by kernel_rfl))
 f319 := Tryz.func290.trans (congrArg some (by kernel_rfl))
 f320 := Tryz.func291.trans (congrArg some (by kernel_rfl))
 f337 := Tryz.func298.trans (congrArg some (by kernel_rfl))
 f338 := Tryz.func299.trans (congrArg some (by kernel_rfl))
 t0 := Tryz.underlying0
 a0 := Tryz.isAgg0
 z0 := Tryz.sizeOf0
 v0 := Tryz.zeroValue0
 t2 := Tryz.underlying2
 a2 := Tryz.isAgg2
 z2 := Tryz.sizeOf2
 v2 := Tryz.zeroValue2
 t3 := Tryz.underlying3
 a3 := Tryz.isAgg3
 z3 := Tryz.sizeOf3
 v3 := Tryz.zeroValue3
 t4 := Tryz.underlying4
 a4 := Tryz.isAgg4
 z4 := Tryz.sizeOf4
 v4 := Tryz.zeroValue4
 t5 := Tryz.underlying5
 a5 := Tryz.isAgg5
 z5 := Tryz.sizeOf5
 v5 := Tryz.zeroValue5
 t9 := Tryz.underlying9
 a9 := Tryz.isAgg9
 z9 := Tryz.sizeOf9
 v9 := Tryz.zeroValue9
 t20 := Tryz.underlying20
 a20 := Tryz.isAgg20
 z20 := Tryz.sizeOf20
 v20 := Tryz.zeroValue20
 t37 := Tryz.underlying28
 a37 := Tryz.isAgg28
 z37 := Tryz.sizeOf28
 v37 := Tryz.zeroValue28
 t46 := Tryz.underlying179
 a46 := Tryz.isAgg179
 z46 := Tryz.sizeOf179
 v46 := Tryz.zeroValue179
 t51 := Tryz.underlying202
 a51 := Tryz.isAgg202
 z51 := Tryz.sizeOf202
 v51 := Tryz.zeroValue202
 t53 := Tryz.underlying213
 a53 := Tryz.isAgg213
 z53 := Tryz.sizeOf213
 v53 := Tryz.zeroValue213
 t171 := Tryz.underlying212
 a171 := Tryz.isAgg212
 z171 := Tryz.sizeOf212
 v171 := Tryz.zeroValue212
 t173 := Tryz.underlying216
 a173 := Tryz.isAgg216
 z173 := Tryz.sizeOf216
 v173 := Tryz.zeroValue216
 t212 := Tryz.underlying233
 a212 := Tryz.isAgg233
 z212 := Tryz.sizeOf233
 v212 := Tryz.zeroValue233
 t213 := Tryz.underlying234
 a213 := Tryz.isAgg234
 z213 := Tryz.sizeOf234
 t232 := Tryz.underlying247
 a232 := Tryz.isAgg247
 z232 := Tryz.sizeOf247
 v232 := Tryz.zeroValue247
 t233 := Tryz.underlying248
 a233 := Tryz.isAgg248
 z233 := Tryz.sizeOf248
 v233 := Tryz.zeroValue248
 g17 := by kernel_rfl
 g18 := by kernel_rfl
 g19 := by kernel_rfl
 i0 := by kernel_rfl
 i2 := by kernel_rfl
 i3 := by kernel_rfl
 i4 := by kernel_rfl
 i5 := by kernel_rfl
 i9 := by kernel_rfl
 i20 := by kernel_rfl
 i37 := by kernel_rfl
 i46 := by kernel_rfl
 i51 := by kernel_rfl
 i53 := by kernel_rfl
 i171 := by kernel_rfl
 i173 := by kernel_rfl
 i212 := by kernel_rfl
 i232 := by kernel_rfl
 i233 := by kernel_rfl
 m17 := by kernel_rfl
 m18 := by kernel_rfl
 m19 := by kernel_rfl }
end Go.Proofs.YtohcpifekcehjaaGreatDoor
