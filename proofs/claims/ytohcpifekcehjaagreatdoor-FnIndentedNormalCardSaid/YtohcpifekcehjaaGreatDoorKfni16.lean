/- Steps to FnIndentedNormal. No conditions. -/
import Derived.Test.YtohcpifekcehjaaGreatDoorKfni14
import Derived.Test.YtohcpifekcehjaaGreatDoorKfni15
import Derived.Test.YtohcpifekcehjaaGreatDoorKfni9
import Derived.Test.YtohcpifekcehjaaGreatDoorKfni7
import Derived.Test.YtohcpifekcehjaaGreatDoorKfni13
import Derived.Test.YtohcpifekcehjaaGreatDoorKfni6
import Derived.Test.YtohcpifekcehjaaGreatDoorKfni3
set_option maxHeartbeats 16000000
set_option maxRecDepth 20000
namespace Go.Proofs.YtohcpifekcehjaaGreatDoor
open Go.RowKit Go.Lib
theorem JkT {ks : List ByteArray} {l : List TreeD} {key : ByteArray} (h : Jee ks key = false) : Jfh (QD ks l) key = -1 := by
 show (if (6 : Int) = 6 then JdO ks key else -1) = -1
 rw [if_pos rfl];exact Jfm ks key (by rw [List.take_of_length_le (Nat.le_refl _)]; exact h)
theorem JjQ {ks : List ByteArray} {l : List TreeD} {key : ByteArray} (h : Jee ks key = true) : ∃ k : Nat, Jfh (QD ks l) key = (k : Int) := by
 show ∃ k : Nat, (if (6 : Int) = 6 then JdO ks key else -1) = (k : Int)
 rw [if_pos rfl];unfold JdO;rcases hx : ks.findIdx? (isS key) with _ | k
 ·rw [List.findIdx?_eq_none_iff] at hx
  unfold Jee at h;rw [List.any_eq_true] at h;obtain ⟨x, h1, h2⟩ := h;rw [hx x h1] at h2;cases h2
 exact ⟨k, rfl⟩
theorem JgI {i d : Nat} {ks : List ByteArray} {acc : List TreeD} {L : List LineD} {m k : Nat} {r : ResI} (h1 : JG (.pairs i d ks acc) L <= k) (hr : r = Jn k (.pairs i d ks acc) L m) (hs : QU Jv L i = false ∨ (Qq (Xi Jv L)).isSome = false ∨ (Jy (Xi Jv L)).isSome = true) : r = .good (QD ks acc) L m := by
 obtain ⟨k1, rfl⟩ : ∃ k1, k = k1 + 1 := ⟨k - 1, by unfold JG at h1; simp only at h1; omega⟩
 rcases L with _ | ⟨x, t⟩
 ·rw [hr, Um]
 by_cases hxi : x.ind = i
 ·rw [hr, QR]
  rcases hs with h | h | h
  ·have : QU Jv (x :: t) i = true := by
    show (decide (Jv.code = 0) && decide (x.ind = i)) = true
    rw [JmG hxi]; rfl
   rw [this] at h;cases h
  ·by_cases c : (Jy x.text).isSome = true
   ·rw [if_pos (.inr c)]
   rw [if_neg (fun e => e.elim (fun e => e hxi) c)];have h2 : (Qq x.text).isSome = false := h;cases hk : Qq x.text with
   | none => rfl
   | some _ => rw [hk] at h2; cases h2
  have h2 : (Jy x.text).isSome = true := h;rw [if_pos (.inr h2)]
 rw [hr, QR, if_pos (.inl hxi)]
theorem JbK {ty : TypeId} {b g N cap nT : Nat} {w wx wF : World} {r : ResI} {L : List LineD} {m : Nat} {f : Flt} {vk vl : Value}
  (hb : b < w.heap.size) (hg : g < w.heap.size) (hL : LBoxI b g 6 w wx vk vl) (hR : InAt ty b g N cap L m f wx) (hok : InOk L) (h1 : f.code ≠ 0) (h2 : r = .bad f) (hF : Aside (fun q => q = w.heap.size) wx wF) :
  OutI ty b g N cap (nT + 1) r w (.returned (.agg #[.int .i64 0, .bool false, .int .i64 0, .string ⟨#[]⟩, .slice none 0 0, .slice none 0 0])) wF := by
 subst h2;exact ⟨_, L, m, f, rfl, ⟨_, _, _, _, _, _, _, _, _, _, rfl⟩, hR.past hF (fun q => by omega) (fun q => by omega), hok, Aside.low2 (hL.aside.join hF (fun q hq _ => .inr (.inr (by omega)))), rfl, h1⟩
theorem LBoxI.all {b g : Nat} {w wx : World} {vk vl u v v0 v1 v2 v3 : Value} (h : LBoxI b g 6 w wx vk vl) (e0 : v0 = .int .i64 6) (e1 : v1 = .bool false) (e2 : v2 = .int .i64 0) (e3 : v3 = .string ⟨#[]⟩) :
  LBoxI b g 6 w ((((((wx.setCell ⟨w.heap.size + 1, 0, none⟩ v0).setCell ⟨w.heap.size + 1, 1, none⟩ v1).setCell ⟨w.heap.size + 1, 2, none⟩ v2).setCell ⟨w.heap.size + 1, 3, none⟩ v3).setCell ⟨w.heap.size + 1, 4, none⟩ u).setCell ⟨w.heap.size + 1, 5, none⟩ v) u v := by
 subst e0 e1 e2 e3
 have hA : Aside (fun q => q = w.heap.size + 1) wx ((((((wx.setCell ⟨w.heap.size + 1, 0, none⟩ (.int .i64 6)).setCell ⟨w.heap.size + 1, 1, none⟩ (.bool false)).setCell ⟨w.heap.size + 1, 2, none⟩ (.int .i64 0)).setCell ⟨w.heap.size + 1, 3, none⟩ (.string ⟨#[]⟩)).setCell ⟨w.heap.size + 1, 4, none⟩ u).setCell ⟨w.heap.size + 1, 5, none⟩ v) :=
  Jk rfl (Jk rfl (Jk rfl (Jk rfl (Jk rfl (Jk rfl (Aside.refl _ _))))))
 exact ⟨(hA.block _ (Ja h.zero) (by omega)).trans h.zero, Xh h.list, h.aside.join hA (fun q hq _ => .inr (.inr (by omega)))⟩
def JlY (ty : TypeId) (b g N cap i n d nT : Nat) (r : ResI) (w wx : World) : Prop :=
 ∃ (KA : Option Addr) (kc : Nat) (VA : Option Addr) (vc : Nat) (ks : List ByteArray) (acc : List TreeD) (ess : List (List Value)) (F : Nat -> Nat -> Prop) (k : Nat) (L : List LineD) (m : Nat), LBoxI b g 6 w wx (.slice KA ks.length kc) (.slice VA acc.length vc) /\
  MapG nT (w.heap.size + 2) wx.heap.size wx ks acc (.slice KA ks.length kc) (.slice VA acc.length vc) ess F /\ InAt ty b g N cap L m Jv wx /\ InOk L /\ m <= 300 /\ ks.length <= m /\ acc.length = ks.length /\ Q4 ks /\ JG (.pairs i d ks acc) L <= k /\ k <= n /\ r = Jn k (.pairs i d ks acc) L m
theorem Jh1 (b g N cap n : Nat) (hbl : ∀ k, k < n -> Jjv b g N cap k) : Jl5 b g N cap n := by
 intro i d L0 m0 w hd1 hd8 hm0 hok0 hn h;have HRd := hid h;have Hbl := hid hbl;have hlb := h.lt.1;have hlg := h.lt.2;obtain ⟨nT, hnT⟩ : ∃ k, 10 - d = k + 1 := ⟨9 - d, by omega⟩
 have HNT := hid (show 10 - (d + 1) = nT by omega);have hnT1 : 0 < nT := by omega
 obtain ⟨r, hr⟩ : ∃ r, r = Jn n (.pairs i d [] []) L0 m0 := ⟨_, rfl⟩
 rw [<- hr, hnT];have HR := hid hr;have HOk0 := hid hok0;have HN := hid hn;clear hr h hbl hnT hok0 hn;go_enter Tryz.func113, Tryz.ntmps113
 go_wp2_with fail
 go_loopw [] (fun wr => JlY 67 b g N cap i n d nT r w wr) (fun wr => inM N b wr)
 case atStart =>
  refine ⟨none, 0, none, 0, [], [], [], _, n, L0, m0, ⟨?_, ?_, Aside.of_below Jj⟩, MapG.nil _ _ _ _, HRd.out.below Jj, HOk0.out, hm0, Nat.zero_le _, rfl, List.Pairwise.nil, HN.out, Nat.le_refl _, HR.out⟩
  ·exact (Below.heap_alloc _ _ _ (by simp)).trans (Je (by simp))
  exact Je (by simp)
 case round =>
  obtain ⟨KA, kc, VA, vc, ks, acc, ess, F, k, L, m, hLb, hM, hRr, hok, hm, hksm, hal, hso, hk1, hkn, hrr⟩ := hrel;have HLb := hid hLb;have HRr := hid hRr;have HOk := hid hok;have HM := hid hM;have HJ := hid hrr;have HNk := hid hk1;have HSo := hid hso;have HAL := hid hal;have htz := Jcd (f := Jv) hok;obtain ⟨tx, htx⟩ : ∃ tx, tx = Xi Jv L := ⟨_, rfl⟩
  obtain ⟨lk, la, hln⟩ := Jdh Jv L;rw [<- htx] at hln htz;have HLn := hid hln;have HTx := hid htx;clear hok hln htx hM hrr hk1 hso hal hLb hRr;go_wp2_with fail
  refine (Jbr b g N cap L m i Jv wr HRr.out).mono ?_;rintro e w1 ⟨rfl, hb1⟩;rw [HLn.out];have HLb1 := hid (HLb.out.same (Aside.of_below (S := fun q => q = b) hb1) (fun q hq => .inl hq) hlb hlg);have HM1 := hid (HM.out.carry hb1.size (fun q _ h2 => hb1.block q h2));have HR1 := hid (HRr.out.below hb1);have hl1 := Ja HLb1.out.list;clear hb1;go_wp2_with fail
  obtain ⟨w2, hw2⟩ : ∃ W, W = w1.alloc (.cells #[.int .i64 lk, .string tx, .int .i64 la] 59) := ⟨_, rfl⟩
  have hb2 : Below w1.heap.size w1 w2 := by rw [hw2]; exact Jj
  have hX2 : w2.heap[w1.heap.size]? = some (.cells #[.int .i64 lk, .string tx, .int .i64 la] 59 (0, 0)) := by rw [hw2]; exact Je rfl
  rw [<- hw2];have HX2 := hid hX2;have HLb2 := hid (HLb1.out.same (Aside.of_below (S := fun q => q = b) hb2) (fun q hq => .inl hq) hlb hlg);have HM2 := hid (HM1.out.carry hb2.size (fun q _ h2 => hb2.block q h2));have HR2 := hid (HR1.out.below hb2);have lx2 := Ja hX2;have hs12 := hb2.size;clear hw2 hb2 hX2;obtain ⟨ka, kb, kq, hkv, hkq, hks⟩ := JcK (Qq tx);obtain ⟨ia, ib, iq, hiv, hiq⟩ := Jbx (Jy tx)
  have HKy := hid (show Calls Tryz.prog 112 #[.string tx] w2 fun e w' => e = .returned (.tuple #[.string ka, .string kb, .bool kq]) /\ Below w2.heap.size w2 w' by
   have h := Xr tx w2 (by omega);rw [hkv] at h
   exact h)
  have HIt := hid (show ∀ W, Calls Tryz.prog 110 #[.string tx] W fun e w' => e = .returned (.tuple #[.string ia, .int .i64 ib, .bool iq]) /\ W = w' from fun W => by
   have h := Yc tx W (by omega);rw [hiv] at h
   exact h)
  have HKS := hid hks;have HKQ := hid hkq;have HIQ := hid hiq;clear hkv hkq hks hiv hiq;refine HKy.out.mono ?_;rintro e w3 ⟨rfl, hb3⟩;have HLb3 := hid (HLb2.out.same (Aside.of_below (S := fun q => q = b) hb3) (fun q hq => .inl hq) hlb hlg);have HM3 := hid (HM2.out.carry hb3.size (fun q _ h2 => hb3.block q h2));have HR3 := hid (HR2.out.below hb3);have HX3 := hid ((hb3.block _ lx2).trans HX2.out)
  have lx3 := Ja HX3.out;have hs23 := hb3.size;clear hb3;obtain ⟨v0, v1, v2, vf⟩ := Qi HX3.out;obtain ⟨x0, x1, x2, x3, x4, x5, xf⟩ := Jf HLb3.out.zero;obtain ⟨y0, y1, y2, y3, y4, y5, yf⟩ := Jf HLb3.out.list;have l0 := Ja HLb3.out.zero;have l1 := Ja HLb3.out.list;go_wp2_with fail
  refine (HIt.out w3).mono ?_;rintro e w4 ⟨rfl, rfl⟩;obtain ⟨qh, hqh⟩ : ∃ qh, qh = QU Jv L i := ⟨_, rfl⟩
  rw [<- hqh];have HQh := hid hqh;have hstop : (qh = false ∨ kq = false ∨ iq = true) -> r = .good (QD ks acc) L m := fun hh => JgI HNk.out HJ.out (by rw [<- HTx.out, <- HQh.out, <- HKQ.out, <- HIQ.out]; exact hh)
  have HStop := hid hstop;clear hqh hstop;by_cases hs : qh = true /\ kq = true /\ iq = false
  rotate_left
  ·have HF := hid (HStop.out (by rcases qh with _ | _ <;> rcases kq with _ | _ <;> rcases iq with _ | _ <;> simp_all))
   clear HStop HQh HKQ HIQ;rcases qh with _ | _ <;> rcases kq with _ | _ <;> rcases iq with _ | _
   all_goals first
    | (exfalso; exact hs ⟨rfl, rfl, rfl⟩)
    | (clear hs; (go_wp2_with fail); exact bodyPost_ret (v := .agg #[.int .i64 6, .bool false, .int .i64 0, .string ⟨#[]⟩, .slice KA ks.length kc, .slice VA acc.length vc]) (by simp only [results, Tryz.results113]; go_simp) rfl (UP hlb hlg HLb3.out HM3.out HR3.out HOk.out HF.out QC))
  obtain ⟨rfl, rfl, rfl⟩ := hs;rcases L with _ | ⟨⟨xi, xt, xa⟩, t⟩
  ·exfalso
   have h2 : true = (decide (Jv.code = 0) && false) := HQh.out;rw [Bool.and_false] at h2;cases h2
  have hxi : xi = i := by
   have h2 : true = (decide (Jv.code = 0) && decide (xi = i)) := HQh.out;have h3 := h2.symm;rw [Bool.and_eq_true] at h3;exact of_decide_eq_true h3.2
  have e := HLn.out.symm.trans (Jab (f := Jv) (x := ⟨xi, xt, xa⟩) (L := t) rfl);simp only [Array.mk.injEq, List.cons.injEq, Value.int.injEq, Value.string.injEq, true_and, and_true] at e;obtain ⟨e1, e2, e3⟩ := e;subst e1;subst e3;subst e2
  have hkr : Qq tx = some (ka, kb) := by
   have h := HKQ.out;cases hk : Qq tx with
   | none => rw [hk] at h; cases h
   | some kr =>
    obtain ⟨k', r'⟩ := kr;obtain ⟨e1, e2⟩ := HKS.out k' r' hk;rw [e1, e2]
  have hit : Jy tx = none := by
   have h := HIQ.out;cases hi : Jy tx with
   | none => rfl
   | some _ => rw [hi] at h; cases h
  obtain ⟨k1, hk1⟩ : ∃ k1, k = k1 + 1 := ⟨k - 1, by have h1 := HNk.out; unfold JG at h1; simp only at h1; omega⟩
  have hj2 : r = (if 400 < ka.size then .bad (Qd 8 xa)
    else if ks.contains ka then .bad (Qd 5 xa)
    else match Vk k1 i d ⟨xi, tx, xa⟩ t kb m with
     | .bad f => .bad f
     | .good u L' m' => Jn k1 (.pairs i d (J3 ks (Qy ks ka) ka) (J3 acc (Qy ks ka) u)) L' m') := by
   rw [HJ.out, hk1, QR, if_neg (fun e => e.elim (fun e => e hxi) (fun c => by rw [show Jy (LineD.mk xi tx xa).text = none from hit] at c; cases c)), show Qq (LineD.mk xi tx xa).text = _ from hkr];rfl
  have hxo := HOk.out.head;have hxz : tx.size <= 20000 := htz;have hkk1 : k1 < n := by omega
  have hne := HNk.out;rw [hk1] at hne;have HNe := hid hne;have HX4 := hid hj2;obtain ⟨hkz1, hkz2⟩ := JjK hkr hxz;clear hj2 hk1 hxi hxo HJ HNk hne HStop HKS HKQ HIQ HKy HIt HQh HLn HTx hkr hit;by_cases hwide : (400 : Int) < ka.size
  ·have d4 : decide ((400 : Int) < ka.size) = true := JmG hwide
   have HF := hid (show r = .bad (Qd 8 xa) by rw [HX4.out, if_pos (by omega)]);go_wp2_with fail
   refine (VW b g N cap _ m Jv 8 xa w3 HR3.out).mono ?_;rintro e w4 ⟨rfl, hR4, hA4⟩;have HR4 := hid (show InAt 67 b g N cap (⟨xi, tx, xa⟩ :: t) m (Qd 8 xa) w4 from hR4);have HLb4 := hid (HLb3.out.same hA4 (fun q hq => .inl hq) hlb hlg);clear hR4 hA4 v0 v1 v2 vf x0 x1 x2 x3 x4 x5 xf y0 y1 y2 y3 y4 y5 yf;obtain ⟨x0, x1, x2, x3, x4, x5, xf⟩ := Jf HLb4.out.zero;have l04 := Ja HLb4.out.zero
   go_wp2_with fail
   exact bodyPost_ret (v := .agg #[.int .i64 0, .bool false, .int .i64 0, .string ⟨#[]⟩, .slice none 0 0, .slice none 0 0]) (by simp only [results, Tryz.results113]; go_simp) rfl (JbK hlb hlg HLb4.out HR4.out HOk.out (by show (8 : Int) ≠ 0; decide) HF.out QC)
  have d4 : decide ((400 : Int) < ka.size) = false := JmF hwide;have HC := hid ((HM3.out.tree (wF := w3) (S := fun q => w.heap.size + 2 <= q /\ q < w3.heap.size) (fun _ _ _ => rfl) (fun b h1 h2 => ⟨h1, h2⟩)).toC (fun _ h => h));obtain ⟨kz, hkz⟩ : ∃ z, z = Jfh (QD ks acc) ka := ⟨_, rfl⟩
  have HKz := hid hkz;clear hkz;go_wp2_with fail
  refine (Jeh _ (QD ks acc) _ ka _ _ HC.out).mono ?_;rintro e w5 ⟨rfl, hb5⟩;rw [<- HKz.out];have HLb5 := hid (HLb3.out.same (Aside.of_below (S := fun q => q = b) hb5) (fun q hq => .inl hq) hlb hlg);have HM5 := hid (HM3.out.carry hb5.size (fun q _ h2 => hb5.block q h2));have HR5 := hid (HR3.out.below hb5);have HX5 := hid ((hb5.block _ lx3).trans HX3.out);have lx5 := Ja HX5.out
  have hs35 := hb5.size;clear hb5 v0 v1 v2 vf x0 x1 x2 x3 x4 x5 xf y0 y1 y2 y3 y4 y5 yf;obtain ⟨v0, v1, v2, vf⟩ := Qi HX5.out;rcases hhas : Jee ks ka with _ | _
  rotate_left
  ·obtain ⟨kq, hkq⟩ := JjQ (l := acc) hhas
   obtain rfl : kz = (kq : Int) := HKz.out.trans hkq;have dk : decide ((0 : Int) <= (kq : Int)) = true := JmG (by omega);have HF := hid (show r = .bad (Qd 5 xa) by rw [HX4.out, if_neg (by omega), if_pos (by rw [QV]; exact hhas)]);clear hhas hkq;go_wp2_with fail
   refine (VW b g N cap _ m Jv 5 xa w5 HR5.out).mono ?_;rintro e w6 ⟨rfl, hR6, hA6⟩;have HR6 := hid (show InAt 67 b g N cap (⟨xi, tx, xa⟩ :: t) m (Qd 5 xa) w6 from hR6);have HLb6 := hid (HLb5.out.same hA6 (fun q hq => .inl hq) hlb hlg);clear hR6 hA6 v0 v1 v2 vf;obtain ⟨x0, x1, x2, x3, x4, x5, xf⟩ := Jf HLb6.out.zero;have l06 := Ja HLb6.out.zero;go_wp2_with fail
   exact bodyPost_ret (v := .agg #[.int .i64 0, .bool false, .int .i64 0, .string ⟨#[]⟩, .slice none 0 0, .slice none 0 0]) (by simp only [results, Tryz.results113]; go_simp) rfl (JbK hlb hlg HLb6.out HR6.out HOk.out (by show (5 : Int) ≠ 0; decide) HF.out QC)
  obtain rfl : kz = -1 := HKz.out.trans (JkT hhas)
  have hx5 : r = (match Vk k1 i d ⟨xi, tx, xa⟩ t kb m with
    | .bad f => .bad f
    | .good u L' m' => Jn k1 (.pairs i d (J3 ks (Qy ks ka) ka) (J3 acc (Qy ks ka) u)) L' m') := by
   rw [HX4.out, if_neg (by omega), if_neg (by rw [QV, hhas]; decide)]
  have HX6 := hid hx5;have HNo := hid hhas;clear hx5 hhas HX4;obtain ⟨p, hbx⟩ := HR5.out.open;obtain ⟨a0, a1, a2, a3, a4, a5, af⟩ := Jf hbx.row;have lb := Ja hbx.row;have hpN : (p : Int) < N := by have := hbx.pos; rw [List.length_cons] at this; omega
  have hp0 : (0 : Int) <= p := by omega
  have hN2 := hbx.small;have HPos := hid hbx.pos;clear hbx;obtain ⟨q, hqd⟩ : ∃ q, q = decide (kb.size = 0) := ⟨_, rfl⟩
  have q1 : kb.toList.isEmpty = q := by rw [hqd]; exact Z1 kb
  have q2 : (kb.toList == []) = q := by rw [hqd, <- Z1 kb]; cases kb.toList <;> rfl
  have HQd := hid hqd;clear hqd;go_upto_if 74 with (fail)
  obtain ⟨w6, hw6⟩ : ∃ W, W = w5.setCell ⟨b, 1, none⟩ (.int .i64 ((p : Int) + 1)) := ⟨_, rfl⟩
  rw [<- hw6];have hA6 : Aside (fun q => q = b) w5 w6 := by rw [hw6]; exact Jk rfl (Aside.refl _ _)
  have hz6a : w6.heap.size <= w5.heap.size := by rw [hw6]; simp
  have hz6b : w5.heap.size <= w6.heap.size := by rw [hw6]; simp
  have hz6 : w6.heap.size = w5.heap.size := by omega
  have hR6 : InAt 67 b g N cap t m Jv w6 := by rw [hw6]; exact HR5.out.next HPos.out
  obtain ⟨w7, hw7⟩ : ∃ W, W = w6.alloc (.cells #[.int .i64 0, .bool false, .int .i64 0, .string ⟨#[]⟩, .slice none 0 0, .slice none 0 0] 34) := ⟨_, rfl⟩
  rw [<- hw7];have hb7 : Below w6.heap.size w6 w7 := by rw [hw7]; exact Jj
  have hK7 : w7.heap[w5.heap.size]? = some (.cells #[.int .i64 0, .bool false, .int .i64 0, .string ⟨#[]⟩, .slice none 0 0, .slice none 0 0] 34 (0, 0)) := by rw [hw7, <- hz6]; exact Je rfl
  have HK7 := hid hK7;have HLb7 := hid ((HLb5.out.same hA6 (fun q hq => .inl hq) hlb hlg).same (Aside.of_below (S := fun q => q = b) hb7) (fun q hq => .inl hq) hlb hlg);have HR7 := hid (hR6.below hb7);have HX7 := hid ((hb7.block _ (by omega)).trans ((hA6.block _ lx5 (by omega)).trans HX5.out));have hs57 := hb7.size;have lk7 := Ja hK7;have lx7 := Ja HX7.out;obtain ⟨kidR, hkid⟩ : ∃ q, q = Vk k1 i d ⟨xi, tx, xa⟩ t kb m := ⟨_, rfl⟩
  have HKid := hid hkid;rw [<- hkid] at HX6;have hMk : MapG nT (w.heap.size + 2) w5.heap.size w7 ks acc (.slice KA ks.length kc) (.slice VA acc.length vc) ess F := HM5.out.carry (Nat.le_refl _) (fun q h1 h2 => (hb7.block q (by omega)).trans (hA6.block q h2 (by omega)));obtain ⟨kb0, hkb0⟩ : ∃ q, q = w5.heap.size := ⟨_, rfl⟩
  rw [<- hkb0] at lk7 HK7 hMk ⊢;have HMk := hid hMk;have hok2 := HOk.out.tail;have HOk2 := hid hok2;have hmm : m <= 1000 := by omega
  have hk5 : w.heap.size + 2 <= kb0 := by rw [hkb0]; have := Ja HLb5.out.list; omega
  have hk5' : w1.heap.size < kb0 := by rw [hkb0]; omega
  have hbk : b < kb0 := by omega
  have hgk : g < kb0 := by omega
  clear hw6 hw7 hA6 hb7 hK7 hR6 hMk hkid hkb0 hok2 v0 v1 v2 vf a0 a1 a2 a3 a4 a5 af lb hz6 hz6a hz6b;obtain ⟨v0, v1, v2, vf⟩ := Qi HX7.out;go_cut [] from 75 to 99 (fun wx => JlF 67 b g N cap nT kb0 w7 kidR wx)
  case first =>
   rcases q with _ | _
   rotate_left
   ·have hrz : kb.size = 0 := of_decide_eq_true HQd.out.symm
    have hdd : IntKind.i64.wrap ((d : Int) + 1) = ((d + 1 : Nat) : Int) := by rw [IntKind.wrap_i64] <;> omega
    obtain ⟨dz, hdz⟩ : ∃ dz : Int, dz = ((d + 1 : Nat) : Int) := ⟨_, rfl⟩
    have HC := hid (Hbl.out k1 hkk1 i (d + 1) xa t m w7 (by omega) (by omega) hm HOk2.out (by have := HNe.out; unfold JG at this ⊢; simp only [J0] at this ⊢; omega) HR7.out);have HKR := hid (HKid.out.trans (if_pos hrz));rw [<- hdz] at hdd HC;clear hdz hrz;go_wp2_with fail
    refine HC.out.mono ?_;intro e w9 hv9;obtain ⟨cs, L', m', f', rfl, ht9, hR9, hok9, hA9, hm9⟩ := hv9;obtain ⟨u0, u1, u2, u3, U4, u4, u44, U5, u5, u55, rfl⟩ := ht9;have HK9 := hid ((hA9.block kb0 lk7 (by omega)).trans HK7.out);have HR9 := hid hR9;have HOk9 := hid hok9;have HA9 := hid hA9;have HM9 := hid hm9;have hs79 := hA9.size;clear hR9 hok9 hA9 hm9 v0 v1 v2 vf;obtain ⟨z0, z1, z2, z3, z4, z5, zf⟩ := Jf HK9.out
    have lk9 := Ja HK9.out;go_wp2_with fail
    go_meet
    exact ⟨u0, u1, u2, u3, U4, u4, u44, U5, u5, u55, L', m', f', Xh HK9.out, (HA9.out.mono (fun q hq => hq.elim .inl (fun h => .inr (.inl h)))).trans ((QC : Aside (fun q => q = kb0) w9 _).mono (fun q hq => .inr (.inr hq))), HR9.out.past (S := fun q => q = kb0) QC (by omega) (by omega), HOk9.out, InAt.len HR9.out, JeS (kb := kb0) HKR.out HM9.out (by rw [HNT.out]; exact Nat.le_refl _) QC (fun x h1 h2 => by omega)⟩
   have hrz : ¬ kb.size = 0 := of_decide_eq_false HQd.out.symm;have hdd : IntKind.i64.wrap ((d : Int) + 1) = ((d + 1 : Nat) : Int) := by rw [IntKind.wrap_i64] <;> omega
   obtain ⟨dz, hdz⟩ : ∃ dz : Int, dz = ((d + 1 : Nat) : Int) := ⟨_, rfl⟩
   have HC := hid (ZY b g N cap t m (d + 1) xa w7 HR7.out hmm (by omega));have HKR := hid (HKid.out.trans (if_neg hrz));rw [<- hdz] at hdd HC;clear hdz hrz;go_wp2_with fail
   refine HC.out.mono ?_;rintro e w8 ⟨rfl, ⟨m8, hR8, hm8⟩, hA8⟩;have HA8 := hid (hA8.mono (fun q hq => (.inl hq : q = b ∨ q = g ∨ q = kb0)));have HX8 := hid ((hA8.block _ lx7 (by omega)).trans HX7.out);have HK8 := hid ((hA8.block _ lk7 (by omega)).trans HK7.out);have hs78 := hA8.size;have HLb8 := hid (HLb7.out.same hA8 (fun q hq => .inl hq) hlb hlg);clear hA8 v0 v1 v2 vf;obtain ⟨v0, v1, v2, vf⟩ := Qi HX8.out
   have lx8 := Ja HX8.out;have lk8 := Ja HK8.out;rcases ZP (d + 1) m xa with ⟨e1, e2⟩ | ⟨f, e1, e2, e3⟩
   rotate_left
   ·have HF := hid (show kidR = .bad f by rw [HKR.out, e1])
    have dt : decide ((Qo (d + 1) m xa).code = 0) = false := JmF (by rw [e2]; exact e3);rw [dt];rw [e2] at hR8;have HE := hid e3;have HR8 := hid hR8;clear dt e1 e2 e3 hR8 hm8;go_wp2_with fail
    go_meet
    exact ⟨0, false, 0, ⟨#[]⟩, none, 0, 0, none, 0, 0, t, m8, f, HK8.out, HA8.out, HR8.out, HOk2.out, InAt.len HR8.out, by rw [HF.out]; exact ⟨rfl, HE.out⟩⟩
   have dt : decide ((Qo (d + 1) m xa).code = 0) = true := JmG (by rw [e2]; rfl);obtain rfl := hm8 (by rw [e2]; rfl);rw [dt];rw [e2] at hR8;have HR8 := hid hR8
   have HKS := hid (show kidR = (match JL kb with
    | none => .bad (Qd 4 xa)
    | some u => .good u t (m + 1)) by rw [HKR.out, e1]; rfl)
   clear dt e1 e2 hR8 hm8;go_wp2_with fail
   refine (Zh kb w8 (by omega)).mono ?_;rintro e w9 ⟨rfl, hb9⟩;have HX9 := hid ((hb9.block _ lx8).trans HX8.out);have HK9 := hid ((hb9.block _ lk8).trans HK8.out);have HR9 := hid (HR8.out.below hb9);have HA9 := hid (HA8.out.trans (Aside.of_below hb9));have HLb9 := hid (HLb8.out.same (Aside.of_below (S := fun q => q = b) hb9) (fun q hq => .inl hq) hlb hlg);have hs89 := hb9.size
   clear hb9 v0 v1 v2 vf;obtain ⟨v0, v1, v2, vf⟩ := Qi HX9.out;have lx9 := Ja HX9.out;have lk9 := Ja HK9.out;rcases hsc : JL kb with _ | u
   ·have HF := hid (show r = .bad (Qd 4 xa) by rw [HX6.out, HKS.out, hsc])
    simp only [JcL];clear hsc;go_wp2_with fail
    have HR9a := hid (HR9.out.below (w' := w9.alloc (.cells #[.int .i64 0, .bool false, .int .i64 0, .string ⟨#[]⟩, .slice none 0 0, .slice none 0 0] 34)) Jj);have HLb9a := hid (HLb9.out.same (Aside.of_below (S := fun q => q = b) (show Below w9.heap.size w9 (w9.alloc (.cells #[.int .i64 0, .bool false, .int .i64 0, .string ⟨#[]⟩, .slice none 0 0, .slice none 0 0] 34)) from Jj)) (fun q hq => .inl hq) hlb hlg)
    refine (VW b g N cap _ (m + 1) Jv 4 xa _ HR9a.out).mono ?_;rintro e w10 ⟨rfl, hR10, hA10⟩;have HR10 := hid (show InAt 67 b g N cap t (m + 1) (Qd 4 xa) w10 from hR10);have HLb10 := hid (HLb9a.out.same hA10 (fun q hq => .inl hq) hlb hlg);clear hR10 hA10 v0 v1 v2 vf;obtain ⟨x0, x1, x2, x3, x4, x5, xf⟩ := Jf HLb10.out.zero;have l010 := Ja HLb10.out.zero;go_wp2_with fail
    exact bodyPost_ret (v := .agg #[.int .i64 0, .bool false, .int .i64 0, .string ⟨#[]⟩, .slice none 0 0, .slice none 0 0]) (by simp only [results, Tryz.results113]; go_simp) rfl (JbK hlb hlg HLb10.out HR10.out HOk2.out (by show (4 : Int) ≠ 0; decide) HF.out QC)
   have HF := hid (show kidR = .good u t (m + 1) by rw [HKS.out, hsc]);obtain ⟨nU, hnU⟩ : ∃ nU, nT = nU + 1 := ⟨nT - 1, by omega⟩
   have HSo2 := hid (fun (S : Nat -> Prop) (W : World) => (XM hsc (n := nU) (S := S) (w := W)).2);rw [<- hnU] at HSo2;simp only [JcL];clear hsc hnU;obtain ⟨z0, z1, z2, z3, z4, z5, zf⟩ := Jf HK9.out;go_wp2_with fail
   go_meet
   obtain ⟨ws, hws⟩ : ∃ W, W = (((((w9.setCell ⟨kb0, 0, none⟩ (.int .i64 u.kind)).setCell ⟨kb0, 1, none⟩ (.bool u.flag)).setCell ⟨kb0, 2, none⟩ (.int .i64 u.num)).setCell ⟨kb0, 3, none⟩ (.string u.text)).setCell ⟨kb0, 4, none⟩ (.slice none 0 0)).setCell ⟨kb0, 5, none⟩ (.slice none 0 0) := ⟨_, rfl⟩
   have hks : ws.heap[kb0]? = some (.cells #[.int .i64 u.kind, .bool u.flag, .int .i64 u.num, .string u.text, .slice none 0 0, .slice none 0 0] 34 (0, 0)) := by rw [hws]; exact Xh HK9.out
   have hAs : Aside (fun q => q = kb0) w9 ws := by rw [hws]; exact Jk rfl (Jk rfl (Jk rfl (Jk rfl (Jk rfl (Jk rfl (Aside.refl _ _))))))
   rw [<- hws];have hbs : Below ws.heap.size ws (ws.alloc (.cells #[.int .i64 u.kind, .bool u.flag, .int .i64 u.num, .string u.text, .slice none 0 0, .slice none 0 0] 34)) := Jj;clear hws;exact ⟨u.kind, u.flag, u.num, u.text, none, 0, 0, none, 0, 0, t, m + 1, Jv, (hbs.block _ (Ja hks)).trans hks, (HA9.out.trans (hAs.mono (fun q hq => .inr (.inr hq)))).trans (Aside.of_below hbs), (HR9.out.past hAs (by omega) (by omega)).below hbs, HOk2.out, InAt.len HR9.out, by rw [HF.out]; exact ⟨rfl, rfl, rfl, HSo2.out _ _⟩⟩
  case rest =>
   obtain ⟨u0, u1, u2, u3, U4, u4, u44, U5, u5, u55, L', m', f', hK, hA, hR, hok', hlen', hKm⟩ := hcut;have HKc := hid hK;have HRc := hid hR;have HOkc := hid hok';have HLc := hid (HLb7.out.same hA (fun q hq => by omega) hlb hlg);have HMc := hid (HMk.out.carry (Nat.le_refl _) (fun q h1 h2 => hA.block q (by omega) (by omega)));have hs7c := hA.size;have hkc := Ja hK;clear hK hA hR hok' v0 v1 v2 vf q1 q2 HQd
   obtain ⟨p9, hbx⟩ := HRc.out.open;obtain ⟨a0, a1, a2, a3, a4, a5, af⟩ := Jf hbx.row;have lb := Ja hbx.row;clear hbx;obtain ⟨y0, y1, y2, y3, y4, y5, yf⟩ := Jf HLc.out.list;have lyc := Ja HLc.out.list;have lzc := Ja HLc.out.zero;rcases hkR : kidR with f1 | ⟨u, L1, m1⟩
   ·rw [hkR] at hKm
    obtain ⟨rfl, hf1⟩ := hKm;have HF := hid (show r = .bad f' by rw [HX6.out, hkR]);have HF1 := hid hf1;obtain ⟨z, hz⟩ : ∃ z, z = f'.code := ⟨_, rfl⟩
    rw [<- hz] at a3 hf1;have dz : (z != 0) = true := bne_iff_ne.2 hf1;clear hkR hz hf1;obtain ⟨x0, x1, x2, x3, x4, x5, xf⟩ := Jf HLc.out.zero;go_wp2_with fail
    exact bodyPost_ret (v := .agg #[.int .i64 6, .bool false, .int .i64 0, .string ⟨#[]⟩, .slice KA ks.length kc, .slice VA acc.length vc]) (by simp only [results, Tryz.results113]; go_simp) rfl (XF hlb hlg HLc.out HRc.out HOkc.out HF1.out HF.out QC)
   rw [hkR] at hKm;obtain ⟨rfl, rfl, rfl, hown⟩ := hKm;have HX7 := hid (show r = Jn k1 (.pairs i d (J3 ks (Qy ks ka) ka) (J3 acc (Qy ks ka) u)) L' m' by rw [HX6.out, hkR]);have hpj := HKid.out.symm.trans hkR;obtain ⟨hgw1, hgw2⟩ := JcR hpj hm (by omega);have HPl := hid (And.intro (JcQ hpj) (JfB hpj));have HOwn := hid hown;have a3' : wc.cell? ⟨b, 3, none⟩ = some (.int .i64 0) := a3
   obtain ⟨pi, hpi⟩ : ∃ q, q = Qy ks ka := ⟨_, rfl⟩
   rw [<- hpi] at HX7;have HPi := hid hpi;have hiks : pi <= ks.length := by rw [hpi]; exact Ua ks ka
   have hial : pi <= acc.length := by have := HAL.out; omega
   have hlac : ks.length <= 1048576 := by omega
   obtain ⟨z0, z1, z2, z3, z4, z5, zf⟩ := Jf HKc.out;clear hpi hpj hkR hown a3 HX6;go_upto_region 22 with fail
   go_wp2_with fail
   refine (Jl4 (i := pi) HMc.out.rows (HMc.out.len.trans HAL.out) HMc.out.size hlac HPi.out HSo.out).mono ?_;rintro e w9 ⟨vk', vl', rfl, hM9, hb9⟩;have HMG := hid (MapG.fresh (i := pi) HMc.out hk5 (by omega) hial HOwn.out (fun x hx => ⟨by have := hx.1; omega, hx.2⟩) (by omega) hb9 hM9);have HL9 := hid (HLc.out.same (Aside.of_below (S := fun q => q = b) hb9) (fun q hq => .inl hq) hlb hlg)
   have HR9 := hid (HRc.out.below hb9);obtain ⟨K9, k9, rfl⟩ := JP hM9.keys;obtain ⟨V9, v9, rfl⟩ := JP hM9.kids;have hlk9 : (J3 ks pi ka).length = ks.length + 1 := QY hiks;have hlv9 : (J3 ess pi [Value.int .i64 u0, .bool u1, .int .i64 u2, .string u3, .slice U4 u4 u44, .slice U5 u5 u55]).length = acc.length + 1 := by rw [QY (by rw [HMc.out.len]; exact hial), HMc.out.len]
   have hla9 : (J3 acc pi u).length = acc.length + 1 := QY hial;rw [hlk9, hlv9];rw [hlk9, hlv9] at HMG;have HSN := hid (show Q4 (J3 ks pi ka) by rw [HPi.out]; exact WL HSo.out HNo.out);have HKN := hid (And.intro hlk9 hla9);have hs9 := hb9.size;clear z0 z1 z2 z3 z4 z5 zf y0 y1 y2 y3 y4 y5 yf hlk9 hlv9 hla9 hM9 hb9 a0 a1 a2 a3' a4 a5 af;obtain ⟨y0, y1, y2, y3, y4, y5, yf⟩ := Jf HL9.out.list
   have ly9 := Ja HL9.out.list;go_wp2_with fail
   obtain ⟨w10, hw10⟩ : ∃ W, W = (((((w9.setCell ⟨w.heap.size + 1, 0, none⟩ (.int .i64 6)).setCell ⟨w.heap.size + 1, 1, none⟩ (.bool false)).setCell ⟨w.heap.size + 1, 2, none⟩ (.int .i64 0)).setCell ⟨w.heap.size + 1, 3, none⟩ (.string ⟨#[]⟩)).setCell ⟨w.heap.size + 1, 4, none⟩ (.slice K9 (ks.length + 1) k9)).setCell ⟨w.heap.size + 1, 5, none⟩ (.slice V9 (acc.length + 1) v9) := ⟨_, rfl⟩
   rw [<- hw10];have hA10 : Aside (fun q => q = w.heap.size + 1) w9 w10 := by rw [hw10]; exact Jk rfl (Jk rfl (Jk rfl (Jk rfl (Jk rfl (Jk rfl (Aside.refl _ _))))))
   have HL10 := hid (show LBoxI b g 6 w w10 (.slice K9 (ks.length + 1) k9) (.slice V9 (acc.length + 1) v9) by rw [hw10]; exact HL9.out.all rfl rfl rfl rfl);have HR10 := hid (HR9.out.past hA10 (fun q => by omega) (fun q => by omega));have HM10 := hid (HMG.out.carry hA10.size (fun x h1 h2 => hA10.block x h2 (by omega)));clear y0 y1 y2 y3 y4 y5 yf hw10 hA10;go_roundw
   case rel =>
    obtain ⟨E2, F2, hM2⟩ : ∃ (E : List (List Value)) (G : Nat -> Nat -> Prop), MapG nT (w.heap.size + 2) w10.heap.size w10 (J3 ks pi ka) (J3 acc pi u) (.slice K9 (ks.length + 1) k9) (.slice V9 (acc.length + 1) v9) E G := ⟨_, _, HM10.out⟩
    refine ⟨K9, k9, V9, v9, J3 ks pi ka, J3 acc pi u, E2, F2, k1, L', m', ?_⟩;rw [HKN.out.1, HKN.out.2];refine ⟨HL10.out, hM2, HR10.out, HOkc.out, hgw2, by omega, by have := HAL.out; omega, HSN.out, ?_, by omega, HX7.out⟩;have h1 := HPl.out.1;have h2 := HNe.out;unfold JG at h2 ⊢;simp only [J0] at h1 h2 ⊢;omega
   case measure =>
    rw [HR10.out.meas, HRr.out.meas, if_pos (show Jv.code = 0 from rfl), if_pos (show Jv.code = 0 from rfl)];have := HPl.out.2;simp only [List.length_cons];omega
theorem Jfd (b g N cap n : Nat) (hl : JlO b g N cap n) (hp : Jl5 b g N cap n) : JjX b g N cap (n + 1) := by
 intro d x r m w hd1 hd9 hm hok hn h;have hlb := h.lt.1;have hlg := h.lt.2;obtain ⟨p, hbx⟩ := h.open;obtain ⟨a0, a1, a2, a3, a4, a5, af⟩ := Jf hbx.row;have lb := Ja hbx.row;obtain ⟨c0, c1, c2, cf⟩ := hbx.line x r rfl;have lg := hbx.lines;have hpN : (p : Int) < N := by have := hbx.pos; rw [List.length_cons] at this; omega
 have hp0 : (0 : Int) <= p := by omega
 have hcap := hbx.cap';have hgb := hbx.ne;have hN2 := hbx.small;have hxo := hok.head;have hxz : x.text.size <= 20000 := by have := hxo.1; omega
 have H := hid h;have Hl := hid hl;have Hp := hid hp;have HOk := hid hok;have HN := hid hn;obtain ⟨res, hres⟩ : ∃ q, q = Jn (n + 1) (.value d) (x :: r) m := ⟨_, rfl⟩
 rw [<- hres];rw [VH] at hres;have HRes := hid hres;obtain ⟨nT, hnT⟩ : ∃ k, 10 - d = k + 1 := ⟨9 - d, by omega⟩
 rw [hnT];have HNT := hid hnT;obtain ⟨xi, xt, xa⟩ := x;simp only at c0 c1 c2 hxz;clear hbx h hl hp hok hn hres hnT hxo;go_enter Tryz.func55, Tryz.ntmps55
 go_upto_region 1 with fail
 go_cut [5] from 14 to 23 (fun s5 wx => s5 = .pointer (some ⟨w.heap.size + 1, 0, none⟩) /\ wx.heap[w.heap.size + 1]? = some (.cells #[.int .i64 (xi : Nat), .string xt, .int .i64 (xa : Nat)] 59 (0, 0)) /\ wx.heap[w.heap.size]? = some (.cells #[.int .i64 0, .bool false, .int .i64 0, .string ⟨#[]⟩, .slice none 0 0, .slice none 0 0] 34 (0, 0)) /\ Below w.heap.size w wx)
 case first =>
  go_region_law (fail)
  all_goals
   (try go_wp2_with fail)
   go_meet
   exact ⟨rfl, by rw [ZD]; exact Je (by simp), by rw [ZD]; exact (Below.heap_alloc _ _ _ (by simp)).trans (Je rfl), Jj⟩
 case rest =>
  obtain ⟨rfl, hx1, ht1, hb1⟩ := hcut;have HX1 := hid hx1;have HT1 := hid ht1;have HB1 := hid hb1;have HR1 := hid (H.out.below hb1);obtain ⟨y0, y1, y2, yf⟩ := Qi hx1;have ly := Ja hx1;have lz := Ja ht1;clear hx1 ht1 hb1 a0 a1 a2 a3 a4 a5 af c0 c1 c2 cf lb lg;go_wp2_with fail
  refine (ZY b g N cap _ m d xa wc HR1.out (by omega) (by omega)).mono ?_;rintro e w2 ⟨rfl, ⟨m2, hR2, hm2⟩, hA2⟩;have hX2 := (hA2.block _ ly (by omega)).trans HX1.out;have hT2 := (hA2.block _ lz (by omega)).trans HT1.out;have HR2 := hid hR2;have HX2 := hid hX2;have HT2 := hid hT2;have HA2 := hid (show Aside (fun q => q = b ∨ w.heap.size <= q) w w2 from (Aside.of_below HB1.out).trans (hA2.mono (fun q hq => .inl hq)))
  clear hR2 hA2 hX2 hT2 y0 y1 y2 yf ly lz;obtain ⟨y0, y1, y2, yf⟩ := Qi HX2.out;obtain ⟨z0, z1, z2, z3, z4, z5, zf⟩ := Jf HT2.out;have ly := Ja HX2.out;have lz := Ja HT2.out;obtain ⟨p2, hbx⟩ := HR2.out.open;obtain ⟨a0, a1, a2, a3, a4, a5, af⟩ := Jf hbx.row;have lb := Ja hbx.row;clear hbx;rcases ZP d m xa with ⟨e1, e2⟩ | ⟨f, e1, e2, e3⟩
  rotate_left
  ·have HF : Hid (res = .bad f) := hid (by rw [HRes.out, e1])
   have HE := hid (And.intro e2 e3);rw [e2] at a3 a4 a5;have dt : decide ((Qo d m xa).code = 0) = false := JmF (by rw [e2]; exact e3);rw [dt];clear e1 e2 e3 dt hm2;go_wp2_with fail
   exact bodyPost_ret (v := .agg #[.int .i64 0, .bool false, .int .i64 0, .string ⟨#[]⟩, .slice none 0 0, .slice none 0 0]) (by simp only [results, Tryz.results55]; go_simp) rfl ⟨_, _, _, _, rfl, ⟨_, _, _, _, _, _, _, _, _, _, rfl⟩, HR2.out.past (S := fun q => q = w.heap.size) QC (by omega) (by omega), HOk.out, Aside.low2 ((HA2.out.mono (fun q hq => hq.elim .inl (fun hq => .inr (.inr hq)))).join (S' := fun q => q = w.heap.size) QC (fun q hq _ => .inr (.inr (by omega)))), by rw [HF.out]; exact HE.out⟩
  have hd8 := (Vp e1).1;have hm3 := (Vp e1).2
  have HRs := hid (show res = (if (Jy xt).isSome then Jn n (.list xi d []) (⟨xi, xt, xa⟩ :: r) (m + 1)
    else if (Qq xt).isSome then Jn n (.pairs xi d [] []) (⟨xi, xt, xa⟩ :: r) (m + 1)
    else match JL xt with
     | some t => .good t r (m + 1)
     | none => .bad (Qd 4 xa)) by rw [HRes.out, e1]; rfl)
  have hR2' := HR2.out;have dt : decide ((Qo d m xa).code = 0) = true := JmG (by rw [e2]; rfl);rw [dt];obtain rfl := hm2 (by rw [e2]; rfl);rw [e2] at a3 a4 a5 hR2';have HR2 := hid hR2';have a3' : w2.cell? ⟨b, 3, none⟩ = some (.int .i64 0) := a3;clear e1 e2 hR2' a3 HRes dt hm2;rcases hit : Jy xt with _ | ⟨rest, kk⟩
  rotate_left
  ·have HF : Hid (res = Jn n (.list xi d []) (⟨xi, xt, xa⟩ :: r) (m + 1)) := hid (by rw [HRs.out, hit]; rfl)
   have hi1 : Calls Tryz.prog 110 #[.string xt] w2 fun e w' => e = .returned (.tuple #[.string rest, .int .i64 kk, .bool true]) /\ w2 = w' := by
    have h := Yc xt w2 (by omega);rw [hit] at h;exact h
   have HI1 := hid hi1;have HL1 := hid (Hl.out xi d _ (m + 1) w2 hd1 hd8 (by omega) HOk.out (by have := HN.out; unfold JG at this ⊢; simp only at this ⊢; omega) HR2.out);clear hit hi1;go_wp2_with fail
   refine HI1.out.mono ?_;rintro e w3 ⟨rfl, rfl⟩;go_wp2_with fail
   refine HL1.out.mono ?_;intro e w5 hv5;obtain ⟨cs, L', m', f', rfl, ht, h5, h6, h7, h8⟩ := hv5;obtain ⟨u0, u1, u2, u3, U4, u4, u44, U5, u5, u55, rfl⟩ := ht
   have HV := hid (show OutI 67 b g N cap (nT + 1) res w2 (.returned (.agg #[.int .i64 u0, .bool u1, .int .i64 u2, .string u3, .slice U4 u4 u44, .slice U5 u5 u55])) w5 by
    rw [HF.out, <- HNT.out]
    exact ⟨_, L', m', f', rfl, ⟨u0, u1, u2, u3, U4, u4, u44, U5, u5, u55, rfl⟩, h5, h6, h7, h8⟩)
   have HT5 := hid ((h7.block _ lz (by omega)).trans HT2.out);obtain ⟨z0, z1, z2, z3, z4, z5, zf⟩ := Jf HT5.out;have l5 := Ja HT5.out;clear h5 h6 h7 h8;go_wp2_with fail
   exact bodyPost_ret (v := .agg #[.int .i64 u0, .bool u1, .int .i64 u2, .string u3, .slice U4 u4 u44, .slice U5 u5 u55]) (by simp only [results, Tryz.results55]; go_simp) rfl (HV.out.close ((HA2.out.mono (fun q hq => hq.elim .inl (fun hq => .inr (.inr hq))))) QC lz hlb hlg)
  have hi1 : Calls Tryz.prog 110 #[.string xt] w2 fun e w' => e = .returned (.tuple #[.string ⟨#[]⟩, .int .i64 0, .bool false]) /\ w2 = w' := by
   have h := Yc xt w2 (by omega);rw [hit] at h;exact h
  have HI1 := hid hi1;have HK := hid (Xr xt w2 (by omega));rcases hky : Qq xt with _ | ⟨key, rest⟩
  rotate_left
  ·have HF : Hid (res = Jn n (.pairs xi d [] []) (⟨xi, xt, xa⟩ :: r) (m + 1)) := hid (by rw [HRs.out, hit, hky]; rfl)
   have hk1 : Calls Tryz.prog 112 #[.string xt] w2 fun e w' => e = .returned (.tuple #[.string key, .string rest, .bool true]) /\ Below w2.heap.size w2 w' := by
    have h := HK.out;rw [hky] at h;exact h
   have HK1 := hid hk1;clear hit hi1 hky hk1;go_wp2_with fail
   refine HI1.out.mono ?_;rintro e w3 ⟨rfl, rfl⟩;go_wp2_with fail
   refine HK1.out.mono ?_;rintro e w3 ⟨rfl, hb3⟩;have HX3 := hid ((hb3.block _ ly).trans HX2.out);have HT3 := hid ((hb3.block _ lz).trans HT2.out);have HR3 := hid (HR2.out.below hb3);have HA3 := hid (HA2.out.trans (Aside.of_below hb3));clear hb3 y0 y1 y2 yf z0 z1 z2 z3 z4 z5 zf a0 a1 a2 a3' a4 a5 af;obtain ⟨y0, y1, y2, yf⟩ := Qi HX3.out;have ly3 := Ja HX3.out;have lz3 := Ja HT3.out
   have HP1 := hid (Hp.out xi d _ (m + 1) w3 hd1 hd8 (by omega) HOk.out (by have := HN.out; unfold JG at this ⊢; simp only at this ⊢; omega) HR3.out);go_wp2_with fail
   refine HP1.out.mono ?_;intro e w5 hv5;obtain ⟨cs, L', m', f', rfl, ht, h5, h6, h7, h8⟩ := hv5;obtain ⟨u0, u1, u2, u3, U4, u4, u44, U5, u5, u55, rfl⟩ := ht
   have HV := hid (show OutI 67 b g N cap (nT + 1) res w3 (.returned (.agg #[.int .i64 u0, .bool u1, .int .i64 u2, .string u3, .slice U4 u4 u44, .slice U5 u5 u55])) w5 by
    rw [HF.out, <- HNT.out]
    exact ⟨_, L', m', f', rfl, ⟨u0, u1, u2, u3, U4, u4, u44, U5, u5, u55, rfl⟩, h5, h6, h7, h8⟩)
   have HT5 := hid ((h7.block _ lz3 (by omega)).trans HT3.out);obtain ⟨z0, z1, z2, z3, z4, z5, zf⟩ := Jf HT5.out;have l5 := Ja HT5.out;clear h5 h6 h7 h8;go_wp2_with fail
   exact bodyPost_ret (v := .agg #[.int .i64 u0, .bool u1, .int .i64 u2, .string u3, .slice U4 u4 u44, .slice U5 u5 u55]) (by simp only [results, Tryz.results55]; go_simp) rfl (HV.out.close ((HA3.out.mono (fun q hq => hq.elim .inl (fun hq => .inr (.inr hq))))) QC lz3 hlb hlg)
  have hk1 : Calls Tryz.prog 112 #[.string xt] w2 fun e w' => e = .returned (.tuple #[.string ⟨#[]⟩, .string ⟨#[]⟩, .bool false]) /\ Below w2.heap.size w2 w' := by
   have h := HK.out;rw [hky] at h;exact h
  have HK1 := hid hk1
  have HF : Hid (res = (match JL xt with
     | some t => .good t r (m + 1)
     | none => .bad (Qd 4 xa))) := hid (by rw [HRs.out, hit, hky]; rfl)
  clear hit hi1 hky hk1;go_wp2_with fail
  refine HI1.out.mono ?_;rintro e w3 ⟨rfl, rfl⟩;go_wp2_with fail
  refine HK1.out.mono ?_;rintro e w3 ⟨rfl, hb3⟩;have HX3 := hid ((hb3.block _ ly).trans HX2.out);have HT3 := hid ((hb3.block _ lz).trans HT2.out);have HR3 := hid (HR2.out.below hb3);have HA3 := hid (HA2.out.trans (Aside.of_below hb3));clear hb3 y0 y1 y2 yf z0 z1 z2 z3 z4 z5 zf a0 a1 a2 a3' a4 a5 af;obtain ⟨y0, y1, y2, yf⟩ := Qi HX3.out;have ly3 := Ja HX3.out;have lz3 := Ja HT3.out
  go_wp2_with fail
  refine (Zh xt w3 (by omega)).mono ?_;rintro e w4 ⟨rfl, hb4⟩;have HX4 := hid ((hb4.block _ ly3).trans HX3.out);have HT4 := hid ((hb4.block _ lz3).trans HT3.out);have HR4 := hid (HR3.out.below hb4);have HA4 := hid (HA3.out.trans (Aside.of_below hb4));clear hb4 y0 y1 y2 yf;obtain ⟨y0, y1, y2, yf⟩ := Qi HX4.out;obtain ⟨z0, z1, z2, z3, z4, z5, zf⟩ := Jf HT4.out;have ly4 := Ja HX4.out
  have lz4 := Ja HT4.out;obtain ⟨p4, hbx⟩ := HR4.out.open;obtain ⟨a0, a1, a2, a3, a4, a5, af⟩ := Jf hbx.row;have lb4 := Ja hbx.row;have HPos := hid hbx.pos;have HP42 := hid (show wrap64 ((p4 : Int) + 1) = (p4 : Int) + 1 by have := hbx.pos; have := hbx.small; rw [List.length_cons] at *; unfold wrap64; omega);clear hbx;rcases hsc : JL xt with _ | t
  ·have HF2 : Hid (res = .bad (Qd 4 xa)) := hid (by rw [HF.out, hsc])
   simp only [JcL];clear hsc;go_wp2_with fail
   have HR4a := hid (HR4.out.below (w' := w4.alloc (.cells #[.int .i64 0, .bool false, .int .i64 0, .string ⟨#[]⟩, .slice none 0 0, .slice none 0 0] 34)) Jj);have HA4a := hid (Aside.of_below (S := fun q => q = b) (show Below w4.heap.size w4 (w4.alloc (.cells #[.int .i64 0, .bool false, .int .i64 0, .string ⟨#[]⟩, .slice none 0 0, .slice none 0 0] 34)) from Jj));refine (VW b g N cap _ (m + 1) Jv 4 xa _ HR4a.out).mono ?_
   rintro e w5 ⟨rfl, hR5, hA5⟩
   have HV := hid (show OutI 67 b g N cap (nT + 1) res w4 (.returned (.agg #[.int .i64 0, .bool false, .int .i64 0, .string ⟨#[]⟩, .slice none 0 0, .slice none 0 0])) w5 by
    rw [HF2.out]
    exact ⟨_, _, m + 1, US Jv 4 xa, rfl, ⟨_, _, _, _, _, _, _, _, _, _, rfl⟩, hR5, HOk.out, (HA4a.out.trans hA5).mono (fun q hq => .inl hq), if_pos rfl, by show (4 : Int) ≠ 0; decide⟩)
   have HT5 := hid ((hA5.block _ (by simp; omega) (by omega)).trans ((Below.heap_alloc _ _ _ lz4).trans HT4.out));clear hR5 hA5 z0 z1 z2 z3 z4 z5 zf y0 y1 y2 yf a0 a1 a2 a3 a4 a5 af;obtain ⟨z0, z1, z2, z3, z4, z5, zf⟩ := Jf HT5.out;have l5 := Ja HT5.out;go_wp2_with fail
   exact bodyPost_ret (v := .agg #[.int .i64 0, .bool false, .int .i64 0, .string ⟨#[]⟩, .slice none 0 0, .slice none 0 0]) (by simp only [results, Tryz.results55]; go_simp) rfl (HV.out.close ((HA4.out.mono (fun q hq => hq.elim .inl (fun hq => .inr (.inr hq))))) QC lz4 hlb hlg)
  ·have HF2 : Hid (res = .good t r (m + 1)) := hid (by rw [HF.out, hsc])
   have HSo := hid (fun (S : Nat -> Prop) (W : World) => XM hsc (n := nT) (S := S) (w := W));simp only [JcL];clear hsc;go_wp2_with fail
   have HV := hid (show OutI 67 b g N cap (nT + 1) res w4 (.returned (.agg #[.int .i64 t.kind, .bool t.flag, .int .i64 t.num, .string t.text, .slice none 0 0, .slice none 0 0])) (w4.setCell ⟨b, 1, none⟩ (.int .i64 (wrap64 ((p4 : Int) + 1)))) by
    rw [HF2.out, HP42.out]
    exact ⟨_, r, m + 1, Jv, rfl, ⟨_, _, _, _, _, _, _, _, _, _, rfl⟩, HR4.out.next HPos.out, HOk.out.tail, Jk (.inl rfl) (Aside.refl _ _), rfl, rfl, rfl, (HSo.out _ _).2⟩)
   exact bodyPost_ret (v := .agg #[.int .i64 t.kind, .bool t.flag, .int .i64 t.num, .string t.text, .slice none 0 0, .slice none 0 0]) (by simp only [results, Tryz.results55]; go_simp) rfl (HV.out.close ((HA4.out.mono (fun q hq => hq.elim .inl (fun hq => .inr (.inr hq))))) QC lz4 hlb hlg)
theorem JaK (s : ByteArray) (w : World) (hs : s.size <= 1048576) :
  Calls Tryz.prog 107 #[.string s] w fun e w' => e = .returned (.string (bs (JK s.data.toList))) /\ w = w' := by
 obtain ⟨T, hT⟩ : ∃ T, T = JR true false s.data.toList := ⟨_, rfl⟩
 have hst := BareAt.start s;rw [<- hT] at hst;have HT := hid hT;clear hT;have HS := hid hst;clear hst;go_enter Tryz.func107, Tryz.ntmps107
 go_wp2_with fail
 go_loop [3, 4, 5] (fun s3 s4 s5 => ∃ (e : Nat) (q : Bool) (i : Nat), s3 = .int .i64 e /\ s4 = .bool q /\ s5 = .int .i64 i /\ e <= s.size /\ i <= s.size + 1 /\ BareAt s T i e q) (fun s3 _ s5 => (intOf s3).toNat - (intOf s5).toNat)
 case atStart => exact ⟨s.size, false, 0, rfl, rfl, rfl, Nat.le_refl _, Nat.zero_le _, HS.out⟩
 case round =>
  obtain ⟨e, q, i, rfl, rfl, rfl, he, hi, hb⟩ := hrel;have HB := hid hb;by_cases hlt : (i : Int) < e
  ·have hie : i < e := by omega
   have hd : decide ((i : Int) < e) = true := JmG hlt;obtain ⟨rfl, hii, -⟩ := hb.at' hie;clear hb;have hz : (0 : Int) <= i := by omega
   obtain ⟨b, hbb⟩ : ∃ b : Nat, b = (s.get! i).toNat := ⟨_, rfl⟩
   have hx : (s[i]'hii).toNat = b := by rw [hbb]; exact JA s i hii
   have HY : Hid (Jb s i = b) := hid (by unfold Jb; rw [hbb]);clear hbb;rcases i with _ | m
   ·have h00 : Hid (Q9 s 0 = true) := hid rfl
    cases q
    ·by_cases h34 : (b : Int) = 34
     ·have k1 : ((b : Int) == 34) = true := beq_iff_eq.2 h34
      go_wp2_with fail
      go_round
      ·exact ⟨_, _, 1, rfl, rfl, rfl, Nat.le_refl _, by omega, HB.out.open' hie h00.out (by rw [HY.out]; exact h34)⟩
      first | omega | (simp [intOf]; done) | (simp [intOf]; omega)
     have k1 : ((b : Int) == 34) = false := JmH h34;by_cases h35 : (b : Int) = 35
     ·have k2 : ((b : Int) == 35) = true := beq_iff_eq.2 h35
      go_wp2_with fail
      go_round
      ·exact ⟨0, _, 1, rfl, rfl, rfl, by omega, by omega, (HB.out.rem hie h00.out (by rw [HY.out]; exact h35)).1⟩
      first | omega | (simp [intOf]; done) | (simp [intOf]; omega)
     have k2 : ((b : Int) == 35) = false := JmH h35;go_wp2_with fail
     go_round
     ·exact ⟨_, _, 1, rfl, rfl, rfl, Nat.le_refl _, by omega, HB.out.go hie (fun _ => by rw [HY.out]; exact ⟨h34, h35⟩)⟩
     first | omega | (simp [intOf]; done) | (simp [intOf]; omega)
    by_cases h92 : (b : Int) = 92
    ·have k3 : ((b : Int) == 92) = true := beq_iff_eq.2 h92
     go_wp2_with fail
     go_round
     ·exact ⟨_, _, 2, rfl, rfl, rfl, Nat.le_refl _, by omega, HB.out.esc hie (by rw [HY.out]; exact h92)⟩
     first | omega | (simp [intOf]; done) | (simp [intOf]; omega)
    have k3 : ((b : Int) == 92) = false := JmH h92;by_cases h34 : (b : Int) = 34
    focus
     have k1 : ((b : Int) == 34) = true := beq_iff_eq.2 h34;have k4 : ((b : Int) != 34) = false := by unfold bne; rw [k1]; rfl
    rotate_left
    focus
     have k1 : ((b : Int) == 34) = false := JmH h34;have k4 : ((b : Int) != 34) = true := by unfold bne; rw [k1]; rfl
    rotate_left
    all_goals
     go_wp2_with fail
     go_round
     ·exact ⟨_, _, 1, rfl, rfl, rfl, Nat.le_refl _, by omega, HB.out.in' hie (by rw [HY.out]; exact h92) (by rw [HY.out]; simp [h34])⟩
     first | omega | (simp [intOf]; done) | (simp [intOf]; omega)
   have hmm : m < s.size := by omega
   have hzm : (0 : Int) <= m := by omega
   have hm1 : ((m + 1 : Nat) : Int) = (m : Int) + 1 := by omega
   have hm0 : (((m : Int) + 1) == 0) = false := JmH (by omega);obtain ⟨p, hpp⟩ : ∃ p : Nat, p = (s.get! m).toNat := ⟨_, rfl⟩
   have hxp : (s[m]'hmm).toNat = p := by rw [hpp]; exact JA s m hmm
   have HP : Hid (Q9 s (m + 1) = decide ((p : Int) = 32)) := hid (by rw [Zj]; unfold Jb; rw [hpp]);clear hpp;cases q
   ·by_cases h32 : (p : Int) = 32
    ·have k0 : ((p : Int) == 32) = true := beq_iff_eq.2 h32
     have h00 : Hid (Q9 s (m + 1) = true) := hid (by rw [HP.out]; exact JmG h32);by_cases h34 : (b : Int) = 34
     ·have k1 : ((b : Int) == 34) = true := beq_iff_eq.2 h34
      go_wp2_with fail
      go_round
      ·exact ⟨_, _, (m + 2), rfl, rfl, by go_num, Nat.le_refl _, by omega, HB.out.open' hie h00.out (by rw [HY.out]; exact h34)⟩
      first | omega | (simp [intOf]; done) | (simp [intOf]; omega)
     have k1 : ((b : Int) == 34) = false := JmH h34;by_cases h35 : (b : Int) = 35
     ·have k2 : ((b : Int) == 35) = true := beq_iff_eq.2 h35
      go_wp2_with fail
      go_round
      ·exact ⟨(m + 1), _, (m + 2), by go_num, rfl, by go_num, by omega, by omega, (HB.out.rem hie h00.out (by rw [HY.out]; exact h35)).1⟩
      first | omega | (simp [intOf]; done) | (simp [intOf]; omega)
     have k2 : ((b : Int) == 35) = false := JmH h35;go_wp2_with fail
     go_round
     ·exact ⟨_, _, (m + 2), rfl, rfl, by go_num, Nat.le_refl _, by omega, HB.out.go hie (fun _ => by rw [HY.out]; exact ⟨h34, h35⟩)⟩
     first | omega | (simp [intOf]; done) | (simp [intOf]; omega)
    have k0 : ((p : Int) == 32) = false := JmH h32;have HN : Hid (Q9 s (m + 1) = false) := hid (by rw [HP.out]; exact JmF h32);by_cases h34 : (b : Int) = 34
    ·have k1 : ((b : Int) == 34) = true := beq_iff_eq.2 h34
     have k2 : ((b : Int) == 35) = false := JmH (by omega);go_wp2_with fail
     go_round
     ·exact ⟨_, _, (m + 2), rfl, rfl, by go_num, Nat.le_refl _, by omega, HB.out.go hie (fun h => by rw [HN.out] at h; cases h)⟩
     first | omega | (simp [intOf]; done) | (simp [intOf]; omega)
    have k1 : ((b : Int) == 34) = false := JmH h34;by_cases h35 : (b : Int) = 35
    focus
     have k2 : ((b : Int) == 35) = true := beq_iff_eq.2 h35
    rotate_left
    focus
     have k2 : ((b : Int) == 35) = false := JmH h35
    rotate_left
    all_goals
     go_wp2_with fail
     go_round
     ·exact ⟨_, _, (m + 2), rfl, rfl, by go_num, Nat.le_refl _, by omega, HB.out.go hie (fun h => by rw [HN.out] at h; cases h)⟩
     first | omega | (simp [intOf]; done) | (simp [intOf]; omega)
   by_cases h92 : (b : Int) = 92
   ·have k3 : ((b : Int) == 92) = true := beq_iff_eq.2 h92
    go_wp2_with fail
    go_round
    ·exact ⟨_, _, (m + 3), rfl, rfl, by go_num, Nat.le_refl _, by omega, HB.out.esc hie (by rw [HY.out]; exact h92)⟩
    first | omega | (simp [intOf]; done) | (simp [intOf]; omega)
   have k3 : ((b : Int) == 92) = false := JmH h92;by_cases h34 : (b : Int) = 34
   focus
    have k1 : ((b : Int) == 34) = true := beq_iff_eq.2 h34;have k4 : ((b : Int) != 34) = false := by unfold bne; rw [k1]; rfl
   rotate_left
   focus
    have k1 : ((b : Int) == 34) = false := JmH h34;have k4 : ((b : Int) != 34) = true := by unfold bne; rw [k1]; rfl
   rotate_left
   all_goals
    go_wp2_with fail
    go_round
    ·exact ⟨_, _, (m + 2), rfl, rfl, by go_num, Nat.le_refl _, by omega, HB.out.in' hie (by rw [HY.out]; exact h92) (by rw [HY.out]; simp [h34])⟩
    first | omega | (simp [intOf]; done) | (simp [intOf]; omega)
  have hd : decide ((i : Int) < e) = false := JmF hlt;obtain ⟨rfl, hTs⟩ := hb.done (by omega);clear hb;go_wp2_with fail
  go_loop [3] (fun s3 => ∃ k : Nat, s3 = .int .i64 k /\ k <= e /\ ∀ j, k <= j -> j < e -> Jb s j = 32) (fun s3 => (intOf s3).toNat)
  case atStart => exact ⟨e, rfl, Nat.le_refl _, fun j h1 h2 => absurd h2 (by omega)⟩
  case round =>
   obtain ⟨k, rfl, hk, hr⟩ := hrel;have HR := hid hr;clear hr;rcases k with _ | m
   ·go_wp2_with fail
    go_ret
    exact ⟨by rw [JeM HT.out hTs hk HR.out (fun h => absurd h (by omega)), extract_upto]; rfl, rfl⟩
   have hmm : m < s.size := by omega
   have hzm : (0 : Int) <= m := by omega
   have hm1 : ((m + 1 : Nat) : Int) = (m : Int) + 1 := by omega
   have hm0 : decide ((0 : Int) < (m : Int) + 1) = true := JmG (by omega);obtain ⟨p, hpp⟩ : ∃ p : Nat, p = (s.get! m).toNat := ⟨_, rfl⟩
   have hxp : (s[m]'hmm).toNat = p := by rw [hpp]; exact JA s m hmm
   have HP : Hid (Jb s m = p) := hid (by unfold Jb; rw [hpp]);clear hpp;by_cases h32 : (p : Int) = 32
   ·have k0 : ((p : Int) == 32) = true := beq_iff_eq.2 h32
    go_wp2_with fail
    go_round
    ·exact ⟨m, by first | rfl | go_num, by omega, fun j h1 h2 => by
      rcases Nat.lt_or_ge m j with h | h
      ·exact HR.out j h h2
      rw [show j = m by omega, HP.out]; exact h32⟩
    first | omega | (simp [intOf]; done) | (simp [intOf]; omega)
   have k0 : ((p : Int) == 32) = false := JmH h32;go_wp2_with fail
   go_ret
   exact ⟨by rw [JeM HT.out hTs hk HR.out (fun _ => by show Jb s m ≠ 32; rw [HP.out]; exact h32)]; rfl, rfl⟩
abbrev Y9 (base : Nat) (w : World) (l : List LineD) (v : Value) : Prop := RowE YA 3 59 base w l v
def Jmb (r : List LineD × Flt) (w : World) (e : Ending) (w' : World) : Prop := ∃ (A : Option Addr) (c : Nat), e = .returned (.tuple #[.slice A r.1.length c, .agg (Uv r.2)]) /\ Y9 w.heap.size w' r.1 (.slice A r.1.length c) /\ Below w.heap.size w w'
theorem Jbu {B : Nat} {w w' : World} {L : List LineD} {v : Value} (h : Y9 (B + 1) w L v) (hF : Aside (fun b => b = B) w w') : Y9 B w' L v :=
 (h.less (Nat.le_succ _)).carry (fun q hq => hF.block q (World.ownsRow.lt h q hq).2 (by have := (World.ownsRow.lt h q hq).1; omega))
theorem Jfl {s : ByteArray} (h : 20000 < s.size) : JM s = ([], ⟨1, 0, ⟨#[]⟩⟩) := by
 have e : QN s = ⟨1, 0, ⟨#[]⟩⟩ := by unfold QN; rw [if_pos h]
 rw [WM (by rw [e]; decide), e]
theorem JdV {s : ByteArray} (h : ¬ 20000 < s.size) (hb : 0 <= QO s 0) : JM s = ([], ⟨2, QO s 0, ⟨#[]⟩⟩) := by
 have e : QN s = ⟨2, QO s 0, ⟨#[]⟩⟩ := by unfold QN; rw [if_neg h, if_pos hb]
 rw [WM (by rw [e]; simp), e]
theorem Jkz {s : ByteArray} (h : ¬ 20000 < s.size) (hb : ¬ 0 <= QO s 0) : (QN s).code = 0 := by
 unfold QN;rw [if_neg h, if_neg hb];rfl
theorem Ja5 : ∀ (l acc : List UInt8), 0 < (QH acc l).length
 | [], _ => Nat.succ_pos 0
 | c :: l, acc => by
  unfold QH;split
  ·exact Nat.succ_pos _
  exact Ja5 l _
theorem Jbd (s : ByteArray) (w : World) (hs : s.size <= 1048576) :
  Calls Tryz.prog 53 #[.string s] w (Jmb (JM s) w) := by
 obtain ⟨i0, hi, hz0, hz1, hz2⟩ := info_parts (show (Tryz.prog.info? 59).map (fun i => (i.zero, i.size, i.bytes)) = some (some (.agg #[.int .i64 0, .string ⟨#[]⟩, .int .i64 0]), 3, 32) from by kernel_rfl);by_cases hl : (20000 : Int) < s.size
 ·have HF := hid (show JM s = ([], ⟨1, 0, ⟨#[]⟩⟩) from Jfl (by omega))
  go_enter Tryz.func53, Tryz.ntmps53
  go_wp2_with fail
  exact bodyPost_ret (v := .tuple #[.slice (some ⟨w.heap.size + 1, 0, none⟩) 0 0, .agg #[.int .i64 1, .int .i64 0, .string ⟨#[]⟩]]) (by simp only [results, Tryz.results53]; go_simp) rfl ⟨some ⟨w.heap.size + 1, 0, none⟩, 0, by rw [HF.out]; rfl, by rw [HF.out]; exact JV (by simp) (by simp), Jj⟩
 have hl2 : s.size <= 20000 := by omega
 have hl3 : decide ((20000 : Int) < s.size) = false := JmF hl;clear hl;obtain ⟨y, hy⟩ : ∃ y, y = QO s 0 := ⟨_, rfl⟩
 have HY := hid hy;by_cases y0 : 0 <= y
 ·have HF := hid (show JM s = ([], ⟨2, y, ⟨#[]⟩⟩) by rw [hy]; exact JdV (by omega) (by rw [<- hy]; exact y0))
  clear hy;go_enter Tryz.func53, Tryz.ntmps53
  go_wp2_with fail
  refine (Jbe s _ hs).mono ?_;rintro e w1 ⟨rfl, hb⟩;rw [<- HY.out];have hbox : w1.heap[w.heap.size]? = some (.cells #[.int .i64 0, .int .i64 0, .string ⟨#[]⟩] 23 (0, 0)) := (hb.block w.heap.size (by simp; omega)).trans ((Below.heap_alloc _ _ _ (by simp)).trans (Je (by simp)));have l1 := Ja hbox;have hB1 : Below w.heap.size w w1 := Jj;have HNo := hid (RowE.below (show Y9 (w.heap.size + 1) ((w.alloc (.cells #[.int .i64 0, .int .i64 0, .string ⟨#[]⟩] 23)).alloc (.cells #[] 59)) [] (.slice (some ⟨w.heap.size + 1, 0, none⟩) 0 0) from JV (by simp) (by simp)) hb)
  obtain ⟨a0, a1, a2, af⟩ := Qi hbox;clear hbox;go_wp2_with fail
  exact bodyPost_ret (v := .tuple #[.slice (some ⟨w.heap.size + 1, 0, none⟩) 0 0, .agg #[.int .i64 2, .int .i64 y, .string ⟨#[]⟩]]) (by simp only [results, Tryz.results53]; go_simp) rfl ⟨some ⟨w.heap.size + 1, 0, none⟩, 0, by rw [HF.out]; rfl, by rw [HF.out]; exact Jbu HNo.out QC, Jj⟩
 have HF := hid (show (QN s).code = 0 from Jkz (by omega) (by rw [<- hy]; exact y0));have y1 : decide (0 <= y) = false := JmF y0;clear hy y0;go_enter Tryz.func53, Tryz.ntmps53
 go_wp2_with fail
 refine (Jbe s _ hs).mono ?_;rintro e w1 ⟨rfl, hb⟩;rw [<- HY.out];have hbox : w1.heap[w.heap.size]? = some (.cells #[.int .i64 0, .int .i64 0, .string ⟨#[]⟩] 23 (0, 0)) := (hb.block w.heap.size (by simp; omega)).trans ((Below.heap_alloc _ _ _ (by simp)).trans (Je (by simp)));have l1 := Ja hbox;have HBox1 := hid hbox;have hB1 : Below w.heap.size w w1 := Jj;have HNo1 := hid (RowE.below (show Y9 (w.heap.size + 1) ((w.alloc (.cells #[.int .i64 0, .int .i64 0, .string ⟨#[]⟩] 23)).alloc (.cells #[] 59)) [] (.slice (some ⟨w.heap.size + 1, 0, none⟩) 0 0) from JV (by simp) (by simp)) hb)
 have lno1 := (World.ownsRow.lt HNo1.out (w.heap.size + 1) rfl).2;clear hbox;go_wp2_with fail
 obtain ⟨wq, hwq⟩ : ∃ W, W = w1.alloc (.cells #[] 59) := ⟨_, rfl⟩
 have Bq : Hid (Below w1.heap.size w1 wq) := hid (by rw [hwq]; exact Jj);have HE0 : Hid (Y9 w1.heap.size wq [] (.slice (some ⟨w1.heap.size, 0, none⟩) 0 0)) := hid (by rw [hwq]; exact JV rfl (Nat.le_refl _));have lq : w1.heap.size < wq.heap.size := by rw [hwq]; simp
 rw [<- hwq];clear hwq;refine (JfT s wq hl2).mono ?_;rintro e w2 ⟨P, v, rfl, hcut, hlen, hRP, hb2⟩
 have hpos : 0 < P.length := by
  have := congrArg List.length hcut;rw [List.length_map] at this;rw [this];exact Ja5 _ _
 obtain ⟨g, cap, cur, rfl, hgb, hgrow, hgcell⟩ := hRP.row Jbm hpos;have HB2 := hid hb2;have hgl := Ja hgrow;have hgq : w1.heap.size < g := Nat.lt_of_lt_of_le lq hgb
 have Hcells : Hid (∀ (i : Nat) (x : ByteArray), P[i]? = some x -> w2.cell? ⟨g, i, none⟩ = some (.string x)) := hid (fun i x hx => by
  have h1 := hgcell.2.2.2 i x hx 0 (by decide);rw [cell_of_row _ _ _ _ _ _ hgrow];have e : i * 1 + 0 = i := by omega
  rw [e] at h1
  exact h1)
 have h12 : w1.heap.size <= wq.heap.size := Nat.le_of_lt lq;have HBox2 : Hid (w2.heap[w.heap.size]? = some (.cells #[.int .i64 0, .int .i64 0, .string ⟨#[]⟩] 23 (0, 0))) := hid ((hb2.block _ (Nat.lt_of_lt_of_le l1 h12)).trans ((Bq.out.block _ l1).trans HBox1.out));have HNo2 := hid ((HNo1.out.below Bq.out).below hb2);have HE2 := hid (HE0.out.below hb2);have l2 : wq.heap.size <= w2.heap.size := hb2.size
 have HB02 : Hid (Below w.heap.size w w2) := hid ((hB1.trans (Bq.out.mono (Nat.le_of_lt l1))).trans (hb2.mono (Nat.le_trans (Nat.le_of_lt l1) h12)));have HS0 := hid (LnAt.start HF.out hcut);have hPz : P.length <= 20001 := by omega
 have HI0 := hid hi;clear hgrow hgcell hRP hb2 hcut;go_wp2_with fail
 go_loopw [6, 8] (fun s6 s8 wr => ∃ (i n : Nat) (L : List LineD) (A : Option Addr) (c : Nat), s8 = .int .i64 i /\ n = L.length /\ s6 = .slice A n c /\ i <= P.length /\ LnAt s P i L /\ Y9 w1.heap.size wr L (.slice A n c) /\ (∀ q, (Value.slice A n c).ownBlock = some q -> q = w1.heap.size ∨ w2.heap.size <= q) /\ Aside (fun q => q = w1.heap.size) w2 wr) (fun _ s8 _ => P.length - (intOf s8).toNat)
 case atStart => exact ⟨0, 0, [], _, _, rfl, rfl, rfl, Nat.zero_le _, HS0.out, HE2.out, fun q hq => .inl (by simp [Value.ownBlock] at hq; omega), Aside.refl _ _⟩
 case round =>
  obtain ⟨i, n, L, A, c, rfl, hn, rfl, hi, hA, hR, hO, hX⟩ := hrel;have HR := hid hR;have HA := hid hA;have HN := hid hn;have HO := hid hO;have HX := hid hX;have hwz := hX.size;have HBoxr := hid ((hX.block _ (Ja HBox2.out) (by omega)).trans HBox2.out);have HNr := hid (HNo2.out.carry (fun q hq => hX.block q (World.ownsRow.lt HNo2.out q hq).2 (by simp [Value.ownBlock] at hq; omega)))
  have HB0r : Hid (Below w.heap.size w wr) := hid (HB02.out.trans (hX.below (Nat.le_of_lt (Ja HBox2.out)) (fun q hq => by omega)));have hni : n <= i := by rw [hn]; exact hA.size
  clear hR hA hn hO hX;by_cases hlt : (i : Int) < P.length
  ·have hii : i < P.length := by omega
   have hd : decide ((i : Int) < P.length) = true := JmG hlt;have hz : (0 : Int) <= i := by omega
   obtain ⟨x, hx⟩ := Jg hii;have hcx : wr.cell? ⟨g, i, none⟩ = some (.string x) := (World.cell?_of_block (HX.out.block g hgl (by omega))).trans (Hcells.out i x hx);have hxz : x.size <= 20000 := Nat.le_trans (HA.out.small hx) hl2;have HPx := hid hx;clear hx;go_wp2_with fail
   go_loop [9] (fun s9 => ∃ k : Nat, s9 = .int .i64 k /\ k <= x.size /\ ∀ t, t < k -> 32 <= Jb x t) (fun s9 => x.size - (intOf s9).toNat)
   case atStart => exact ⟨0, rfl, Nat.zero_le _, fun t ht => absurd ht (by omega)⟩
   case round =>
    obtain ⟨k, rfl, hk, hkl⟩ := hrel;have HK := hid hkl;clear hkl;by_cases hkx : (k : Int) < x.size
    ·have hkk : k < x.size := by omega
     have hdk : decide ((k : Int) < x.size) = true := JmG hkx;have hzk : (0 : Int) <= k := by omega
     obtain ⟨b, hbb⟩ : ∃ b : Nat, b = (x.get! k).toNat := ⟨_, rfl⟩
     have hxb : (x[k]'hkk).toNat = b := by rw [hbb]; exact JA x k hkk
     have HY : Hid (Jb x k = b) := hid (by unfold Jb; rw [hbb]);clear hbb;by_cases h32 : (b : Int) < 32
     ·have hd32 : decide ((b : Int) < 32) = true := JmG h32
      have HF2 := hid (HA.out.bad HPx.out (Jhy hkk (by rw [HY.out]; exact h32)));obtain ⟨a0, a1, a2, af⟩ := Qi HBoxr.out;have la := Ja HBoxr.out;go_wp2_with fail
      exact bodyPost_ret (v := .tuple #[.slice (some ⟨w.heap.size + 1, 0, none⟩) 0 0, .agg #[.int .i64 3, .int .i64 ((i : Int) + 1), .string ⟨#[]⟩]]) (by simp only [results, Tryz.results53]; go_simp) rfl ⟨some ⟨w.heap.size + 1, 0, none⟩, 0, by rw [HF2.out]; rfl, by rw [HF2.out]; exact Jbu HNr.out QC, HB0r.out.trans (Aside.below (S := fun b => b = w.heap.size) QC HB0r.out.size (fun i hi => by omega))⟩
     have hd32 : decide ((b : Int) < 32) = false := JmF h32;go_wp2_with fail
     go_round
     ·exact ⟨k + 1, by go_num, by omega, fun t ht => by
       rcases Nat.lt_or_ge t k with h | h
       ·exact HK.out t h
       rw [show t = k by omega, HY.out]; omega⟩
     first | omega | (simp [intOf]; done) | (simp [intOf]; omega)
    have hdk : decide ((k : Int) < x.size) = false := JmF hkx;have HLo := hid (JlV (x := x) (fun t ht => HK.out t (by omega)));obtain ⟨y, hy⟩ : ∃ y, y = bs (JK x.data.toList) := ⟨_, rfl⟩
    have KB := hid (JaK x wr (by omega));rw [<- hy] at KB;have HYd := hid hy;clear hy;go_wp2_with fail
    refine KB.out.mono ?_;rintro e wz ⟨rfl, rfl⟩;by_cases hnil : JK x.data.toList = []
    ·obtain rfl : y = ByteArray.empty := by rw [HYd.out, hnil]; rfl
     have HA2 := hid (HA.out.skip HPx.out HLo.out hnil);clear hnil;go_wp2_with fail
     go_roundw
     case rel => exact ⟨i + 1, n, L, A, c, by go_num, HN.out, rfl, by omega, HA2.out, HR.out, HO.out, HX.out⟩
     case measure => first | omega | (simp [intOf]; done) | (simp [intOf]; omega)
    have hyz : y.size = (JK x.data.toList).length := by rw [HYd.out]; exact size_mk _
    have hyl : 0 < y.size := by rw [hyz]; exact List.length_pos_iff.2 hnil
    have hyd : y.toList.isEmpty = false := by rw [ByteArray.toList_eq, HYd.out]; show (JK x.data.toList).isEmpty = false; cases hb : JK x.data.toList; exact absurd hb hnil; rfl
    have hye : (!y.toList.isEmpty) = true := by rw [hyd]; rfl
    have hyb : y.size <= 20000 := by rw [hyz]; exact Nat.le_trans (XV _) (by rw [Jp]; exact hxz)
    have hyL : y.data.toList = JK x.data.toList := by rw [HYd.out]; rfl
    have KI := hid (Vz y wr (by omega));rw [hyL] at KI;have htr := Jer (JK x.data.toList);rw [<- HYd.out] at htr;have hdl : Vh (JK x.data.toList) <= y.size := by rw [hyz]; unfold Vh; exact Nat.sub_le _ _
    have HA2 := hid (HA.out.add HPx.out HLo.out hnil);obtain ⟨d, hdd⟩ : ∃ d, d = Vh (JK x.data.toList) := ⟨_, rfl⟩
    rw [<- htr, <- hdd] at HA2;rw [<- hdd] at KI hdl;clear hyz hyL htr hdd hnil;have hdI : (d : Int) <= y.size := by omega
    have hd0 : (0 : Int) <= d := by omega
    go_wp2_with fail
    refine KI.out.mono ?_;rintro e wz ⟨rfl, rfl⟩;go_wp2_with (at_builtin; go_loud (refine QK (C := Jl7) rfl (.tmp 63) (.tmp 71) 54 rfl w1.heap.size 59 i0 (.agg #[.int .i64 0, .string ⟨#[]⟩, .int .i64 0]) 3 32 Tryz.underlying54 HI0.out hz0 hz1 hz2 rfl (by decide) YM Jdl JhC _ n L rfl HN.out.symm (HR.out.below Jj) [(⟨d, y.extract d y.size, i + 1⟩ : LineD)] (some ⟨_, 0, none⟩) 1 1 _ _ rfl rfl (JhK YM _ _ rfl 59 _ rfl (by simp)) (by unfold maxLen; omega) (by omega) (by simp; omega) ?_))
    intro v' w4 hR4 hg4 ha4;obtain ⟨A4, c4, rfl⟩ := hR4.form;have HR4 := hid hR4
    have hX4 : Aside (fun q => q = w1.heap.size) w2 w4 := ⟨by rw [hg4.os]; exact HX.out.os, by rw [hg4.tape]; exact HX.out.tape, by rw [hg4.output]; exact HX.out.output, Nat.le_trans hwz (Nat.le_trans (by simp) hg4.size), fun k hk hne => by
     refine ((hg4.block k (by simp; omega) (fun e => ?_)).trans ((Below.heap_alloc _ _ _ (by omega)).trans (HX.out.block k hk hne)))
     rcases HO.out k e.symm with h | h <;> omega⟩
    have hO4 : ∀ q, (Value.slice A4 (L ++ [(⟨d, y.extract d y.size, i + 1⟩ : LineD)]).length c4).ownBlock = some q -> q = w1.heap.size ∨ w2.heap.size <= q := fun q hq => by
     rcases ha4 with h | h
     ·rw [h] at hq; exact HO.out q hq
     rw [h] at hq; simp at hq; exact .inr (by omega)
    have HO4 := hid hO4;have HX4 := hid hX4;have hln : (L ++ [(⟨d, y.extract d y.size, i + 1⟩ : LineD)]).length = n + 1 := by rw [List.length_append, <- HN.out]; rfl
    have HL := hid hln;clear hR4 hg4 ha4 hO4 hX4 hln;go_wp2_with fail
    go_roundw
    case rel => exact ⟨i + 1, n + 1, L ++ [⟨d, y.extract d y.size, i + 1⟩], A4, c4, by go_num, HL.out.symm, by rw [HL.out], by omega, HA2.out, by rw [<- HL.out]; exact HR4.out, by rw [<- HL.out]; exact HO4.out, HX4.out⟩
    case measure => first | omega | (simp [intOf]; done) | (simp [intOf]; omega)
  have hd : decide ((i : Int) < P.length) = false := JmF hlt;have HE := hid (HA.out.end' (by omega));obtain ⟨a0, a1, a2, af⟩ := Qi HBoxr.out;have la := Ja HBoxr.out;go_wp2_with fail
  exact bodyPost_ret (v := .tuple #[.slice A n c, .agg #[.int .i64 0, .int .i64 0, .string ⟨#[]⟩]]) (by simp only [results, Tryz.results53]; go_simp) rfl ⟨A, c, by rw [HE.out, HN.out]; rfl, by
   rw [HE.out];show Y9 _ _ L (.slice A L.length c)
   rw [<- HN.out]
   exact (HR.out.less (Nat.le_of_lt l1)).carry (fun q hq => (QC : Aside (fun b => b = w.heap.size) wr _).block q (World.ownsRow.lt HR.out q hq).2 (by have := (World.ownsRow.lt HR.out q hq).1; omega)), HB0r.out.trans (Aside.below (S := fun b => b = w.heap.size) QC HB0r.out.size (fun i hi => by omega))⟩
theorem Jbk (s : ByteArray) (T i : Nat) (w : World) (hs : s.size <= 1048576) (hi : i < s.size) (hb : BareAt s T (i + 1) s.size true) :
  Calls Tryz.prog 173 #[.string s, .int .i64 i] w fun e w' => ∃ j : Nat, e = .returned (.int .i64 j) /\ w = w' /\ i < j /\ j <= s.size + 1 /\ ((j < s.size /\ BareAt s T (j + 1) s.size false) ∨ (s.size <= j /\ T = s.size)) := by
 have HS := hid hb;clear hb;go_enter Tryz.func173, Tryz.ntmps173
 go_wp2_with fail
 go_loop [1] (fun s1 => ∃ a : Nat, s1 = .int .i64 a /\ i < a /\ a <= s.size + 1 /\ BareAt s T a s.size true) (fun s1 => s.size + 1 - (intOf s1).toNat)
 case atStart => exact ⟨i + 1, by go_num, by omega, by omega, HS.out⟩
 case round =>
  obtain ⟨a, rfl, h1, h2, hb⟩ := hrel;have HB := hid hb;clear hb;by_cases hlt : (a : Int) < s.size
  ·have hie : a < s.size := by omega
   have hd : decide ((a : Int) < s.size) = true := JmG hlt;have hz : (0 : Int) <= a := by omega
   obtain ⟨b, hbb⟩ : ∃ b : Nat, b = (s.get! a).toNat := ⟨_, rfl⟩
   have hx : (s[a]'hie).toNat = b := by rw [hbb]; exact JA s a hie
   have HY : Hid (Jb s a = b) := hid (by unfold Jb; rw [hbb]);clear hbb;by_cases h34 : (b : Int) = 34
   ·have k1 : ((b : Int) == 34) = true := beq_iff_eq.2 h34
    have k4 : ((b : Int) != 34) = false := by unfold bne; rw [k1]; rfl
    go_wp2_with fail
    go_ret
    exact ⟨a, rfl, rfl, h1, h2, .inl ⟨hie, HB.out.in' hie (by rw [HY.out]; omega) (by rw [HY.out]; simp [h34])⟩⟩
   have k1 : ((b : Int) == 34) = false := JmH h34;have k4 : ((b : Int) != 34) = true := by unfold bne; rw [k1]; rfl
   by_cases h92 : (b : Int) = 92
   ·have k3 : ((b : Int) == 92) = true := beq_iff_eq.2 h92
    go_wp2_with fail
    go_round
    ·exact ⟨a + 2, by go_num, by omega, by omega, HB.out.esc hie (by rw [HY.out]; exact h92)⟩
    first | omega | (simp [intOf]; done) | (simp [intOf]; omega)
   have k3 : ((b : Int) == 92) = false := JmH h92;go_wp2_with fail
   go_round
   ·exact ⟨a + 1, by go_num, by omega, by omega, HB.out.in' hie (by rw [HY.out]; exact h92) (by rw [HY.out]; simp [h34])⟩
   first | omega | (simp [intOf]; done) | (simp [intOf]; omega)
  have hd : decide ((a : Int) < s.size) = false := JmF hlt;go_wp2_with fail
  go_ret
  exact ⟨a, rfl, rfl, h1, h2, .inr ⟨by omega, (HB.out.done (by omega)).1.symm⟩⟩
def Jmf (s : ByteArray) (T i : Nat) : Prop := BareAt s T i s.size false ∨ (s.size <= i /\ T = s.size)
theorem JjM {s : ByteArray} {T : Nat} (hT : T = JR true false s.data.toList) : bs (trimRightB (s.extract 0 T).data.toList 32) = bs (JK s.data.toList) := by
 unfold JK;rw [<- hT, extract_upto]
theorem JaH (s : ByteArray) (w : World) (hs : s.size <= 1048576) :
  Calls Tryz.prog 95 #[.string s] w fun e w' => e = .returned (.string (bs (JK s.data.toList))) /\ w = w' := by
 obtain ⟨T, hT⟩ : ∃ T, T = JR true false s.data.toList := ⟨_, rfl⟩
 have hst := BareAt.start s;rw [<- hT] at hst;have HE := hid (JjM hT);clear hT;have HTs := hid (fun (e : Nat) (he : e <= s.size) => JeX (s.extract 0 e) w (by rw [ByteArray.size_extract]; omega));have HS := hid hst;clear hst;go_enter Tryz.func95, Tryz.ntmps95
 go_wp2_with fail
 go_loop [3, 4] (fun s3 s4 => ∃ i : Nat, s3 = .int .i64 s.size /\ s4 = .int .i64 i /\ i <= s.size + 2 /\ Jmf s T i) (fun _ s4 => s.size + 2 - (intOf s4).toNat)
 case atStart => exact ⟨0, rfl, rfl, by omega, .inl HS.out⟩
 case round =>
  obtain ⟨i, rfl, rfl, hi, hb⟩ := hrel;by_cases hlt : (i : Int) < s.size
  ·have hie : i < s.size := by omega
   have hd : decide ((i : Int) < s.size) = true := JmG hlt;have hb : BareAt s T i s.size false := hb.resolve_right (by omega);have HB := hid hb;have hz : (0 : Int) <= i := by omega
   obtain ⟨b, hbb⟩ : ∃ b : Nat, b = (s.get! i).toNat := ⟨_, rfl⟩
   have hx : (s[i]'hie).toNat = b := by rw [hbb]; exact JA s i hie
   have HY : Hid (Jb s i = b) := hid (by unfold Jb; rw [hbb]);clear hbb hb;rcases i with _ | m
   ·have h00 : Hid (Q9 s 0 = true) := hid rfl
    by_cases h35 : (b : Int) = 35
    ·have k2 : ((b : Int) == 35) = true := beq_iff_eq.2 h35
     obtain ⟨-, hT, hTs⟩ := HB.out.rem hie h00.out (by rw [HY.out]; exact h35);subst hT;have K := hid (HTs.out _ hTs);rw [HE.out, show s.extract 0 0 = ByteArray.empty by (rw [extract_upto]; rfl)] at K;clear HTs HE;go_wp2_with fail
     refine K.out.mono ?_;rintro e w1 ⟨rfl, rfl⟩;go_wp2_with fail
     go_ret
     exact ⟨rfl, rfl⟩
    have k2 : ((b : Int) == 35) = false := JmH h35;by_cases h34 : (b : Int) = 34
    ·have k1 : ((b : Int) == 34) = true := beq_iff_eq.2 h34
     have K := hid (Jbk s T 0 w hs hie (HB.out.open' hie h00.out (by rw [HY.out]; exact h34)));rw [show ((0 : Nat) : Int) = 0 from rfl] at K;go_wp2_with fail
     refine K.out.mono ?_;rintro e w1 ⟨j, rfl, rfl, hj1, hj2, hj3⟩;have HJ := hid hj3;clear hj3;go_wp2_with fail
     go_round
     ·exact ⟨j + 1, rfl, by go_num, by omega, by rcases HJ.out with h | h; exact .inl h.2; exact .inr ⟨by omega, h.2⟩⟩
     first | omega | (simp [intOf]; done) | (simp [intOf]; omega)
    have k1 : ((b : Int) == 34) = false := JmH h34;go_wp2_with fail
    go_round
    ·exact ⟨1, rfl, by go_num, by omega, .inl (HB.out.go hie (fun _ => by rw [HY.out]; exact ⟨h34, h35⟩))⟩
    first | omega | (simp [intOf]; done) | (simp [intOf]; omega)
   have hmm : m < s.size := by omega
   have hzm : (0 : Int) <= m := by omega
   have hm1 : ((m + 1 : Nat) : Int) = (m : Int) + 1 := by omega
   have hm0 : (((m : Int) + 1) == 0) = false := JmH (by omega);obtain ⟨p, hpp⟩ : ∃ p : Nat, p = (s.get! m).toNat := ⟨_, rfl⟩
   have hxp : (s[m]'hmm).toNat = p := by rw [hpp]; exact JA s m hmm
   have HP : Hid (Q9 s (m + 1) = decide ((p : Int) = 32)) := hid (by rw [Zj]; unfold Jb; rw [hpp]);clear hpp;by_cases h32 : (p : Int) = 32
   ·have k0 : ((p : Int) == 32) = true := beq_iff_eq.2 h32
    have h00 : Hid (Q9 s (m + 1) = true) := hid (by rw [HP.out]; exact JmG h32);by_cases h35 : (b : Int) = 35
    ·have k2 : ((b : Int) == 35) = true := beq_iff_eq.2 h35
     obtain ⟨-, hT, hTs⟩ := HB.out.rem hie h00.out (by rw [HY.out]; exact h35);subst hT;have K := hid (HTs.out _ hTs);rw [HE.out] at K;clear HTs HE;go_wp2_with fail
     refine K.out.mono ?_;rintro e w1 ⟨rfl, rfl⟩;go_wp2_with fail
     go_ret
     exact ⟨rfl, rfl⟩
    have k2 : ((b : Int) == 35) = false := JmH h35;by_cases h34 : (b : Int) = 34
    ·have k1 : ((b : Int) == 34) = true := beq_iff_eq.2 h34
     have K := hid (Jbk s T (m + 1) w hs hie (HB.out.open' hie h00.out (by rw [HY.out]; exact h34)));rw [hm1] at K;go_wp2_with fail
     refine K.out.mono ?_;rintro e w1 ⟨j, rfl, rfl, hj1, hj2, hj3⟩;have HJ := hid hj3;clear hj3;go_wp2_with fail
     go_round
     ·exact ⟨j + 1, rfl, by go_num, by omega, by rcases HJ.out with h | h; exact .inl h.2; exact .inr ⟨by omega, h.2⟩⟩
     first | omega | (simp [intOf]; done) | (simp [intOf]; omega)
    have k1 : ((b : Int) == 34) = false := JmH h34;go_wp2_with fail
    go_round
    ·exact ⟨(m + 2), rfl, by go_num, by omega, .inl (HB.out.go hie (fun _ => by rw [HY.out]; exact ⟨h34, h35⟩))⟩
    first | omega | (simp [intOf]; done) | (simp [intOf]; omega)
   have k0 : ((p : Int) == 32) = false := JmH h32;have HN : Hid (Q9 s (m + 1) = false) := hid (by rw [HP.out]; exact JmF h32);go_wp2_with fail
   go_round
   ·exact ⟨(m + 2), rfl, by go_num, by omega, .inl (HB.out.go hie (fun h => by rw [HN.out] at h; cases h))⟩
   first | omega | (simp [intOf]; done) | (simp [intOf]; omega)
  have hd : decide ((i : Int) < s.size) = false := JmF hlt
  have hTs : T = s.size := by
   rcases hb with h | h
   ·exact (h.done (by omega)).1.symm
   exact h.2
  clear hb;subst hTs;have K := hid (HTs.out s.size (Nat.le_refl _));rw [HE.out, show s.extract 0 s.size = s by (rw [extract_upto, List.take_of_length_le (by rw [Jp]; exact Nat.le_refl _)])] at K;clear HTs HE;go_wp2_with fail
  refine K.out.mono ?_;rintro e w1 ⟨rfl, rfl⟩;go_wp2_with fail
  go_ret
  exact ⟨rfl, rfl⟩
theorem Jcq (s : ByteArray) (w : World) (hs : s.size <= 1048576) (hT : Tabs w) (hM : MaxL w) :
  Calls Tryz.prog 49 #[.string s] w (Jmb (JM s) w) := by
 obtain ⟨i0, hi, hz0, hz1, hz2⟩ := info_parts (show (Tryz.prog.info? 59).map (fun i => (i.zero, i.size, i.bytes)) = some (some (.agg #[.int .i64 0, .string ⟨#[]⟩, .int .i64 0]), 3, 32) from by kernel_rfl);have HVT := hid (And.intro hT hM);clear hT hM;obtain ⟨f, hf⟩ : ∃ f, f = QN s := ⟨_, rfl⟩
 obtain ⟨fc, fa, fp⟩ := f;have HTf := hid hf;clear hf;by_cases hc : fc = 0
 rotate_left
 ·have d1 : (fc == 0) = false := JmH hc
  have d2 : (fc != 0) = true := bne_iff_ne.2 hc;have HF := hid (show JM s = ([], ⟨fc, fa, fp⟩) by rw [WM (by rw [<- HTf.out]; exact hc), HTf.out]);clear hc;go_enter Tryz.func49, Tryz.ntmps49
  go_wp2_with fail
  refine (ZJ s _ hs (HVT.out.1.below Jj)).mono ?_;rintro e w1 ⟨rfl, hb⟩;rw [<- HTf.out];simp only [Uv];have hbox : w1.heap[w.heap.size]? = some (.cells #[.int .i64 0, .int .i64 0, .string ⟨#[]⟩] 23 (0, 0)) := (hb.block w.heap.size (by simp)).trans (Je (by simp));have l1 := Ja hbox;have hB1 : Below w.heap.size w w1 := Jj;obtain ⟨a0, a1, a2, af⟩ := Qi hbox;clear hbox;go_wp2_with fail
  go_region_law (fail)
  all_goals
   (try go_wp2_with fail)
   exact bodyPost_ret (v := .tuple #[.slice none 0 0, .agg #[.int .i64 fc, .int .i64 fa, .string fp]]) (by simp only [results, Tryz.results49]; go_simp) rfl ⟨none, 0, by rw [HF.out]; rfl, by rw [HF.out]; exact World.ownsRow_nil _ _ _ _, Jj⟩
 obtain rfl := hc;have hcode : (QN s).code = 0 := by rw [<- HTf.out]
 have hl2 : s.size <= 20000 := WH hcode;have HF := hid hcode;clear hcode;go_enter Tryz.func49, Tryz.ntmps49
 go_wp2_with fail
 refine (ZJ s _ hs (HVT.out.1.below Jj)).mono ?_;rintro e w1 ⟨rfl, hb⟩;rw [<- HTf.out];simp only [Uv];have hbox : w1.heap[w.heap.size]? = some (.cells #[.int .i64 0, .int .i64 0, .string ⟨#[]⟩] 23 (0, 0)) := (hb.block w.heap.size (by simp)).trans (Je (by simp));have l1 := Ja hbox;have HBox1 := hid hbox;have HB1 := hid (Jj : Below w.heap.size w w1);clear hbox hb;go_wp2_with fail
 obtain ⟨wp, hwp⟩ : ∃ W, W = (w1.alloc (.cells #[.int .i64 0, .int .i64 fa, .string fp] 23)).alloc (.cells #[] 59) := ⟨_, rfl⟩
 have hBp : Below w1.heap.size w1 wp := by rw [hwp]; exact Jj
 have hE0 : Y9 (w.heap.size + 1) wp [] (.slice (some ⟨w1.heap.size + 1, 0, none⟩) 0 0) := by rw [hwp]; exact JV (by simp) (by simp; omega)
 have lp : w1.heap.size + 1 < wp.heap.size := by rw [hwp]; simp
 rw [<- hwp];have HBp := hid (HB1.out.trans (hBp.mono HB1.out.size));have HBx := hid ((hBp.block _ l1).trans HBox1.out);have HE0 := hid hE0;clear hwp hBp hE0;refine (Jls s wp (by omega) (HVT.out.2.below HBp.out)).mono ?_;rintro e w2 ⟨P, rfl, hcut, hlen, hw2⟩
 have hpos : 0 < P.length := by
  have := congrArg List.length hcut;rw [List.length_map] at this;rw [this];exact Ja5 _ _
 obtain ⟨g, hg⟩ : ∃ g, g = wp.heap.size := ⟨_, rfl⟩
 have hrow : w2.heap[g]? = some (.cells (P.map Value.string).toArray 9 (0, 0)) := by rw [hw2, hg]; exact Je rfl
 have hB2 : Below wp.heap.size wp w2 := by rw [hw2]; exact Jj
 rw [<- hg] at lp hB2 ⊢;have HRow2 := hid hrow;have HB2 := hid (HBp.out.trans (hB2.mono (by rw [hg]; exact HBp.out.size)));have HBx2 := hid ((hB2.block _ (by have := Ja HBx.out; omega)).trans HBx.out);have HE2 := hid (HE0.out.carry (fun q hq => hB2.block q (by have := (World.ownsRow.lt HE0.out q hq).2; omega)));have HS0 := hid (LnAt.start HF.out hcut);have hPz : P.length <= 20001 := by omega
 have HI0 := hid hi;have l1g : w.heap.size + 1 < g := by omega
 clear hw2 hrow hB2 hcut hg hi;go_wp2_with fail
 go_loopw [5, 20] (fun s5 s20 wr => ∃ (i n : Nat) (L : List LineD) (A : Option Addr) (c : Nat), s20 = .int .i64 i /\ n = L.length /\ s5 = .slice A n c /\ i <= P.length /\ LnAt s P i L /\ Y9 (w.heap.size + 1) wr L (.slice A n c) /\ (∀ q, (Value.slice A n c).ownBlock = some q -> q ≠ g) /\ wr.heap[w.heap.size]? = some (.cells #[.int .i64 0, .int .i64 0, .string ⟨#[]⟩] 23 (0, 0)) /\ wr.heap[g]? = some (.cells (P.map Value.string).toArray 9 (0, 0)) /\ Below w.heap.size w wr) (fun _ s20 _ => P.length - (intOf s20).toNat)
 case atStart => exact ⟨0, 0, [], _, _, rfl, rfl, rfl, Nat.zero_le _, HS0.out, HE2.out, (fun q hq => by simp [Value.ownBlock] at hq; omega), HBx2.out, HRow2.out, HB2.out⟩
 case round =>
  obtain ⟨i, n, L, A, c, rfl, hn, rfl, hi, hA, hR, hO, hbx, hrow, hbr⟩ := hrel;have HR := hid hR;have HA := hid hA;have HN := hid hn;have HO := hid hO;have HBx := hid hbx;have HRow := hid hrow;have HBr := hid hbr;have lgr := Ja hrow;have lbr := Ja hbx;have hni : n <= i := by rw [hn]; exact hA.size
  clear hR hA hn hO hbx hrow hbr HBx2 HRow2 HB2 HE2 HS0;by_cases hlt : (i : Int) < P.length
  ·have hii : i < P.length := by omega
   have hd : decide ((i : Int) < P.length) = true := JmG hlt;have hz : (0 : Int) <= i := by omega
   obtain ⟨x, hx⟩ := Jg hii;have hcx : wr.cell? ⟨g, i, none⟩ = some (.string x) := by rw [cell_of_row _ _ _ _ _ _ HRow.out]; simp [hx]
   have hxz : x.size <= 20000 := Nat.le_trans (HA.out.small hx) hl2;have HPx := hid hx;clear hx;go_wp2_with fail
   refine (Jgf x wr).mono ?_;rintro e w3 ⟨z, rfl, hlow, hb3⟩;have HB3 := hid hb3;have HBx3 := hid ((hb3.block _ lbr).trans HBx.out);have HRow3 := hid ((hb3.block _ lgr).trans HRow.out);have HR3 := hid (HR.out.below hb3);have l3 := hb3.size;clear hb3;rcases hq : Zf x.data.toList with _ | _
   rotate_left
   ·have hzz : decide (0 <= z) = true := hlow.trans hq
    have HF2 := hid (HA.out.bad HPx.out hq);obtain ⟨a0, a1, a2, af⟩ := Qi HBx3.out;have la := Ja HBx3.out;clear hlow hq;go_wp2_with fail
    exact bodyPost_ret (v := .tuple #[.slice none 0 0, .agg #[.int .i64 3, .int .i64 ((i : Int) + 1), .string ⟨#[]⟩]]) (by simp only [results, Tryz.results49]; go_simp) rfl ⟨none, 0, by rw [HF2.out]; rfl, by rw [HF2.out]; exact World.ownsRow_nil _ _ _ _, (HBr.out.trans (HB3.out.mono HBr.out.size)).trans (Aside.below (S := fun b => b = w.heap.size) QC (Nat.le_trans HBr.out.size l3) (fun i hi => by omega))⟩
   have hzz : decide (0 <= z) = false := hlow.trans hq;have HLo := hid hq;obtain ⟨y, hy⟩ : ∃ y, y = bs (JK x.data.toList) := ⟨_, rfl⟩
   have KB := hid (JaH x w3 (by omega));rw [<- hy] at KB;have HYd := hid hy;clear hy hlow hq;go_wp2_with fail
   refine KB.out.mono ?_;rintro e wz ⟨rfl, rfl⟩;by_cases hnil : JK x.data.toList = []
   ·obtain rfl : y = ByteArray.empty := by rw [HYd.out, hnil]; rfl
    have HA2 := hid (HA.out.skip HPx.out HLo.out hnil);clear hnil;go_wp2_with fail
    go_roundw
    case rel => exact ⟨i + 1, n, L, A, c, by go_num, HN.out, rfl, by omega, HA2.out, HR3.out, HO.out, HBx3.out, HRow3.out, HBr.out.trans (HB3.out.mono HBr.out.size)⟩
    case measure => first | omega | (simp [intOf]; done) | (simp [intOf]; omega)
   have hyz : y.size = (JK x.data.toList).length := by rw [HYd.out]; exact size_mk _
   have hyl : 0 < y.size := by rw [hyz]; exact List.length_pos_iff.2 hnil
   have hyd : y.toList.isEmpty = false := by rw [ByteArray.toList_eq, HYd.out]; show (JK x.data.toList).isEmpty = false; cases hb : JK x.data.toList; exact absurd hb hnil; rfl
   have hye : (!y.toList.isEmpty) = true := by rw [hyd]; rfl
   have hyb : y.size <= 20000 := by rw [hyz]; exact Nat.le_trans (XV _) (by rw [Jp]; exact hxz)
   have hyL : y.data.toList = JK x.data.toList := by rw [HYd.out]; rfl
   have KI := hid (JaJ y w3 (by omega));rw [hyL] at KI;have htr := Jer (JK x.data.toList);rw [<- HYd.out] at htr;have hdl : Vh (JK x.data.toList) <= y.size := by rw [hyz]; unfold Vh; exact Nat.sub_le _ _
   have HA2 := hid (HA.out.add HPx.out HLo.out hnil);obtain ⟨d, hdd⟩ : ∃ d, d = Vh (JK x.data.toList) := ⟨_, rfl⟩
   rw [<- htr, <- hdd] at HA2;rw [<- hdd] at KI hdl;clear hyz hyL htr hdd hnil;have hdI : (d : Int) <= y.size := by omega
   have hd0 : (0 : Int) <= d := by omega
   go_wp2_with fail
   refine KI.out.mono ?_;rintro e wz ⟨rfl, rfl⟩;go_wp2_with (at_builtin; go_loud (refine QK (C := Jl7) rfl (.tmp 37) (.tmp 45) 54 rfl (w.heap.size + 1) 59 i0 (.agg #[.int .i64 0, .string ⟨#[]⟩, .int .i64 0]) 3 32 Tryz.underlying54 HI0.out hz0 hz1 hz2 rfl (by decide) YM Jdl JhC _ n L rfl HN.out.symm (HR3.out.below Jj) [(⟨d, y.extract d y.size, i + 1⟩ : LineD)] (some ⟨_, 0, none⟩) 1 1 _ _ rfl rfl (JhK YM _ _ rfl 59 _ rfl (by simp)) (by unfold maxLen; omega) (by omega) (by simp; omega) ?_))
   intro v' w4 hR4 hg4 ha4;obtain ⟨A4, c4, rfl⟩ := hR4.form;have HR4 := hid hR4
   have hk4 : ∀ k, k < w3.heap.size -> k = w.heap.size ∨ k = g -> w4.heap[k]? = w3.heap[k]? := fun k hk hh => (hg4.block k (by simp; omega) (fun e => by
    have h5 := World.ownsRow.lt HR3.out k e.symm;rcases hh with rfl | rfl
    ·omega
    exact HO.out _ e.symm rfl)).trans (Below.heap_alloc _ _ _ hk)
   have hb4 : Below w.heap.size w w4 := (HBr.out.trans (HB3.out.mono HBr.out.size)).trans (Below.grown ((Jj : Below w3.heap.size w3 _).mono (Nat.le_trans HBr.out.size l3)) hg4 (by simp; omega) (fun q hq => by have := (World.ownsRow.lt HR3.out q hq).1; omega))
   have hO4 : ∀ q, (Value.slice A4 (L ++ [(⟨d, y.extract d y.size, i + 1⟩ : LineD)]).length c4).ownBlock = some q -> q ≠ g := fun q hq => by
    rcases ha4 with h | h
    ·rw [h] at hq; exact HO.out q hq
    rw [h] at hq; simp at hq; omega
   have HO4 := hid hO4;have HB4 := hid hb4;have HBx4 := hid ((hk4 _ (by omega) (.inl rfl)).trans HBx3.out);have HRow4 := hid ((hk4 _ (by omega) (.inr rfl)).trans HRow3.out);have hln : (L ++ [(⟨d, y.extract d y.size, i + 1⟩ : LineD)]).length = n + 1 := by rw [List.length_append, <- HN.out]; rfl
   have HL := hid hln;clear hR4 hg4 ha4 hO4 hk4 hb4 hln;go_wp2_with fail
   go_roundw
   case rel => exact ⟨i + 1, n + 1, L ++ [⟨d, y.extract d y.size, i + 1⟩], A4, c4, by go_num, HL.out.symm, by rw [HL.out], by omega, HA2.out, by rw [<- HL.out]; exact HR4.out, by rw [<- HL.out]; exact HO4.out, HBx4.out, HRow4.out, HB4.out⟩
   case measure => first | omega | (simp [intOf]; done) | (simp [intOf]; omega)
  have hd : decide ((i : Int) < P.length) = false := JmF hlt;have HE := hid (HA.out.end' (by omega));obtain ⟨a0, a1, a2, af⟩ := Qi HBx.out;have la := Ja HBx.out;go_wp2_with fail
  exact bodyPost_ret (v := .tuple #[.slice A n c, .agg #[.int .i64 0, .int .i64 0, .string ⟨#[]⟩]]) (by simp only [results, Tryz.results49]; go_simp) rfl ⟨A, c, by rw [HE.out, HN.out]; rfl, by
   rw [HE.out];show Y9 _ _ L (.slice A L.length c)
   rw [<- HN.out]
   exact (HR.out.less (Nat.le_succ _)).carry (fun q hq => (QC : Aside (fun b => b = w.heap.size) wr _).block q (World.ownsRow.lt HR.out q hq).2 (by have := (World.ownsRow.lt HR.out q hq).1; omega)), HBr.out.trans (Aside.below (S := fun b => b = w.heap.size) QC HBr.out.size (fun i hi => by omega))⟩
end Go.Proofs.YtohcpifekcehjaaGreatDoor
