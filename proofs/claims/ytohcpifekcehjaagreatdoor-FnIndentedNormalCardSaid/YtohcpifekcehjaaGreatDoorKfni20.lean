/- Steps to FnIndentedNormal. No conditions. -/
import Derived.Test.YtohcpifekcehjaaGreatDoorKfni19
import Derived.Test.YtohcpifekcehjaaGreatDoorKfni18
import Derived.Test.YtohcpifekcehjaaGreatDoorKfni11
set_option maxHeartbeats 16000000
set_option maxRecDepth 20000
namespace Go.Proofs.YtohcpifekcehjaaGreatDoor
open Go.RowKit Go.Lib
theorem Jk3 (x : List UInt8) : Vh x <= x.length := by unfold Vh; omega
theorem JbA (L : List (List UInt8)) (k : Nat) : (textL (L.take k)).length <= (textL L).length := by
 have h := JcI (L.take k) (L.drop k);rw [List.take_append_drop] at h;omega
theorem Jgb {L : List (List UInt8)} {i : Nat} {x : List UInt8} (h : L[i]? = some x) : (textL (L.take (i + 1))).length = (textL (L.take i)).length + x.length + 1 := by
 rw [List.take_add_one, h];show (textL (L.take i ++ [x])).length = _
 rw [Jf9, List.length_append, List.length_append];rfl
theorem Je3 {d : TreeD} (h : Drawn 4 d) : (Y0 4 d).length <= 148 /\ (textL (Y0 4 d)).length <= 19044 := by
 unfold Y0;split
 ·exact ⟨(UF 4 d h.shape h.num h.word).1, h.lines⟩
 exact ⟨Nat.zero_le _, Nat.zero_le _⟩
def JjD (n : Nat) (code : List UInt8) (p : Nat) (w : World) (e : Ending) (w' : World) : Prop := ∃ s : ByteArray, e = .returned (.string s) /\ s.size <= n /\ Dr code p w w'
theorem JbZ {base n p : Nat} {code : List UInt8} {w w' : World} {L : List ByteArray} {v : Value} (h : RowS base w L n v) (hd : Dr code p w w') (hp : p < base) : RowS base w' L n v := h.carry (fun q hq => hd.block (h.lt hq).2 (by have := (h.lt hq).1; omega))
theorem Ji1 (code : List UInt8) (p : Nat) (w : World) (h : CurAt code p w) :
  Calls Tryz.prog 223 #[.pointer (some ⟨p, 0, none⟩)] w (JjD 20 code p w) := by
 have hpl := h.lt;have HA := hid (show ∀ s ∈ ([⟨#[97]⟩, ⟨#[97, 58, 32, 98]⟩, ⟨#[45, 32, 97]⟩, ⟨#[45]⟩, ⟨#[34, 97, 58, 32, 98, 34, 58, 32, 99]⟩, ⟨#[34, 97, 32, 35, 34, 32, 35, 32, 98]⟩, ⟨#[97, 35, 98]⟩, ⟨#[97, 32, 35, 98]⟩, ⟨#[35, 32, 97, 108, 108]⟩, ⟨#[32, 32, 120, 58, 32, 49]⟩, ⟨#[107, 58]⟩, ⟨#[107, 58, 32]⟩, ⟨#[34, 107, 34, 58]⟩, ⟨#[34, 107, 34, 32, 58, 32, 49]⟩, ⟨#[45, 32, 45, 32, 49]⟩, ⟨#[45, 32, 32, 97, 58, 32, 98]⟩, ⟨#[110, 117, 108, 108]⟩, ⟨#[126]⟩, ⟨#[49, 50]⟩, ⟨#[45, 53]⟩, ⟨#[53, 48, 48, 109]⟩, ⟨#[97, 32, 34, 98, 32, 35, 99]⟩, ⟨#[97, 92, 98]⟩, ⟨#[34, 97, 92, 34, 32, 35, 32, 98, 34]⟩, ⟨#[91, 93]⟩, ⟨#[107, 58, 32, 91, 93]⟩, ⟨#[39, 113, 39]⟩, ⟨#[97, 58, 98, 58, 32, 99]⟩, ⟨#[58, 32, 120]⟩, ⟨#[195, 169, 58, 32, 195, 188]⟩] : List ByteArray), s.size <= 20 by decide)
 have H := hid (Dr.refl h);clear h;go_enter Tryz.func223, Tryz.ntmps223
 go_wp2_with fail
 refine (Wi code p ([⟨#[97]⟩, ⟨#[97, 58, 32, 98]⟩, ⟨#[45, 32, 97]⟩, ⟨#[45]⟩, ⟨#[34, 97, 58, 32, 98, 34, 58, 32, 99]⟩, ⟨#[34, 97, 32, 35, 34, 32, 35, 32, 98]⟩, ⟨#[97, 35, 98]⟩, ⟨#[97, 32, 35, 98]⟩, ⟨#[35, 32, 97, 108, 108]⟩, ⟨#[32, 32, 120, 58, 32, 49]⟩, ⟨#[107, 58]⟩, ⟨#[107, 58, 32]⟩, ⟨#[34, 107, 34, 58]⟩, ⟨#[34, 107, 34, 32, 58, 32, 49]⟩, ⟨#[45, 32, 45, 32, 49]⟩, ⟨#[45, 32, 32, 97, 58, 32, 98]⟩, ⟨#[110, 117, 108, 108]⟩, ⟨#[126]⟩, ⟨#[49, 50]⟩, ⟨#[45, 53]⟩, ⟨#[53, 48, 48, 109]⟩, ⟨#[97, 32, 34, 98, 32, 35, 99]⟩, ⟨#[97, 92, 98]⟩, ⟨#[34, 97, 92, 34, 32, 35, 32, 98, 34]⟩, ⟨#[91, 93]⟩, ⟨#[107, 58, 32, 91, 93]⟩, ⟨#[39, 113, 39]⟩, ⟨#[97, 58, 98, 58, 32, 99]⟩, ⟨#[58, 32, 120]⟩, ⟨#[195, 169, 58, 32, 195, 188]⟩] : List ByteArray) _ w.heap.size (w.alloc (.cells #[.string ⟨#[97]⟩, .string ⟨#[97, 58, 32, 98]⟩, .string ⟨#[45, 32, 97]⟩, .string ⟨#[45]⟩, .string ⟨#[34, 97, 58, 32, 98, 34, 58, 32, 99]⟩, .string ⟨#[34, 97, 32, 35, 34, 32, 35, 32, 98]⟩, .string ⟨#[97, 35, 98]⟩, .string ⟨#[97, 32, 35, 98]⟩, .string ⟨#[35, 32, 97, 108, 108]⟩, .string ⟨#[32, 32, 120, 58, 32, 49]⟩, .string ⟨#[107, 58]⟩, .string ⟨#[107, 58, 32]⟩, .string ⟨#[34, 107, 34, 58]⟩, .string ⟨#[34, 107, 34, 32, 58, 32, 49]⟩, .string ⟨#[45, 32, 45, 32, 49]⟩, .string ⟨#[45, 32, 32, 97, 58, 32, 98]⟩, .string ⟨#[110, 117, 108, 108]⟩, .string ⟨#[126]⟩, .string ⟨#[49, 50]⟩, .string ⟨#[45, 53]⟩, .string ⟨#[53, 48, 48, 109]⟩, .string ⟨#[97, 32, 34, 98, 32, 35, 99]⟩, .string ⟨#[97, 92, 98]⟩, .string ⟨#[34, 97, 92, 34, 32, 35, 32, 98, 34]⟩, .string ⟨#[91, 93]⟩, .string ⟨#[107, 58, 32, 91, 93]⟩, .string ⟨#[39, 113, 39]⟩, .string ⟨#[97, 58, 98, 58, 32, 99]⟩, .string ⟨#[58, 32, 120]⟩, .string ⟨#[195, 169, 58, 32, 195, 188]⟩] 9)) (H.out.cur.below (QI (Below.refl _ _))) (Jah w ([⟨#[97]⟩, ⟨#[97, 58, 32, 98]⟩, ⟨#[45, 32, 97]⟩, ⟨#[45]⟩, ⟨#[34, 97, 58, 32, 98, 34, 58, 32, 99]⟩, ⟨#[34, 97, 32, 35, 34, 32, 35, 32, 98]⟩, ⟨#[97, 35, 98]⟩, ⟨#[97, 32, 35, 98]⟩, ⟨#[35, 32, 97, 108, 108]⟩, ⟨#[32, 32, 120, 58, 32, 49]⟩, ⟨#[107, 58]⟩, ⟨#[107, 58, 32]⟩, ⟨#[34, 107, 34, 58]⟩, ⟨#[34, 107, 34, 32, 58, 32, 49]⟩, ⟨#[45, 32, 45, 32, 49]⟩, ⟨#[45, 32, 32, 97, 58, 32, 98]⟩, ⟨#[110, 117, 108, 108]⟩, ⟨#[126]⟩, ⟨#[49, 50]⟩, ⟨#[45, 53]⟩, ⟨#[53, 48, 48, 109]⟩, ⟨#[97, 32, 34, 98, 32, 35, 99]⟩, ⟨#[97, 92, 98]⟩, ⟨#[34, 97, 92, 34, 32, 35, 32, 98, 34]⟩, ⟨#[91, 93]⟩, ⟨#[107, 58, 32, 91, 93]⟩, ⟨#[39, 113, 39]⟩, ⟨#[97, 58, 98, 58, 32, 99]⟩, ⟨#[58, 32, 120]⟩, ⟨#[195, 169, 58, 32, 195, 188]⟩] : List ByteArray) (fun s hs => Nat.le_trans (HA.out s hs) (by decide)) (by decide) 9 _ rfl) (by have := H.out.cur.lt; omega) (by decide) (by decide)).mono ?_
 rintro e w1 ⟨s, rfl, hs, hd⟩;have HD := hid (Dr.cut hd);have Hs := hid (HA.out s hs);clear hd hs;go_wp2_with fail
 go_ret
 exact ⟨s, rfl, Hs.out, HD.out⟩
theorem JcJ (code : List UInt8) (p : Nat) (w : World) (h : CurAt code p w) :
  Calls Tryz.prog 167 #[.pointer (some ⟨p, 0, none⟩)] w (JjD 40 code p w) := by
 go_enter Tryz.func167, Tryz.ntmps167
 go_wp2_with fail
 refine (Ji1 code p _ h).mono ?_;rintro e w1 ⟨s, rfl, hs, hd1⟩;have H1 := hid hd1;clear h hd1;go_wp2_with fail
 refine (JC code p 6 _ H1.out.cur (by omega)).mono ?_;rintro e w2 ⟨x, rfl, hx0, hx1, -, hd2⟩;have H2 := hid (H1.out.trans hd2);clear hx1 hd2;have hx : x = 0 ∨ x = 1 ∨ x = 2 ∨ 3 <= x := by omega
 rcases hx with rfl | rfl | rfl | hx
 ·go_wp2_with fail
  go_ret
  exact ⟨_, rfl, by rw [ByteArray.size_append, ByteArray.size_append]; show 2 + _ + 2 <= _; omega, H2.out⟩
 ·go_wp2_with fail
  go_ret
  exact ⟨_, rfl, by rw [ByteArray.size_append]; show _ + 7 <= _; omega, H2.out⟩
 ·go_wp2_with fail
  refine (YT code p _ H2.out.cur).mono ?_;rintro e w3 ⟨t, rfl, ht, hd3⟩;have H3 := hid (H2.out.trans hd3);have hts := ht.2;clear ht hd3;go_wp2_with fail
  go_ret
  exact ⟨_, rfl, by omega, H3.out⟩
 have f0 : (x == 0) = false := JmH (by omega);have f1 : (x == 1) = false := JmH (by omega);have f2 : (x == 2) = false := JmH (by omega);go_wp2_with fail
 go_ret
 exact ⟨_, rfl, by omega, H2.out⟩
theorem Jiq (code : List UInt8) (p : Nat) (w : World) (h : CurAt code p w) :
  Calls Tryz.prog 168 #[.pointer (some ⟨p, 0, none⟩)] w (JjD 400 code p w) := by
 have H := hid (Dr.refl h);have hpl := h.lt;clear h;go_enter Tryz.func168, Tryz.ntmps168
 go_wp2_with fail
 go_loopw [3, 4] (fun s1 s2 wr => ∃ (s : ByteArray) (i : Nat), s1 = .string s /\ s2 = .int .i64 i /\ i <= 6 /\ s.size <= 50 * i /\ Dr code p w wr) (fun _ s2 _ => 7 - (intOf s2).toNat)
 case atStart => exact ⟨_, 0, rfl, rfl, by omega, Nat.le_refl _, H.out⟩
 case round =>
  obtain ⟨s, i, rfl, rfl, hi, hs, hr⟩ := hrel;have HR := hid hr;clear hr;have hs2 : s.size <= 600 := by omega
  go_wp2_with fail
  refine (JC code p 7 _ HR.out.cur (by omega)).mono ?_;rintro e w3 ⟨x, rfl, hx0, hx1, -, hd3⟩;have hx2 := hx1 (by omega);have H3 := hid (HR.out.trans hd3);clear hx1 hd3;by_cases hlt : (i : Int) < x
  ·have hltd : decide ((i : Int) < x) = true := JmG hlt
   go_wp2_with fail
   refine (JC code p 3 _ H3.out.cur (by omega)).mono ?_;rintro e w4 ⟨y, rfl, hy0, hy1, -, hd4⟩;obtain ⟨k, rfl⟩ : ∃ k : Nat, y = k := ⟨y.toNat, by omega⟩
   have hy2 := hy1 (by omega);have H4 := hid (H3.out.trans hd4);have K1 := hid (Jai (2 * k) 32 w4 (by omega));have e2 : ((32 : UInt8).toNat : Int) = 32 := rfl;rw [e2] at K1;clear hy1 hd4 e2;go_wp2_with fail
   rw [show (2 : Int) * (k : Int) = ((2 * k : Nat) : Int) by omega];refine K1.out.mono ?_;rintro e w5 ⟨t, rfl, ht, hb5⟩;have H5 := hid (H4.out.step hb5);have ht2 : t.size <= 4 := by omega
   clear hb5 K1 ht;go_wp2_with fail
   refine (JcJ code p _ H5.out.cur).mono ?_;rintro e w6 ⟨u, rfl, hu, hd6⟩;have H6 := hid (H5.out.trans hd6);clear hd6;go_wp2_with fail
   go_roundw
   case rel => exact ⟨_, i + 1, rfl, by go_num, by omega, (by simp only [ByteArray.size_append]; show s.size + t.size + u.size + 1 <= _; omega), H6.out⟩
   case measure => first | omega | (simp [intOf]; omega)
  have hltd : decide ((i : Int) < x) = false := JmF hlt;go_wp2_with fail
  go_ret
  exact ⟨_, rfl, by omega, H3.out⟩
theorem Jg4 (code : List UInt8) (p : Nat) (d : TreeD) (cs : List Value) (w : World) (lo : Nat) (h : CurAt code p w) (hC : C_Tree 4 lo w.heap.size w d cs) (hD : Drawn 4 d) :
  Calls Tryz.prog 165 #[.pointer (some ⟨p, 0, none⟩), .agg cs.toArray] w (JjD 45000 code p w) := by
 have H := hid (Dr.refl h);have hpl := h.lt;have HLn := hid (fun (W : World) (hb : Below w.heap.size w W) => UJ 4 d cs W lo (hC.now hb) (Nat.le_trans (hD.le (Nat.le_refl _)) (by decide)));obtain ⟨hn, ht⟩ := Je3 hD;obtain ⟨A4, c4, A5, c5, rfl⟩ := C_Tree.open hC;obtain ⟨L, hL⟩ : ∃ L, L = Y0 4 d := ⟨_, rfl⟩
 rw [<- hL] at hn ht HLn;clear h hL hC hD;go_enter Tryz.func165, Tryz.ntmps165
 go_wp2_with fail
 refine (HLn.out _ Jj).mono ?_;rintro e w1 ⟨A, c, rfl, hr, hb1⟩;have HR := hid (hr.less (base' := w.heap.size) (by simp));have hB1 : Below w.heap.size w w1 := Below.trans Jj (hb1.mono (by simp));have hs1 := hB1.size;have H1 := hid (H.out.step hB1);clear hr hb1 hB1;go_wp2_with fail
 refine (YL code p 3 _ H1.out.cur (by omega)).mono ?_;rintro e w2 ⟨wide, rfl, hd2⟩;have H2 := hid (H1.out.trans hd2);have HR2 := hid (JbZ HR.out hd2 hpl);have hs2 := hd2.size;clear hd2;go_wp2_with fail
 go_loopw [7, 8] (fun s1 s2 wr => ∃ (s : ByteArray) (i : Nat), s1 = .string s /\ s2 = .int .i64 i /\ i <= L.length /\ s.size <= 2 * (textL (L.take i)).length + 20 * i /\ RowS w.heap.size wr (Q5 L) L.length (.slice A L.length c) /\ Dr code p w wr) (fun _ s2 _ => L.length - (intOf s2).toNat)
 case atStart => exact ⟨_, 0, rfl, rfl, Nat.zero_le _, Nat.zero_le _, HR2.out, H2.out⟩
 case round =>
  obtain ⟨s, i, rfl, rfl, hi, hs, hrow, hr⟩ := hrel;have H3 := hid hr;have HW := hid hrow;have hrs := hr.size;have htk := JbA L i;have hsz : s.size <= 60000 := by omega
  clear hr hrow;by_cases hlt : i < L.length
  ·obtain ⟨q, rfl, hq1, hq2, -, hq4⟩ := HW.out.open (by omega)
   obtain ⟨x, hx⟩ := Jg hlt;have hc0 := hq4 i (bs x) (Xc hx);have hnx := Jgb hx;have htn := JbA L (i + 1);have hbz : (bs x).size = x.length := size_mk _;have hbl : (bs x).data.toList = x := by unfold bs; simp
   have hxi := Jk3 x;have hk0 : (0 : Int) <= i := by omega
   have hk1 : (i : Int) < L.length := by omega
   have hltb : decide ((i : Int) < L.length) = true := JmG (by omega);have HI := hid (fun (W : World) => Vz (bs x) W (by omega));rw [hbl] at HI;obtain ⟨y, hy⟩ : ∃ y, y = bs x := ⟨_, rfl⟩
   rw [<- hy] at hc0 hbz HI;clear hq4 hx hbl hy;cases wide
   ·have hty : y.size <= 2 * x.length := by omega
    go_wp2_with fail
    refine (JC code p 8 _ H3.out.cur (by omega)).mono ?_;rintro e w6 ⟨z, rfl, hz0, hz1, -, hd6⟩;have H6 := hid (H3.out.trans hd6);have HW6 := hid (JbZ HW.out hd6 hpl);clear hz1 hd6;have hz : z = 0 ∨ z = 1 ∨ z = 2 ∨ z = 3 ∨ 4 <= z := by omega
    rcases hz with rfl | rfl | rfl | rfl | hz
    ·go_wp2_with fail
     go_roundw
     case rel => exact ⟨_, i + 1, rfl, by go_num, by omega, (by simp only [ByteArray.size_append]; show s.size + (y.size + 2) + 1 <= _; omega), HW6.out, H6.out⟩
     case measure => first | omega | (simp [intOf]; omega)
    ·go_wp2_with fail
     go_roundw
     case rel => exact ⟨_, i + 1, rfl, by go_num, by omega, (by simp only [ByteArray.size_append]; show s.size + (y.size + 7) + 1 <= _; omega), HW6.out, H6.out⟩
     case measure => first | omega | (simp [intOf]; omega)
    ·go_wp2_with fail
     go_roundw
     case rel => exact ⟨_, i + 1, rfl, by go_num, by omega, (by simp only [ByteArray.size_append]; show s.size + 1 + (y.size) + 1 <= _; omega), HW6.out, H6.out⟩
     case measure => first | omega | (simp [intOf]; omega)
    ·go_wp2_with fail
     go_roundw
     case rel => exact ⟨_, i + 1, rfl, by go_num, by omega, (by simp only [ByteArray.size_append]; show s.size + 14 + (y.size) + 1 <= _; omega), HW6.out, H6.out⟩
     case measure => first | omega | (simp [intOf]; omega)
    have f0 : (z == 0) = false := JmH (by omega);have f1 : (z == 1) = false := JmH (by omega);have f2 : (z == 2) = false := JmH (by omega);have f3 : (z == 3) = false := JmH (by omega);go_wp2_with fail
    go_roundw
    case rel => exact ⟨_, i + 1, rfl, by go_num, by omega, (by simp only [ByteArray.size_append]; show s.size + (y.size) + 1 <= _; omega), HW6.out, H6.out⟩
    case measure => first | omega | (simp [intOf]; omega)
   go_wp2_with fail
   refine (HI.out _).mono ?_;rintro e w4 ⟨rfl, rfl⟩;have K1 := hid (Jai (Vh x) 32 wr (by omega));have e2 : ((32 : UInt8).toNat : Int) = 32 := rfl;rw [e2] at K1;clear e2;go_wp2_with fail
   refine K1.out.mono ?_;rintro e w5 ⟨t, rfl, ht, hb5⟩;have H5 := hid (H3.out.step hb5);have HW5 := hid (HW.out.below hb5);have hs5 := hb5.size;have hty : (t ++ y).size <= 2 * x.length := by rw [ByteArray.size_append]; omega
   clear hb5 K1;go_wp2_with fail
   refine (JC code p 8 _ H5.out.cur (by omega)).mono ?_;rintro e w6 ⟨z, rfl, hz0, hz1, -, hd6⟩;have H6 := hid (H5.out.trans hd6);have HW6 := hid (JbZ HW5.out hd6 hpl);clear hz1 hd6;have htys := ByteArray.size_append (a := t) (b := y);have hz : z = 0 ∨ z = 1 ∨ z = 2 ∨ z = 3 ∨ 4 <= z := by omega
   rcases hz with rfl | rfl | rfl | rfl | hz
   ·go_wp2_with fail
    go_roundw
    case rel => exact ⟨_, i + 1, rfl, by go_num, by omega, (by simp only [ByteArray.size_append]; show s.size + (t.size + y.size + 2) + 1 <= _; omega), HW6.out, H6.out⟩
    case measure => first | omega | (simp [intOf]; omega)
   ·go_wp2_with fail
    go_roundw
    case rel => exact ⟨_, i + 1, rfl, by go_num, by omega, (by simp only [ByteArray.size_append]; show s.size + (t.size + y.size + 7) + 1 <= _; omega), HW6.out, H6.out⟩
    case measure => first | omega | (simp [intOf]; omega)
   ·go_wp2_with fail
    go_roundw
    case rel => exact ⟨_, i + 1, rfl, by go_num, by omega, (by simp only [ByteArray.size_append]; show s.size + 1 + (t.size + y.size) + 1 <= _; omega), HW6.out, H6.out⟩
    case measure => first | omega | (simp [intOf]; omega)
   ·go_wp2_with fail
    go_roundw
    case rel => exact ⟨_, i + 1, rfl, by go_num, by omega, (by simp only [ByteArray.size_append]; show s.size + 14 + (t.size + y.size) + 1 <= _; omega), HW6.out, H6.out⟩
    case measure => first | omega | (simp [intOf]; omega)
   have f0 : (z == 0) = false := JmH (by omega);have f1 : (z == 1) = false := JmH (by omega);have f2 : (z == 2) = false := JmH (by omega);have f3 : (z == 3) = false := JmH (by omega);go_wp2_with fail
   go_roundw
   case rel => exact ⟨_, i + 1, rfl, by go_num, by omega, (by simp only [ByteArray.size_append]; show s.size + (t.size + y.size) + 1 <= _; omega), HW6.out, H6.out⟩
   case measure => first | omega | (simp [intOf]; omega)
  obtain rfl : i = L.length := by omega
  have hltb : decide ((L.length : Int) < L.length) = false := JmF (by omega);rw [List.take_of_length_le (Nat.le_refl _)] at hs;go_wp2_with fail
  go_ret
  exact ⟨_, rfl, by omega, H3.out⟩
theorem JjG (code : List UInt8) (p : Nat) (w : World) (h : CurAt code p w) :
  Calls Tryz.prog 90 #[.pointer (some ⟨p, 0, none⟩)] w (JjD 46000 code p w) := by
 have h4 := Je5 3 (by decide);rw [show ((3 + 1 : Nat) : Int) = 4 from rfl] at h4;have H4 := hid h4;have HA := hid (show ∀ s ∈ ([⟨#[]⟩, ⟨#[10, 10]⟩, ⟨#[35, 32, 97, 10]⟩, ⟨#[97, 58, 32, 49, 10, 97, 58, 32, 50, 10]⟩, ⟨#[97, 58, 10, 32, 32, 98, 58, 32, 49, 10, 32, 99, 58, 32, 50, 10]⟩, ⟨#[45, 32, 97, 10, 45, 10, 32, 32, 98, 58, 32, 49, 10, 45, 32, 45, 32, 99, 10, 32, 32, 45, 32, 100, 10]⟩, ⟨#[97, 58, 10, 98, 58, 10]⟩, ⟨#[32, 97, 10]⟩, ⟨#[97, 58, 32, 98, 58, 32, 99, 10]⟩, ⟨#[45, 32, 97, 10, 32, 98, 10]⟩, ⟨#[97, 10, 98, 10]⟩, ⟨#[45, 32, 45, 32, 45, 32, 45, 32, 45, 32, 45, 32, 45, 32, 49, 10]⟩, ⟨#[45, 32, 45, 32, 45, 32, 45, 32, 45, 32, 45, 32, 45, 32, 45, 32, 49, 10]⟩, ⟨#[45, 32, 97, 58, 32, 49, 10, 32, 32, 98, 58, 10, 32, 32, 32, 32, 45, 32, 120, 10]⟩, ⟨#[97, 58, 32, 45, 10]⟩, ⟨#[45, 10, 45, 10]⟩, ⟨#[97, 58, 32, 91, 49, 93, 10]⟩, ⟨#[34, 97, 34, 58, 32, 34, 98, 34, 10]⟩] : List ByteArray), s.size <= 30 by decide)
 have hpl := h.lt;have H := hid h;clear h4 h;go_enter Tryz.func90, Tryz.ntmps90
 go_wp2_with fail
 refine (H4.out code p _ H.out).mono ?_;rintro e w1 ⟨d, cs, rfl, hD, hO, hd⟩;have HC := hid (hO.toC (lo := w.heap.size) (hi := w1.heap.size) (fun b hb => hb));have HD := hid hD;have H1 := hid hd;clear hD hO hd;go_wp2_with fail
 refine (Jg4 code p d cs _ w.heap.size H1.out.cur HC.out HD.out).mono ?_;rintro e w2 ⟨s, rfl, hs, hd2⟩;have H2 := hid (H1.out.trans hd2);clear hd2;go_wp2_with fail
 refine (JC code p 8 _ H2.out.cur (by omega)).mono ?_;rintro e w3 ⟨x, rfl, hx0, hx1, -, hd3⟩;have H3 := hid (H2.out.trans hd3);clear hx1 hd3;have hx : x = 0 ∨ x = 1 ∨ x = 2 ∨ x = 3 ∨ 4 <= x := by omega
 rcases hx with rfl | rfl | rfl | rfl | hx
 ·go_wp2_with fail
  refine (JeH code p s _ H3.out.cur (by omega)).mono ?_;rintro e w4 ⟨t, rfl, ht, hd4⟩;have H4 := hid (H3.out.trans hd4);clear hd4;go_wp2_with fail
  go_ret
  exact ⟨t, rfl, by omega, H4.out⟩
 ·go_wp2_with fail
  refine (JcJ code p _ H3.out.cur).mono ?_;rintro e w4 ⟨t, rfl, ht, hd4⟩;have H4 := hid (H3.out.trans hd4);clear hd4;go_wp2_with fail
  go_ret
  exact ⟨_, rfl, by rw [ByteArray.size_append, ByteArray.size_append]; show _ + _ + 1 <= _; omega, H4.out⟩
 focus
  go_wp2_with fail
  refine (Jiq code p _ H3.out.cur).mono ?_;rintro e w4 ⟨t, rfl, ht, hd4⟩;have H4 := hid (H3.out.trans hd4);clear hd4
 rotate_left
 focus
  go_wp2_with fail
  refine (Wi code p ([⟨#[]⟩, ⟨#[10, 10]⟩, ⟨#[35, 32, 97, 10]⟩, ⟨#[97, 58, 32, 49, 10, 97, 58, 32, 50, 10]⟩, ⟨#[97, 58, 10, 32, 32, 98, 58, 32, 49, 10, 32, 99, 58, 32, 50, 10]⟩, ⟨#[45, 32, 97, 10, 45, 10, 32, 32, 98, 58, 32, 49, 10, 45, 32, 45, 32, 99, 10, 32, 32, 45, 32, 100, 10]⟩, ⟨#[97, 58, 10, 98, 58, 10]⟩, ⟨#[32, 97, 10]⟩, ⟨#[97, 58, 32, 98, 58, 32, 99, 10]⟩, ⟨#[45, 32, 97, 10, 32, 98, 10]⟩, ⟨#[97, 10, 98, 10]⟩, ⟨#[45, 32, 45, 32, 45, 32, 45, 32, 45, 32, 45, 32, 45, 32, 49, 10]⟩, ⟨#[45, 32, 45, 32, 45, 32, 45, 32, 45, 32, 45, 32, 45, 32, 45, 32, 49, 10]⟩, ⟨#[45, 32, 97, 58, 32, 49, 10, 32, 32, 98, 58, 10, 32, 32, 32, 32, 45, 32, 120, 10]⟩, ⟨#[97, 58, 32, 45, 10]⟩, ⟨#[45, 10, 45, 10]⟩, ⟨#[97, 58, 32, 91, 49, 93, 10]⟩, ⟨#[34, 97, 34, 58, 32, 34, 98, 34, 10]⟩] : List ByteArray) _ w3.heap.size (w3.alloc (.cells #[.string ⟨#[]⟩, .string ⟨#[10, 10]⟩, .string ⟨#[35, 32, 97, 10]⟩, .string ⟨#[97, 58, 32, 49, 10, 97, 58, 32, 50, 10]⟩, .string ⟨#[97, 58, 10, 32, 32, 98, 58, 32, 49, 10, 32, 99, 58, 32, 50, 10]⟩, .string ⟨#[45, 32, 97, 10, 45, 10, 32, 32, 98, 58, 32, 49, 10, 45, 32, 45, 32, 99, 10, 32, 32, 45, 32, 100, 10]⟩, .string ⟨#[97, 58, 10, 98, 58, 10]⟩, .string ⟨#[32, 97, 10]⟩, .string ⟨#[97, 58, 32, 98, 58, 32, 99, 10]⟩, .string ⟨#[45, 32, 97, 10, 32, 98, 10]⟩, .string ⟨#[97, 10, 98, 10]⟩, .string ⟨#[45, 32, 45, 32, 45, 32, 45, 32, 45, 32, 45, 32, 45, 32, 49, 10]⟩, .string ⟨#[45, 32, 45, 32, 45, 32, 45, 32, 45, 32, 45, 32, 45, 32, 45, 32, 49, 10]⟩, .string ⟨#[45, 32, 97, 58, 32, 49, 10, 32, 32, 98, 58, 10, 32, 32, 32, 32, 45, 32, 120, 10]⟩, .string ⟨#[97, 58, 32, 45, 10]⟩, .string ⟨#[45, 10, 45, 10]⟩, .string ⟨#[97, 58, 32, 91, 49, 93, 10]⟩, .string ⟨#[34, 97, 34, 58, 32, 34, 98, 34, 10]⟩] 9)) (H3.out.cur.below (QI (Below.refl _ _))) (Jah w3 ([⟨#[]⟩, ⟨#[10, 10]⟩, ⟨#[35, 32, 97, 10]⟩, ⟨#[97, 58, 32, 49, 10, 97, 58, 32, 50, 10]⟩, ⟨#[97, 58, 10, 32, 32, 98, 58, 32, 49, 10, 32, 99, 58, 32, 50, 10]⟩, ⟨#[45, 32, 97, 10, 45, 10, 32, 32, 98, 58, 32, 49, 10, 45, 32, 45, 32, 99, 10, 32, 32, 45, 32, 100, 10]⟩, ⟨#[97, 58, 10, 98, 58, 10]⟩, ⟨#[32, 97, 10]⟩, ⟨#[97, 58, 32, 98, 58, 32, 99, 10]⟩, ⟨#[45, 32, 97, 10, 32, 98, 10]⟩, ⟨#[97, 10, 98, 10]⟩, ⟨#[45, 32, 45, 32, 45, 32, 45, 32, 45, 32, 45, 32, 45, 32, 49, 10]⟩, ⟨#[45, 32, 45, 32, 45, 32, 45, 32, 45, 32, 45, 32, 45, 32, 45, 32, 49, 10]⟩, ⟨#[45, 32, 97, 58, 32, 49, 10, 32, 32, 98, 58, 10, 32, 32, 32, 32, 45, 32, 120, 10]⟩, ⟨#[97, 58, 32, 45, 10]⟩, ⟨#[45, 10, 45, 10]⟩, ⟨#[97, 58, 32, 91, 49, 93, 10]⟩, ⟨#[34, 97, 34, 58, 32, 34, 98, 34, 10]⟩] : List ByteArray) (fun s hs => Nat.le_trans (HA.out s hs) (by decide)) (by decide) 9 _ rfl) (by have := H3.out.cur.lt; omega) (by decide) (by decide)).mono ?_
  rintro e w4 ⟨t, rfl, ht, hd4⟩;have ht2 := HA.out t ht;have H4 := hid (Dr.trans H3.out hd4.cut);clear hd4 ht
 rotate_left
 ·have f0 : (x == 0) = false := JmH (by omega)
  have f1 : (x == 1) = false := JmH (by omega);have f2 : (x == 2) = false := JmH (by omega);have f3 : (x == 3) = false := JmH (by omega);go_wp2_with fail
  go_ret
  exact ⟨_, rfl, by omega, H3.out⟩
 all_goals
  go_wp2_with fail
  go_ret
  exact ⟨_, rfl, by omega, H4.out⟩
theorem Ji4 (code : List UInt8) (v : Value) (lo : Nat) (w : World) (hs : SlOf Z9 1 lo w.heap.size w code v) (hn : code.length <= 1048576) :
  Calls Tryz.prog 48 #[v] w fun e w' => ∃ s : ByteArray, e = .returned (.string s) /\ s.size <= 46000 /\ Below w.heap.size w w' := by
 have Hs := hid hs;obtain ⟨A, c, rfl, -⟩ := hs;go_enter Tryz.func48, Tryz.ntmps48
 go_wp2_with fail
 refine (JjV code _ lo _ Hs.out hn).mono ?_;rintro e w1 ⟨p, rfl, hp, hc, hb⟩;have HB := hid hb;have H0 := hid hc;have fin : ∀ (x : World), Dr code p w1 x -> Below w.heap.size w x := fun x hd => hb.trans (hd.below hb.size hp)
 have Hfin := hid fin;clear hb hc fin;go_wp2_with fail
 refine (YL code p 20 _ H0.out (by omega)).mono ?_;rintro e w2 ⟨q, rfl, hd2⟩;have H2 := hid hd2;clear hd2;cases q
 ·go_wp2_with fail
  refine (YL code p 20 _ H2.out.cur (by omega)).mono ?_;rintro e w3 ⟨q, rfl, hd3⟩;have H3 := hid (H2.out.trans hd3);clear hd3;cases q
  ·go_wp2_with fail
   refine (JjG code p _ H3.out.cur).mono ?_;rintro e w4 ⟨s, rfl, hs, hd4⟩;have H4 := hid (H3.out.trans hd4);clear hd4;go_wp2_with fail
   go_ret
   exact ⟨s, rfl, hs, Hfin.out _ H4.out⟩
  go_wp2_with fail
  refine (JC code p 2 _ H3.out.cur (by omega)).mono ?_;rintro e w4 ⟨x, rfl, hx0, hx1, -, hd4⟩;obtain ⟨k, rfl⟩ : ∃ k : Nat, x = k := ⟨x.toNat, by omega⟩
  have hx2 := hx1 (by omega);have H4 := hid (H3.out.trans hd4);have K1 := hid (Jai (400 + k) 97 w4 (by omega));have e2 : ((97 : UInt8).toNat : Int) = 97 := rfl;rw [e2] at K1;clear hx1 hx0 hd4 e2;go_wp2_with fail
  rw [show (400 : Int) + (k : Int) = ((400 + k : Nat) : Int) by omega];refine K1.out.mono ?_;rintro e w5 ⟨s, rfl, hs, hb5⟩;have H5 := hid (H4.out.step hb5);have hs2 : s.size <= 402 := by omega
  clear hb5 K1;go_wp2_with fail
  go_ret
  exact ⟨_, rfl, by simp only [ByteArray.size_append]; show 1 + s.size + 5 <= _; omega, Hfin.out _ H5.out⟩
 go_wp2_with fail
 go_loopw [4, 5] (fun s4 s5 wr => ∃ (s : ByteArray) (i : Nat), s4 = .string s /\ s5 = .int .i64 i /\ i <= 300 /\ s.size <= 2 * i /\ Dr code p w1 wr) (fun _ s5 _ => 301 - (intOf s5).toNat)
 case atStart => exact ⟨_, 0, rfl, rfl, by omega, Nat.le_refl _, H2.out⟩
 case round =>
  obtain ⟨s, i, rfl, rfl, hi, hs, hr⟩ := hrel;have HR := hid hr;clear hr;have hs2 : s.size <= 602 := by omega
  go_wp2_with fail
  refine (JC code p 3 _ HR.out.cur (by omega)).mono ?_;rintro e w3 ⟨x, rfl, hx0, hx1, -, hd3⟩;have hx2 := hx1 (by omega);have H3 := hid (HR.out.trans hd3);clear hx1 hd3;by_cases hlt : (i : Int) < 298 + x
  ·have hltd : decide ((i : Int) < 298 + x) = true := JmG hlt
   go_wp2_with fail
   go_roundw
   case rel => exact ⟨_, i + 1, rfl, by go_num, by omega, (by rw [ByteArray.size_append]; show s.size + 2 <= _; omega), H3.out⟩
   case measure => first | omega | (simp [intOf]; omega)
  have hltd : decide ((i : Int) < 298 + x) = false := JmF hlt;go_wp2_with fail
  go_ret
  exact ⟨_, rfl, by omega, Hfin.out _ H3.out⟩
theorem WP (code : List UInt8) (v : Value) (lo : Nat) (w : World) (hs : SlOf Z9 1 lo w.heap.size w code v) (hn : code.length <= 1048576) :
  Calls Tryz.prog 17 #[v] w fun e w' => ∃ s : ByteArray, e = .returned (.string s) /\ s.size <= 46000 /\ Below w.heap.size w w' := by
 have Hs := hid hs;obtain ⟨A, c, rfl, -⟩ := hs;go_enter Tryz.func17, Tryz.ntmps17
 go_wp2_with fail
 refine (Ji4 code _ lo _ Hs.out hn).mono ?_;rintro e w1 ⟨s, rfl, hs, hb⟩;have HB := hid hb;clear hb;go_wp2_with fail
 go_ret
 exact ⟨s, rfl, hs, HB.out⟩
structure IB (s n : ByteArray) (fc fa : Int) (fp : ByteArray) (d : TreeD) (ga gb : Int) (gp : ByteArray) (e : TreeD) : Prop where
 read : JD s = (⟨fc, fa, fp⟩, d)
 norm : inN s = (n, ⟨fc, fa, fp⟩)
 eq : Ze 10 d d = true
 size : n.size <= 20000
 again : JD n = (⟨ga, gb, gp⟩, e)
 good : fc = 0 -> Uu 10 d = true /\ ((n.toList == []) = true ∨ ((n.toList == []) = false /\ ga = 0 /\ e = d))
 bad : ¬ fc = 0 -> n = ⟨#[]⟩ /\ d = VF
theorem JiX (n : Nat) (d : TreeD) : (Uc n d).size <= 20000 := by
 unfold Uc;split
 ·split
  ·exact Nat.zero_le _
  rename_i h
  show (bs _).size <= _
  rw [show (bs (textL (Jt n d))).size = (textL (Jt n d)).length from size_mk _];omega
 exact Nat.zero_le _
theorem IB.ex (s : ByteArray) : ∃ n fc fa fp d ga gb gp e, IB s n fc fa fp d ga gb gp e := by
 by_cases hc : (JD s).1.code = 0
 ·have hf := Jca s hc
  obtain ⟨hok, hnum⟩ := Jc5 hc;have hn : inN s = (Uc 10 (JD s).2, Jv) := if_pos hc;obtain ⟨d, hd⟩ : ∃ d, d = (JD s).2 := ⟨_, rfl⟩
  rw [<- hd] at hok hnum hn;refine ⟨Uc 10 d, 0, 0, ⟨#[]⟩, d, (JD (Uc 10 d)).1.code, (JD (Uc 10 d)).1.at', (JD (Uc 10 d)).1.path, (JD (Uc 10 d)).2, Prod.ext hf hd.symm, hn, JcY 10 _ (V8 hok).2, JiX _ _, rfl, fun _ => ⟨hok, ?_⟩, fun h => absurd rfl h⟩;rcases hq : ((Uc 10 d).toList == []) with _ | _
  ·right
   have e : Uc 10 d = bs (textL (Jt 10 d)) /\ (textL (Jt 10 d)).length <= 20000 := by
    unfold Uc at hq ⊢;rw [if_pos hok] at hq ⊢;by_cases hl : 20000 < (textL (Jt 10 d)).length
    ·rw [if_pos hl] at hq
     have h0 : ((⟨#[]⟩ : ByteArray).toList == []) = true := by kernel_rfl
     rw [h0] at hq;cases hq
    rw [if_neg hl];exact ⟨rfl, by omega⟩
   have hr := JeI hok hnum e.2;rw [<- e.1] at hr;rw [hr];exact ⟨rfl, rfl, rfl⟩
  exact .inl rfl
 have ht := Jas s hc;have hn : inN s = (⟨#[]⟩, (JD s).1) := if_neg hc;refine ⟨⟨#[]⟩, (JD s).1.code, (JD s).1.at', (JD s).1.path, VF, 4, 1, ⟨#[]⟩, Xy, Prod.ext rfl ht, hn, ?_, Nat.zero_le _, JeG, fun h => absurd h hc, fun _ => ⟨rfl, rfl⟩⟩;rw [ZO, Xv (eq := U8) (fun x hx => by cases hx), Xv (eq := Ze 9) (fun x hx => by cases hx)];simp
theorem Jk4 (W : World) : C_Tree 10 0 W.heap.size W VF [.int .i64 0, .bool false, .int .i64 0, .string ⟨#[]⟩, .slice none 0 0, .slice none 0 0] :=
 (Qr (S := fun x => x < W.heap.size) (by unfold QA; decide) (by unfold QA; decide) (by decide)).toC (fun _ hb => ⟨Nat.zero_le _, hb⟩)
structure FourN (w : World) : Prop where
 four : Four w
 max : MaxL w
theorem FourN.below {w w' : World} (h : FourN w) (hb : Below w.heap.size w w') : FourN w' := ⟨h.four.below hb, h.max.below hb⟩
theorem FourN.readI {C0 : World} (hC : FourN C0) {s : ByteArray} {fc fa : Int} {fp : ByteArray} {d : TreeD} (b : JD s = (⟨fc, fa, fp⟩, d)) (hs : s.size <= 1048576) (W : World) (h : Below C0.heap.size C0 W) : Calls Tryz.prog 18 #[.string s] W (ReadE (⟨fc, fa, fp⟩, d) W) := by
 have hC := hC.below h;have := Vt s W hs hC.four.cas hC.four.tab hC.four.err hC.max;rw [b] at this;exact this
theorem Jka {s : ByteArray} {fc fa : Int} {fp : ByteArray} {d : TreeD} (b : JD s = (⟨fc, fa, fp⟩, d)) (hs : s.size <= 1048576) (W : World) : Calls Tryz.prog 19 #[.string s] W (ReadE (⟨fc, fa, fp⟩, d) W) := by
 have := Ws s W hs;rw [b] at this;exact this
theorem FourN.norm {C0 : World} (hC : FourN C0) {s n : ByteArray} {fc fa : Int} {fp : ByteArray} (b : inN s = (n, ⟨fc, fa, fp⟩)) (hs : s.size <= 1048576) (W : World) (h : Below C0.heap.size C0 W) : Calls Tryz.prog 15 #[.string s] W fun e w' => e = .returned (.tuple #[.string n, .agg #[.int .i64 fc, .int .i64 fa, .string fp]]) /\ Below W.heap.size W w' := by
 have hC := hC.below h;have := Uw s W hs hC.four.pow hC.four.err hC.four.tab hC.four.cas hC.max;rw [b] at this;exact this
theorem FourN.okS {C0 : World} (hC : FourN C0) {s : ByteArray} {fc fa : Int} {fp : ByteArray} {d : TreeD} {q : Bool} (b : JD s = (⟨fc, fa, fp⟩, d)) (hq : (fc == 0) = q) (hs : s.size <= 1048576) (W : World) (h : Below C0.heap.size C0 W) : Calls Tryz.prog 21 #[.string s] W fun e w' => e = .returned (.bool q) /\ Below W.heap.size W w' := by
 have hC := hC.below h;have := Xn s W hs hC.four.cas hC.four.tab hC.four.err hC.max;have e : okI s = q := by unfold okI; rw [b]; exact hq
 rw [e] at this;exact this
theorem Jiv {d : TreeD} (h1 : Uu 10 d = true) {cs : List Value} {W : World} (h : C_Tree 10 0 W.heap.size W d cs) : Calls Tryz.prog 22 #[.agg cs.toArray] W fun e w' => e = .returned (.bool true) /\ Below W.heap.size W w' := by
 have := Vd 10 d cs W 0 h (Nat.le_trans (V8 h1).1 (by decide));rw [h1] at this;exact this
theorem JaP {d : TreeD} (b : Ze 10 d d = true) {ca cb : List Value} {W : World} (h : C_Tree 10 0 W.heap.size W d ca) (k : C_Tree 10 0 W.heap.size W d cb) : Calls Tryz.prog 20 #[.agg ca.toArray, .agg cb.toArray] W fun e w' => e = .returned (.bool true) /\ Below W.heap.size W w' := by
 have := JcZ 10 d d ca cb W 0 0 h k;rw [b] at this;exact this
theorem WF (d0 : List UInt8) (v0 : Value) (w : World) (h0 : JhM w d0 v0) (hP : Pow w) (hE : ErrR w) (hT : Tabs w) (hV : CTab w) (hM : MaxL w) :
  Calls Tryz.prog 5 #[v0] w fun e w' => e = .returned (.bool true) /\ Below w.heap.size w w' := by
 have H0 := hid h0;obtain ⟨A, c, rfl, -⟩ := h0;have HC := hid (FourN.mk (Four.mk hP hE hT hV) hM);clear hP hE hT hV hM;by_cases hq : d0.length <= 1048576
 ·go_enter Tryz.func5, Tryz.ntmps5
  go_wp2_with (go_at_call 16; refine (Jcz d0 A c _ hq).mono ?_; rintro e w' ⟨rfl, rfl⟩)
  refine (WP d0 _ 0 _ H0.out hq).mono ?_;rintro e w1 ⟨s, rfl, hs, hb1⟩;have hs2 : s.size <= 1048576 := by omega
  obtain ⟨n, fc, fa, fp, d, ga, gb, gp, d2, hbn⟩ := IB.ex s;have HB := hid hbn;have hn2 : n.size <= 1048576 := by have := hbn.size; omega
  have H1 := hid hb1;clear hb1 hs hbn;go_wp2_with fail
  refine (FourN.readI HC.out HB.out.read hs2 w1 H1.out).mono ?_;rintro e w2 ⟨cs, rfl, hO, hb⟩;obtain ⟨A4, a4, A5, a5, rfl, -⟩ := hO.flat;have HCt := hid (fun (W : World) (h : Below w2.heap.size w2 W) => (hO.toC (lo := 0) (hi := w2.heap.size) (fun b hb => ⟨Nat.zero_le _, hb.2⟩)).now h);have H2 := hid (bb H1.out hb);clear hb hO;simp only [Uv];go_wp2_with fail
  obtain ⟨w3, hw3⟩ : ∃ W, W = (w2.alloc (.cells #[.int .i64 d.kind, .bool d.flag, .int .i64 d.num, .string d.text, .slice A4 d.keys.length a4, .slice A5 d.kids.length a5] 34)).alloc (.cells #[.int .i64 fc, .int .i64 fa, .string fp] 23) := ⟨_, rfl⟩
  have B3 : Hid (Below w2.heap.size w2 w3) := hid (by rw [hw3]; exact Jj);have X3 : Hid (w3.heap[w2.heap.size]? = some (.cells #[.int .i64 d.kind, .bool d.flag, .int .i64 d.num, .string d.text, .slice A4 d.keys.length a4, .slice A5 d.kids.length a5] 34 (0, 0))) := hid (by rw [hw3]; exact (Below.heap_alloc _ _ _ (by simp)).trans (Je rfl));have Y3 : Hid (w3.heap[w2.heap.size + 1]? = some (.cells #[.int .i64 fc, .int .i64 fa, .string fp] 23 (0, 0))) := hid (by rw [hw3]; exact Je (by simp))
  rw [<- hw3];clear hw3;have H3 := hid (bb H2.out B3.out);refine (Jka HB.out.read hs2 w3).mono ?_;rintro e w4 ⟨cs, rfl, hO, hb⟩;obtain ⟨D4, e4, D5, e5, rfl, -⟩ := hO.flat;have HCw := hid (fun (W : World) (h : Below w4.heap.size w4 W) => (hO.toC (lo := 0) (hi := w4.heap.size) (fun b hb => ⟨Nat.zero_le _, hb.2⟩)).now h);have B4 := hid hb;have H4 := hid (bb H3.out hb);clear hb hO
  simp only [Uv];go_wp2_with fail
  obtain ⟨w5, hw5⟩ : ∃ W, W = (w4.alloc (.cells #[.int .i64 d.kind, .bool d.flag, .int .i64 d.num, .string d.text, .slice D4 d.keys.length e4, .slice D5 d.kids.length e5] 34)).alloc (.cells #[.int .i64 fc, .int .i64 fa, .string fp] 23) := ⟨_, rfl⟩
  have B5 : Hid (Below w4.heap.size w4 w5) := hid (by rw [hw5]; exact Jj);have X5 : Hid (w5.heap[w4.heap.size]? = some (.cells #[.int .i64 d.kind, .bool d.flag, .int .i64 d.num, .string d.text, .slice D4 d.keys.length e4, .slice D5 d.kids.length e5] 34 (0, 0))) := hid (by rw [hw5]; exact (Below.heap_alloc _ _ _ (by simp)).trans (Je rfl));have Y5 : Hid (w5.heap[w4.heap.size + 1]? = some (.cells #[.int .i64 fc, .int .i64 fa, .string fp] 23 (0, 0))) := hid (by rw [hw5]; exact Je (by simp))
  rw [<- hw5];clear hw5;have H5 := hid (bb H4.out B5.out);refine (FourN.norm HC.out HB.out.norm hs2 w5 H5.out).mono ?_;rintro e w6 ⟨rfl, hb⟩;have B6 := hid hb;have H6 := hid (bb H5.out hb);clear hb;go_upto_region 7 with fail
  obtain ⟨w7, hw7⟩ : ∃ W, W = w6.alloc (.cells #[.int .i64 fc, .int .i64 fa, .string fp] 23) := ⟨_, rfl⟩
  have B7 : Hid (Below w6.heap.size w6 w7) := hid (by rw [hw7]; exact Jj);have Y7 : Hid (w7.heap[w6.heap.size]? = some (.cells #[.int .i64 fc, .int .i64 fa, .string fp] 23 (0, 0))) := hid (by rw [hw7]; exact Je rfl);rw [<- hw7];clear hw7;have H7 := hid (bb H6.out B7.out);have F5 := hid (bb B6.out B7.out);have F4 := hid (bb B5.out F5.out);have F3 := hid (bb B4.out F4.out)
  have F2 := hid (bb B3.out F3.out);have P1 := hid ((F3.out.block _ (Ja X3.out)).trans X3.out);have P2 := hid ((F3.out.block _ (Ja Y3.out)).trans Y3.out);have P3 := hid ((F5.out.block _ (Ja X5.out)).trans X5.out);have P4 := hid ((F5.out.block _ (Ja Y5.out)).trans Y5.out);obtain ⟨p0, p1, p2, p3, p4, p5, pf⟩ := Jf P1.out;obtain ⟨q0, q1, q2, qf⟩ := Qi P2.out;obtain ⟨r0, r1, r2, r3, r4, r5, rf⟩ := Jf P3.out
  obtain ⟨t0, t1, t2, tf⟩ := Qi P4.out;obtain ⟨u0, u1, u2, uf⟩ := Qi Y7.out;have lp := Ja P1.out;have lq := Ja P2.out;have lr := Ja P3.out;have lt := Ja P4.out;have lu := Ja Y7.out;rcases hf : (fc == 0) with _ | _
  ·have hne : ¬ fc = 0 := by simpa using hf
   obtain ⟨rfl, rfl⟩ := HB.out.bad hne;have HO := hid (fun (W : World) (h : Below w.heap.size w W) => FourN.okS HC.out HB.out.read hf hs2 W h);go_wp2_with fail
   go_region_held3 (fun w' => Below (w7).heap.size (w7) w' /\ (∀ xb xo, xb < (w7).heap.size -> w'.cell? ⟨xb, xo, none⟩ = (w7).cell? ⟨xb, xo, none⟩)) (first | exact Wd _ | exact XL (by assumption) (by assumption) | exact Qx (by assumption) | exact ZZ (by assumption) _) (first | (go_at_call 20; refine (JaP HB.out.eq (HCt.out _ (bb F2.out (by first | (with_reducible exact Below.refl _ _) | exact (Qx (by assumption)).1))) (HCw.out _ (bb F4.out (by first | (with_reducible exact Below.refl _ _) | exact (Qx (by assumption)).1)))).mono ?_; rintro e w8 ⟨rfl, hb8⟩) | (go_at_call 21; refine (HO.out _ (bb H7.out (by first | (with_reducible exact Below.refl _ _) | exact (Qx (by assumption)).1))).mono ?_; rintro e w9 ⟨rfl, hb9⟩))
   have HZ := hid (Wo (by assumption));have H9 := hid (bb H7.out HZ.out);have N1 := hid ((HZ.out.block _ lp).trans P1.out);have N2 := hid ((HZ.out.block _ lq).trans P2.out);clear p0 p1 p2 p3 p4 p5 pf q0 q1 q2 qf r0 r1 r2 r3 r4 r5 rf t0 t1 t2 tf u0 u1 u2 uf lp lq lr lt lu;obtain ⟨p0, p1, p2, p3, p4, p5, pf⟩ := Jf N1.out;obtain ⟨q0, q1, q2, qf⟩ := Qi N2.out;have lp := Ja N1.out
   have lq := Ja N2.out;go_wp2_with fail
   refine (JaP HB.out.eq (HCt.out _ (bb F2.out HZ.out)) (Jk4 _)).mono ?_;rintro e wa ⟨rfl, hba⟩;have Ha := hid (bb H9.out hba);clear hba;go_wp2_with fail
   go_ret
   exact ⟨rfl, Ha.out⟩
  obtain rfl : fc = 0 := by simpa using hf
  obtain ⟨hok, hn3⟩ := HB.out.good rfl;have HT := hid (fun (W : World) (h : Below w2.heap.size w2 W) => Jiv hok (HCt.out W h));have HO := hid (fun (W : World) (h : Below w.heap.size w W) => FourN.okS HC.out HB.out.read hf hs2 W h);go_wp2_with fail
  go_region_held3 (fun w' => Below (w7).heap.size (w7) w' /\ (∀ xb xo, xb < (w7).heap.size -> w'.cell? ⟨xb, xo, none⟩ = (w7).cell? ⟨xb, xo, none⟩)) (first | exact Wd _ | exact XL (by assumption) (by assumption) | exact Qx (by assumption) | exact ZZ (by assumption) _) (first | (go_at_call 20; refine (JaP HB.out.eq (HCt.out _ (bb F2.out (by first | (with_reducible exact Below.refl _ _) | exact (Qx (by assumption)).1))) (HCw.out _ (bb F4.out (by first | (with_reducible exact Below.refl _ _) | exact (Qx (by assumption)).1)))).mono ?_; rintro e w8 ⟨rfl, hb8⟩) | (go_at_call 21; refine (HO.out _ (bb H7.out (by first | (with_reducible exact Below.refl _ _) | exact (Qx (by assumption)).1))).mono ?_; rintro e w9 ⟨rfl, hb9⟩))
  have HZ := hid (Wo (by assumption));have H9 := hid (bb H7.out HZ.out);have N1 := hid ((HZ.out.block _ lp).trans P1.out);have N2 := hid ((HZ.out.block _ lq).trans P2.out);clear p0 p1 p2 p3 p4 p5 pf q0 q1 q2 qf r0 r1 r2 r3 r4 r5 rf t0 t1 t2 tf u0 u1 u2 uf lp lq lr lt lu;obtain ⟨p0, p1, p2, p3, p4, p5, pf⟩ := Jf N1.out;obtain ⟨q0, q1, q2, qf⟩ := Qi N2.out;have lp := Ja N1.out
  have lq := Ja N2.out;go_wp2_with fail
  refine (FourN.readI HC.out HB.out.again hn2 _ H9.out).mono ?_;rintro e wa ⟨cs, rfl, hO, hba⟩;obtain ⟨K4, k4, K5, k5, rfl, -⟩ := hO.flat;have HCk := hid (fun (W : World) (h : Below wa.heap.size wa W) => (hO.toC (lo := 0) (hi := wa.heap.size) (fun b hb => ⟨Nat.zero_le _, hb.2⟩)).now h);have Ba := hid hba;have Ha := hid (bb H9.out hba);clear hba hO;simp only [Uv];go_upto_region 12 with fail
  obtain ⟨wb, hwb⟩ : ∃ W, W = (wa.alloc (.cells #[.int .i64 d2.kind, .bool d2.flag, .int .i64 d2.num, .string d2.text, .slice K4 d2.keys.length k4, .slice K5 d2.kids.length k5] 34)).alloc (.cells #[.int .i64 ga, .int .i64 gb, .string gp] 23) := ⟨_, rfl⟩
  have Bb : Hid (Below wa.heap.size wa wb) := hid (by rw [hwb]; exact Jj);have M0 : Hid (wb.heap[wa.heap.size]? = some (.cells #[.int .i64 d2.kind, .bool d2.flag, .int .i64 d2.num, .string d2.text, .slice K4 d2.keys.length k4, .slice K5 d2.kids.length k5] 34 (0, 0))) := hid (by rw [hwb]; exact (Below.heap_alloc _ _ _ (by simp)).trans (Je rfl));have M1 : Hid (wb.heap[wa.heap.size + 1]? = some (.cells #[.int .i64 ga, .int .i64 gb, .string gp] 23 (0, 0))) := hid (by rw [hwb]; exact Je (by simp))
  rw [<- hwb];clear hwb;have Hb := hid (bb Ha.out Bb.out);have G9 := hid (bb Ba.out Bb.out);have N3 := hid ((G9.out.block _ lp).trans N1.out);clear p0 p1 p2 p3 p4 p5 pf q0 q1 q2 qf lp lq;obtain ⟨p0, p1, p2, p3, p4, p5, pf⟩ := Jf N3.out;have lp := Ja N3.out;go_wp2_with fail
  refine (HT.out wb (bb F2.out (bb HZ.out G9.out))).mono ?_;rintro e wc ⟨rfl, hbc⟩;have L0 := hid ((hbc.block _ (Ja M0.out)).trans M0.out);have L1 := hid ((hbc.block _ (Ja M1.out)).trans M1.out);have N4 := hid ((hbc.block _ lp).trans N3.out);have Bc := hid hbc;have Hc := hid (bb Hb.out hbc);clear hbc p0 p1 p2 p3 p4 p5 pf lp;obtain ⟨p0, p1, p2, p3, p4, p5, pf⟩ := Jf N4.out
  have lp := Ja N4.out;obtain ⟨l0, l1, l2, l3, l4, l5, lf⟩ := Jf L0.out;have ll := Ja L0.out;obtain ⟨m0, m1, m2, mf⟩ := Qi L1.out;have lm := Ja L1.out;rcases hn3 with hn3 | ⟨hn3, rfl, rfl⟩
  ·have hn4 : n.toList.isEmpty = true := by simpa using hn3
   go_wp2_with fail
   go_ret
   exact ⟨rfl, Hc.out⟩
  have hn4 : n.toList.isEmpty = false := by
   rcases he : n.toList.isEmpty with _ | _
   ·rfl
   rw [List.isEmpty_iff.1 he] at hn3;exact absurd hn3 (by decide)
  go_wp2_with fail
  refine (JaP HB.out.eq (HCk.out _ (bb Bb.out Bc.out)) (HCt.out _ (bb F2.out (bb HZ.out (bb G9.out Bc.out))))).mono ?_;rintro e wd ⟨rfl, hbd⟩;have Hd := hid (bb Hc.out hbd);clear hbd;go_wp2_with fail
  go_ret
  exact ⟨rfl, Hd.out⟩
 go_enter Tryz.func5, Tryz.ntmps5
 go_wp2_with (go_at_call 16; refine (Jcb d0 A c _ hq).mono ?_; rintro e w' ⟨rfl, rfl⟩)
 go_ret
 exact ⟨rfl, Below.refl _ _⟩
end Go.Proofs.YtohcpifekcehjaaGreatDoor
