/- Steps to FnCrossed. No conditions. -/
import Derived.Test.YtohcpifekcehjaaGreatDoorKfcr5
import Derived.Test.YtohcpifekcehjaaGreatDoorKfcr17
import Derived.Test.YtohcpifekcehjaaGreatDoorKfcr7
import Derived.Test.YtohcpifekcehjaaGreatDoorKfcr3
import Derived.Test.YtohcpifekcehjaaGreatDoorKfcr6
import Derived.Test.YtohcpifekcehjaaGreatDoorKfcr10
import Derived.Test.YtohcpifekcehjaaGreatDoorKfcr11
import Derived.Test.YtohcpifekcehjaaGreatDoorKfcr15
import Derived.Test.YtohcpifekcehjaaGreatDoorKfcr8
import Derived.Test.YtohcpifekcehjaaGreatDoorKfcr16
import Derived.Test.YtohcpifekcehjaaGreatDoorKfcr12
import Derived.Test.YtohcpifekcehjaaGreatDoorKfcr4
import Derived.Test.YtohcpifekcehjaaGreatDoorKfcr1
import Derived.Deep.RegionLaw
import Derived.Test.YtohcpifekcehjaaGreatDoorKfcr2
import Derived.Test.YtohcpifekcehjaaGreatDoorKfcr9
import Derived.Lib.LazyBuf
import Derived.Deep.CutBlock
import Derived.Deep.CutRange
import Derived.Deep.AppendLies
set_option maxHeartbeats 16000000
set_option maxRecDepth 20000
namespace Go.Proofs.YtohcpifekcehjaaGreatDoor
open Go.RowKit Go.Lib
theorem c_quoteEnd (s : ByteArray) (T i : Nat) (w : World) (hs : s.size <= 1048576) (hi : i < s.size) (hb : BareAt s T (i + 1) s.size true) :
  Calls Tryz.prog 173 #[.string s, .int .i64 i] w fun e w' => ∃ j : Nat, e = .returned (.int .i64 j) /\ w = w' /\ i < j /\ j <= s.size + 1 /\ ((j < s.size /\ BareAt s T (j + 1) s.size false) ∨ (s.size <= j /\ T = s.size)) := by
 have HS := hid hb;clear hb;go_enter Tryz.func173, Tryz.ntmps173
 go_wp2_with fail
 go_loop [1] (fun s1 => ∃ a : Nat, s1 = .int .i64 a /\ i < a /\ a <= s.size + 1 /\ BareAt s T a s.size true) (fun s1 => s.size + 1 - (intOf s1).toNat)
 case atStart => exact ⟨i + 1, by go_num, by omega, by omega, HS.out⟩
 case round =>
  obtain ⟨a, rfl, h1, h2, hb⟩ := hrel;have HB := hid hb;clear hb;by_cases hlt : (a : Int) < s.size
  ·have hie : a < s.size := by omega
   have hd : decide ((a : Int) < s.size) = true := decide_eq_true hlt;have hz : (0 : Int) <= a := by omega
   obtain ⟨b, hbb⟩ : ∃ b : Nat, b = (s.get! a).toNat := ⟨_, rfl⟩
   have hx : (s[a]'hie).toNat = b := by rw [hbb]; exact get_byte s a hie
   have HY : Hid (byteI s a = b) := hid (by unfold byteI; rw [hbb]);clear hbb;by_cases h34 : (b : Int) = 34
   ·have k1 : ((b : Int) == 34) = true := beq_iff_eq.2 h34
    have k4 : ((b : Int) != 34) = false := by unfold bne; rw [k1]; rfl
    go_wp2_with fail
    go_ret
    exact ⟨a, rfl, rfl, h1, h2, .inl ⟨hie, HB.out.in' hie (by rw [HY.out]; omega) (by rw [HY.out]; simp [h34])⟩⟩
   ·have k1 : ((b : Int) == 34) = false := beq_eq_false_iff_ne.2 h34
    have k4 : ((b : Int) != 34) = true := by unfold bne; rw [k1]; rfl
    by_cases h92 : (b : Int) = 92
    ·have k3 : ((b : Int) == 92) = true := beq_iff_eq.2 h92
     go_wp2_with fail
     go_round
     ·exact ⟨a + 2, by go_num, by omega, by omega, HB.out.esc hie (by rw [HY.out]; exact h92)⟩
     ·first | omega | (simp [intOf]; done) | (simp [intOf]; omega)
    ·have k3 : ((b : Int) == 92) = false := beq_eq_false_iff_ne.2 h92
     go_wp2_with fail
     go_round
     ·exact ⟨a + 1, by go_num, by omega, by omega, HB.out.in' hie (by rw [HY.out]; exact h92) (by rw [HY.out]; simp [h34])⟩
     ·first | omega | (simp [intOf]; done) | (simp [intOf]; omega)
  ·have hd : decide ((a : Int) < s.size) = false := decide_eq_false hlt
   go_wp2_with fail
   go_ret
   exact ⟨a, rfl, rfl, h1, h2, .inr ⟨by omega, (HB.out.done (by omega)).1.symm⟩⟩
def BareI (s : ByteArray) (T i : Nat) : Prop := BareAt s T i s.size false ∨ (s.size <= i /\ T = s.size)
theorem bare_cut {s : ByteArray} {T : Nat} (hT : T = scanB true false s.data.toList) : bs (trimRightB (s.extract 0 T).data.toList 32) = bs (bareL s.data.toList) := by
 unfold bareL;rw [<- hT, extract_upto]
theorem c_impl_BareLine (s : ByteArray) (w : World) (hs : s.size <= 1048576) :
  Calls Tryz.prog 95 #[.string s] w fun e w' => e = .returned (.string (bs (bareL s.data.toList))) /\ w = w' := by
 obtain ⟨T, hT⟩ : ∃ T, T = scanB true false s.data.toList := ⟨_, rfl⟩
 have hst := BareAt.start s;rw [<- hT] at hst;have HE := hid (bare_cut hT);clear hT;have HTs := hid (fun (e : Nat) (he : e <= s.size) => c_TrimRight (s.extract 0 e) w (by rw [ByteArray.size_extract]; omega));have HS := hid hst;clear hst;go_enter Tryz.func95, Tryz.ntmps95
 go_wp2_with fail
 go_loop [3, 4] (fun s3 s4 => ∃ i : Nat, s3 = .int .i64 s.size /\ s4 = .int .i64 i /\ i <= s.size + 2 /\ BareI s T i) (fun _ s4 => s.size + 2 - (intOf s4).toNat)
 case atStart => exact ⟨0, rfl, rfl, by omega, .inl HS.out⟩
 case round =>
  obtain ⟨i, rfl, rfl, hi, hb⟩ := hrel;by_cases hlt : (i : Int) < s.size
  ·have hie : i < s.size := by omega
   have hd : decide ((i : Int) < s.size) = true := decide_eq_true hlt;have hb : BareAt s T i s.size false := hb.resolve_right (by omega);have HB := hid hb;have hz : (0 : Int) <= i := by omega
   obtain ⟨b, hbb⟩ : ∃ b : Nat, b = (s.get! i).toNat := ⟨_, rfl⟩
   have hx : (s[i]'hie).toNat = b := by rw [hbb]; exact get_byte s i hie
   have HY : Hid (byteI s i = b) := hid (by unfold byteI; rw [hbb]);clear hbb hb;rcases i with _ | m
   ·have h00 : Hid (firstA s 0 = true) := hid rfl
    by_cases h35 : (b : Int) = 35
    ·have k2 : ((b : Int) == 35) = true := beq_iff_eq.2 h35
     obtain ⟨-, hT, hTs⟩ := HB.out.rem hie h00.out (by rw [HY.out]; exact h35);subst hT;have K := hid (HTs.out _ hTs);rw [HE.out, show s.extract 0 0 = ByteArray.empty by (rw [extract_upto]; rfl)] at K;clear HTs HE;go_wp2_with fail
     refine K.out.mono ?_;rintro e w1 ⟨rfl, rfl⟩;go_wp2_with fail
     go_ret
     exact ⟨rfl, rfl⟩
    ·have k2 : ((b : Int) == 35) = false := beq_eq_false_iff_ne.2 h35
     by_cases h34 : (b : Int) = 34
     ·have k1 : ((b : Int) == 34) = true := beq_iff_eq.2 h34
      have K := hid (c_quoteEnd s T 0 w hs hie (HB.out.open' hie h00.out (by rw [HY.out]; exact h34)));rw [show ((0 : Nat) : Int) = 0 from rfl] at K;go_wp2_with fail
      refine K.out.mono ?_;rintro e w1 ⟨j, rfl, rfl, hj1, hj2, hj3⟩;have HJ := hid hj3;clear hj3;go_wp2_with fail
      go_round
      ·exact ⟨j + 1, rfl, by go_num, by omega, by rcases HJ.out with h | h; exact .inl h.2; exact .inr ⟨by omega, h.2⟩⟩
      ·first | omega | (simp [intOf]; done) | (simp [intOf]; omega)
     ·have k1 : ((b : Int) == 34) = false := beq_eq_false_iff_ne.2 h34
      go_wp2_with fail
      go_round
      ·exact ⟨1, rfl, by go_num, by omega, .inl (HB.out.go hie (fun _ => by rw [HY.out]; exact ⟨h34, h35⟩))⟩
      ·first | omega | (simp [intOf]; done) | (simp [intOf]; omega)
   ·have hmm : m < s.size := by omega
    have hzm : (0 : Int) <= m := by omega
    have hm1 : ((m + 1 : Nat) : Int) = (m : Int) + 1 := by omega
    have hm0 : (((m : Int) + 1) == 0) = false := beq_eq_false_iff_ne.2 (by omega);obtain ⟨p, hpp⟩ : ∃ p : Nat, p = (s.get! m).toNat := ⟨_, rfl⟩
    have hxp : (s[m]'hmm).toNat = p := by rw [hpp]; exact get_byte s m hmm
    have HP : Hid (firstA s (m + 1) = decide ((p : Int) = 32)) := hid (by rw [firstA_next]; unfold byteI; rw [hpp]);clear hpp;by_cases h32 : (p : Int) = 32
    ·have k0 : ((p : Int) == 32) = true := beq_iff_eq.2 h32
     have h00 : Hid (firstA s (m + 1) = true) := hid (by rw [HP.out]; exact decide_eq_true h32);by_cases h35 : (b : Int) = 35
     ·have k2 : ((b : Int) == 35) = true := beq_iff_eq.2 h35
      obtain ⟨-, hT, hTs⟩ := HB.out.rem hie h00.out (by rw [HY.out]; exact h35);subst hT;have K := hid (HTs.out _ hTs);rw [HE.out] at K;clear HTs HE;go_wp2_with fail
      refine K.out.mono ?_;rintro e w1 ⟨rfl, rfl⟩;go_wp2_with fail
      go_ret
      exact ⟨rfl, rfl⟩
     ·have k2 : ((b : Int) == 35) = false := beq_eq_false_iff_ne.2 h35
      by_cases h34 : (b : Int) = 34
      ·have k1 : ((b : Int) == 34) = true := beq_iff_eq.2 h34
       have K := hid (c_quoteEnd s T (m + 1) w hs hie (HB.out.open' hie h00.out (by rw [HY.out]; exact h34)));rw [hm1] at K;go_wp2_with fail
       refine K.out.mono ?_;rintro e w1 ⟨j, rfl, rfl, hj1, hj2, hj3⟩;have HJ := hid hj3;clear hj3;go_wp2_with fail
       go_round
       ·exact ⟨j + 1, rfl, by go_num, by omega, by rcases HJ.out with h | h; exact .inl h.2; exact .inr ⟨by omega, h.2⟩⟩
       ·first | omega | (simp [intOf]; done) | (simp [intOf]; omega)
      ·have k1 : ((b : Int) == 34) = false := beq_eq_false_iff_ne.2 h34
       go_wp2_with fail
       go_round
       ·exact ⟨(m + 2), rfl, by go_num, by omega, .inl (HB.out.go hie (fun _ => by rw [HY.out]; exact ⟨h34, h35⟩))⟩
       ·first | omega | (simp [intOf]; done) | (simp [intOf]; omega)
    ·have k0 : ((p : Int) == 32) = false := beq_eq_false_iff_ne.2 h32
     have HN : Hid (firstA s (m + 1) = false) := hid (by rw [HP.out]; exact decide_eq_false h32);go_wp2_with fail
     go_round
     ·exact ⟨(m + 2), rfl, by go_num, by omega, .inl (HB.out.go hie (fun h => by rw [HN.out] at h; cases h))⟩
     ·first | omega | (simp [intOf]; done) | (simp [intOf]; omega)
  ·have hd : decide ((i : Int) < s.size) = false := decide_eq_false hlt
   have hTs : T = s.size := by
    rcases hb with h | h
    ·exact (h.done (by omega)).1.symm
    ·exact h.2
   clear hb;subst hTs;have K := hid (HTs.out s.size (Nat.le_refl _));rw [HE.out, show s.extract 0 s.size = s by (rw [extract_upto, List.take_of_length_le (by rw [list_size]; exact Nat.le_refl _)])] at K;clear HTs HE;go_wp2_with fail
   refine K.out.mono ?_;rintro e w1 ⟨rfl, rfl⟩;go_wp2_with fail
   go_ret
   exact ⟨rfl, rfl⟩
theorem c_impl_LinesIn (s : ByteArray) (w : World) (hs : s.size <= 1048576) (hT : Tabs w) (hM : MaxL w) :
  Calls Tryz.prog 49 #[.string s] w (LinE (linesF s) w) := by
 obtain ⟨i0, hi, hz0, hz1, hz2⟩ := info_parts (show (Tryz.prog.info? 59).map (fun i => (i.zero, i.size, i.bytes)) = some (some (.agg #[.int .i64 0, .string ⟨#[]⟩, .int .i64 0]), 3, 32) from by kernel_rfl);have HVT := hid (And.intro hT hM);clear hT hM;obtain ⟨f, hf⟩ : ∃ f, f = textF s := ⟨_, rfl⟩
 obtain ⟨fc, fa, fp⟩ := f;have HTf := hid hf;clear hf;by_cases hc : fc = 0
 rotate_left
 ·have d1 : (fc == 0) = false := beq_eq_false_iff_ne.2 hc
  have d2 : (fc != 0) = true := bne_iff_ne.2 hc;have HF := hid (show linesF s = ([], ⟨fc, fa, fp⟩) by rw [linesF_bad (by rw [<- HTf.out]; exact hc), HTf.out]);clear hc;go_enter Tryz.func49, Tryz.ntmps49
  go_wp2_with fail
  refine (c_impl_textFault s _ hs (HVT.out.1.below bel)).mono ?_;rintro e w1 ⟨rfl, hb⟩;rw [<- HTf.out];simp only [fltC];have hbox : w1.heap[w.heap.size]? = some (.cells #[.int .i64 0, .int .i64 0, .string ⟨#[]⟩] 23 (0, 0)) := (hb.block w.heap.size (by simp)).trans (heap_at (by simp));have l1 := row_lt hbox;have hB1 : Below w.heap.size w w1 := bel;obtain ⟨a0, a1, a2, af⟩ := row3 hbox;clear hbox;go_wp2_with fail
  go_region_law (fail)
  all_goals
   (try go_wp2_with fail)
   exact bodyPost_ret (v := .tuple #[.slice none 0 0, .agg #[.int .i64 fc, .int .i64 fa, .string fp]]) (by simp only [results, Tryz.results49]; go_simp) rfl ⟨none, 0, by rw [HF.out]; rfl, by rw [HF.out]; exact World.ownsRow_nil _ _ _ _, bel⟩
 obtain rfl := hc;have hcode : (textF s).code = 0 := by rw [<- HTf.out]
 have hl2 : s.size <= 20000 := textF_zero hcode;have HF := hid hcode;clear hcode;go_enter Tryz.func49, Tryz.ntmps49
 go_wp2_with fail
 refine (c_impl_textFault s _ hs (HVT.out.1.below bel)).mono ?_;rintro e w1 ⟨rfl, hb⟩;rw [<- HTf.out];simp only [fltC];have hbox : w1.heap[w.heap.size]? = some (.cells #[.int .i64 0, .int .i64 0, .string ⟨#[]⟩] 23 (0, 0)) := (hb.block w.heap.size (by simp)).trans (heap_at (by simp));have l1 := row_lt hbox;have HBox1 := hid hbox;have HB1 := hid (bel : Below w.heap.size w w1);clear hbox hb;go_wp2_with fail
 obtain ⟨wp, hwp⟩ : ∃ W, W = (w1.alloc (.cells #[.int .i64 0, .int .i64 fa, .string fp] 23)).alloc (.cells #[] 59) := ⟨_, rfl⟩
 have hBp : Below w1.heap.size w1 wp := by rw [hwp]; exact bel
 have hE0 : LinesE (w.heap.size + 1) wp [] (.slice (some ⟨w1.heap.size + 1, 0, none⟩) 0 0) := by rw [hwp]; exact own_empty (by simp) (by simp; omega)
 have lp : w1.heap.size + 1 < wp.heap.size := by rw [hwp]; simp
 rw [<- hwp];have HBp := hid (HB1.out.trans (hBp.mono HB1.out.size));have HBx := hid ((hBp.block _ l1).trans HBox1.out);have HE0 := hid hE0;clear hwp hBp hE0;refine (c_Split s wp (by omega) (HVT.out.2.below HBp.out)).mono ?_;rintro e w2 ⟨P, rfl, hcut, hlen, hw2⟩
 have hpos : 0 < P.length := by
  have := congrArg List.length hcut;rw [List.length_map] at this;rw [this];exact cutA_pos _ _
 obtain ⟨g, hg⟩ : ∃ g, g = wp.heap.size := ⟨_, rfl⟩
 have hrow : w2.heap[g]? = some (.cells (P.map Value.string).toArray 9 (0, 0)) := by rw [hw2, hg]; exact heap_at rfl
 have hB2 : Below wp.heap.size wp w2 := by rw [hw2]; exact bel
 rw [<- hg] at lp hB2 ⊢;have HRow2 := hid hrow;have HB2 := hid (HBp.out.trans (hB2.mono (by rw [hg]; exact HBp.out.size)));have HBx2 := hid ((hB2.block _ (by have := row_lt HBx.out; omega)).trans HBx.out);have HE2 := hid (HE0.out.carry (fun q hq => hB2.block q (by have := (World.ownsRow.lt HE0.out q hq).2; omega)));have HS0 := hid (LnAt.start HF.out hcut);have hPz : P.length <= 20001 := by omega
 have HI0 := hid hi;have l1g : w.heap.size + 1 < g := by omega
 clear hw2 hrow hB2 hcut hg hi;go_wp2_with fail
 go_loopw [5, 20] (fun s5 s20 wr => ∃ (i n : Nat) (L : List LineD) (A : Option Addr) (c : Nat), s20 = .int .i64 i /\ n = L.length /\ s5 = .slice A n c /\ i <= P.length /\ LnAt s P i L /\ LinesE (w.heap.size + 1) wr L (.slice A n c) /\ (∀ q, (Value.slice A n c).ownBlock = some q -> q ≠ g) /\ wr.heap[w.heap.size]? = some (.cells #[.int .i64 0, .int .i64 0, .string ⟨#[]⟩] 23 (0, 0)) /\ wr.heap[g]? = some (.cells (P.map Value.string).toArray 9 (0, 0)) /\ Below w.heap.size w wr) (fun _ s20 _ => P.length - (intOf s20).toNat)
 case atStart => exact ⟨0, 0, [], _, _, rfl, rfl, rfl, Nat.zero_le _, HS0.out, HE2.out, (fun q hq => by simp [Value.ownBlock] at hq; omega), HBx2.out, HRow2.out, HB2.out⟩
 case round =>
  obtain ⟨i, n, L, A, c, rfl, hn, rfl, hi, hA, hR, hO, hbx, hrow, hbr⟩ := hrel;have HR := hid hR;have HA := hid hA;have HN := hid hn;have HO := hid hO;have HBx := hid hbx;have HRow := hid hrow;have HBr := hid hbr;have lgr := row_lt hrow;have lbr := row_lt hbx;have hni : n <= i := by rw [hn]; exact hA.size
  clear hR hA hn hO hbx hrow hbr HBx2 HRow2 HB2 HE2 HS0;by_cases hlt : (i : Int) < P.length
  ·have hii : i < P.length := by omega
   have hd : decide ((i : Int) < P.length) = true := decide_eq_true hlt;have hz : (0 : Int) <= i := by omega
   obtain ⟨x, hx⟩ := exists_at hii;have hcx : wr.cell? ⟨g, i, none⟩ = some (.string x) := by rw [cell_of_row _ _ _ _ _ _ HRow.out]; simp [hx]
   have hxz : x.size <= 20000 := Nat.le_trans (HA.out.small hx) hl2;have HPx := hid hx;clear hx;go_wp2_with fail
   refine (c_IndexLow x wr).mono ?_;rintro e w3 ⟨z, rfl, hlow, hb3⟩;have HB3 := hid hb3;have HBx3 := hid ((hb3.block _ lbr).trans HBx.out);have HRow3 := hid ((hb3.block _ lgr).trans HRow.out);have HR3 := hid (HR.out.below hb3);have l3 := hb3.size;clear hb3;rcases hq : lowB x.data.toList with _ | _
   rotate_left
   ·have hzz : decide (0 <= z) = true := hlow.trans hq
    have HF2 := hid (HA.out.bad HPx.out hq);obtain ⟨a0, a1, a2, af⟩ := row3 HBx3.out;have la := row_lt HBx3.out;clear hlow hq;go_wp2_with fail
    exact bodyPost_ret (v := .tuple #[.slice none 0 0, .agg #[.int .i64 3, .int .i64 ((i : Int) + 1), .string ⟨#[]⟩]]) (by simp only [results, Tryz.results49]; go_simp) rfl ⟨none, 0, by rw [HF2.out]; rfl, by rw [HF2.out]; exact World.ownsRow_nil _ _ _ _, (HBr.out.trans (HB3.out.mono HBr.out.size)).trans (Aside.below (S := fun b => b = w.heap.size) asd (Nat.le_trans HBr.out.size l3) (fun i hi => by omega))⟩
   ·have hzz : decide (0 <= z) = false := hlow.trans hq
    have HLo := hid hq;obtain ⟨y, hy⟩ : ∃ y, y = bs (bareL x.data.toList) := ⟨_, rfl⟩
    have KB := hid (c_impl_BareLine x w3 (by omega));rw [<- hy] at KB;have HYd := hid hy;clear hy hlow hq;go_wp2_with fail
    refine KB.out.mono ?_;rintro e wz ⟨rfl, rfl⟩;by_cases hnil : bareL x.data.toList = []
    ·obtain rfl : y = ByteArray.empty := by rw [HYd.out, hnil]; rfl
     have HA2 := hid (HA.out.skip HPx.out HLo.out hnil);clear hnil;go_wp2_with fail
     go_roundw
     case rel => exact ⟨i + 1, n, L, A, c, by go_num, HN.out, rfl, by omega, HA2.out, HR3.out, HO.out, HBx3.out, HRow3.out, HBr.out.trans (HB3.out.mono HBr.out.size)⟩
     case measure => first | omega | (simp [intOf]; done) | (simp [intOf]; omega)
    ·have hyz : y.size = (bareL x.data.toList).length := by rw [HYd.out]; exact size_mk _
     have hyl : 0 < y.size := by rw [hyz]; exact List.length_pos_iff.2 hnil
     have hyd : y.toList.isEmpty = false := by rw [ByteArray.toList_eq, HYd.out]; show (bareL x.data.toList).isEmpty = false; cases hb : bareL x.data.toList; exact absurd hb hnil; rfl
     have hye : (!y.toList.isEmpty) = true := by rw [hyd]; rfl
     have hyb : y.size <= 20000 := by rw [hyz]; exact Nat.le_trans (bareL_len _) (by rw [list_size]; exact hxz)
     have hyL : y.data.toList = bareL x.data.toList := by rw [HYd.out]; rfl
     have KI := hid (c_impl_IndentOf y w3 (by omega));rw [hyL] at KI;have htr := bs_trim (bareL x.data.toList);rw [<- HYd.out] at htr;have hdl : indL (bareL x.data.toList) <= y.size := by rw [hyz]; unfold indL; exact Nat.sub_le _ _
     have HA2 := hid (HA.out.add HPx.out HLo.out hnil);obtain ⟨d, hdd⟩ : ∃ d, d = indL (bareL x.data.toList) := ⟨_, rfl⟩
     rw [<- htr, <- hdd] at HA2;rw [<- hdd] at KI hdl;clear hyz hyL htr hdd hnil;have hdI : (d : Int) <= y.size := by omega
     have hd0 : (0 : Int) <= d := by omega
     go_wp2_with fail
     refine KI.out.mono ?_;rintro e wz ⟨rfl, rfl⟩;go_wp2_with (at_builtin; go_loud (refine wpList_append_rows (C := C_Ln) rfl (.tmp 37) (.tmp 45) 54 rfl (w.heap.size + 1) 59 i0 (.agg #[.int .i64 0, .string ⟨#[]⟩, .int .i64 0]) 3 32 Tryz.underlying54 HI0.out hz0 hz1 hz2 rfl (by decide) encLn_len encLn_one encLn_C _ n L rfl HN.out.symm (HR3.out.below bel) [(⟨d, y.extract d y.size, i + 1⟩ : LineD)] (some ⟨_, 0, none⟩) 1 1 _ _ rfl rfl (sl_oneG encLn_len _ _ rfl 59 _ rfl (by simp)) (by unfold maxLen; omega) (by omega) (by simp; omega) ?_))
     intro v' w4 hR4 hg4 ha4;obtain ⟨A4, c4, rfl⟩ := hR4.form;have HR4 := hid hR4
     have hk4 : ∀ k, k < w3.heap.size -> k = w.heap.size ∨ k = g -> w4.heap[k]? = w3.heap[k]? := fun k hk hh => (hg4.block k (by simp; omega) (fun e => by
      have h5 := World.ownsRow.lt HR3.out k e.symm;rcases hh with rfl | rfl
      ·omega
      ·exact HO.out _ e.symm rfl)).trans (Below.heap_alloc _ _ _ hk)
     have hb4 : Below w.heap.size w w4 := (HBr.out.trans (HB3.out.mono HBr.out.size)).trans (Below.grown ((bel : Below w3.heap.size w3 _).mono (Nat.le_trans HBr.out.size l3)) hg4 (by simp; omega) (fun q hq => by have := (World.ownsRow.lt HR3.out q hq).1; omega))
     have hO4 : ∀ q, (Value.slice A4 (L ++ [(⟨d, y.extract d y.size, i + 1⟩ : LineD)]).length c4).ownBlock = some q -> q ≠ g := fun q hq => by
      rcases ha4 with h | h
      ·rw [h] at hq; exact HO.out q hq
      ·rw [h] at hq; simp at hq; omega
     have HO4 := hid hO4;have HB4 := hid hb4;have HBx4 := hid ((hk4 _ (by omega) (.inl rfl)).trans HBx3.out);have HRow4 := hid ((hk4 _ (by omega) (.inr rfl)).trans HRow3.out);have hln : (L ++ [(⟨d, y.extract d y.size, i + 1⟩ : LineD)]).length = n + 1 := by rw [List.length_append, <- HN.out]; rfl
     have HL := hid hln;clear hR4 hg4 ha4 hO4 hk4 hb4 hln;go_wp2_with fail
     go_roundw
     case rel => exact ⟨i + 1, n + 1, L ++ [⟨d, y.extract d y.size, i + 1⟩], A4, c4, by go_num, HL.out.symm, by rw [HL.out], by omega, HA2.out, by rw [<- HL.out]; exact HR4.out, by rw [<- HL.out]; exact HO4.out, HBx4.out, HRow4.out, HB4.out⟩
     case measure => first | omega | (simp [intOf]; done) | (simp [intOf]; omega)
  ·have hd : decide ((i : Int) < P.length) = false := decide_eq_false hlt
   have HE := hid (HA.out.end' (by omega));obtain ⟨a0, a1, a2, af⟩ := row3 HBx.out;have la := row_lt HBx.out;go_wp2_with fail
   exact bodyPost_ret (v := .tuple #[.slice A n c, .agg #[.int .i64 0, .int .i64 0, .string ⟨#[]⟩]]) (by simp only [results, Tryz.results49]; go_simp) rfl ⟨A, c, by rw [HE.out, HN.out]; rfl, by
    rw [HE.out];show LinesE _ _ L (.slice A L.length c)
    rw [<- HN.out]
    exact (HR.out.less (Nat.le_succ _)).carry (fun q hq => (asd : Aside (fun b => b = w.heap.size) wr _).block q (World.ownsRow.lt HR.out q hq).2 (by have := (World.ownsRow.lt HR.out q hq).1; omega)), HBr.out.trans (Aside.below (S := fun b => b = w.heap.size) asd HBr.out.size (fun i hi => by omega))⟩
theorem all_in (w0 : World) (b g N cap : Nat) (h0 : In0 w0 b g) : ∀ n, T_vI w0 b g N cap n /\ T_bI w0 b g N cap n /\ T_lI w0 b g N cap n /\ T_pI w0 b g N cap n := by
 intro n;induction n using Nat.strongRecOn with
 | ind n ih =>
  have hv : T_vI w0 b g N cap n := by
   cases n with
   | zero => intro d x r m w _ _ _ _ hn; unfold needI at hn; simp only at hn; omega
   | succ n => exact of_inValue w0 b g N cap n h0 (ih n (Nat.lt_succ_self n)).2.2.1 (ih n (Nat.lt_succ_self n)).2.2.2
  have hb : T_bI w0 b g N cap n := by
   cases n with
   | zero => intro i d x r m w _ _ _ _ hn; unfold needI at hn; simp only at hn; omega
   | succ n => exact of_inBelow w0 b g N cap n h0 (ih n (Nat.lt_succ_self n)).1
  exact ⟨hv, hb, of_inList w0 b g N cap n h0 (fun k hk => (ih k hk).2.1) (fun k hk => (ih k hk).1), of_inPairs w0 b g N cap n h0 (fun k hk => (ih k hk).2.1)⟩
theorem drop_head (a : UInt8) : ∀ (l : List UInt8) (x : UInt8) (r : List UInt8), l.dropWhile (· == a) = x :: r -> x ≠ a
 | [], x, r, h => by cases h
 | y :: l, x, r, h => by
  rw [List.dropWhile_cons] at h;by_cases e : (y == a) = true
  ·rw [if_pos e] at h
   exact drop_head a l x r h
  ·rw [if_neg e] at h
   cases h
   exact fun g => e (beq_iff_eq.2 g)
theorem bare_endOk {l : List UInt8} (h : ¬ bareL l = []) : endOk (bs (bareL l)) := by
 have hz : (bs (bareL l)).size = (bareL l).length := size_mk _;refine ⟨by rw [hz]; exact List.length_pos_iff.2 h, fun e => ?_⟩;have hb : (bs (bareL l)).data.toList[(bs (bareL l)).size - 1]? = some ((bs (bareL l)).get! ((bs (bareL l)).size - 1)) := byte_list (by rw [hz]; have := List.length_pos_iff.2 h; omega);have e1 : (bs (bareL l)).data.toList = bareL l := rfl
 obtain ⟨x, r, hd⟩ : ∃ x r, (l.take (scanB true false l)).reverse.dropWhile (· == 32) = x :: r := by
  rcases hd : (l.take (scanB true false l)).reverse.dropWhile (· == 32) with _ | ⟨x, r⟩
  ·exact absurd (show bareL l = [] by unfold bareL trimRightB; rw [hd]; rfl) h
  ·exact ⟨x, r, rfl⟩
 have hbl : bareL l = (x :: r).reverse := by
  unfold bareL trimRightB;rw [hd]
 have hlast : (bareL l)[(bs (bareL l)).size - 1]? = some x := by
  rw [hz, <- List.getLast?_eq_getElem?, hbl];simp
 rw [e1, hlast] at hb;unfold byteI at e;rw [<- Option.some.inj hb] at e;exact drop_head 32 _ _ _ hd (UInt8.toNat_inj.1 (by have e32 : (32 : UInt8).toNat = 32 := rfl; omega))
theorem line_ok {i : Nat} {l : List UInt8} {x : LineD} (h : x ∈ lineO i l) (hl : l.length <= 20000) (hi : i <= 20001) : LnOk x := by
 unfold lineO at h;by_cases c : bareL l = []
 ·rw [if_pos c] at h; cases h
 ·rw [if_neg c] at h
  rcases List.mem_singleton.1 h with rfl
  have h1 := bareL_len l;have h2 := trimL_len (bareL l) 32;have hz : (bs (trimLeftB (bareL l) 32)).size = (trimLeftB (bareL l) 32).length := size_mk _;have h3 : indL (bareL l) = (bareL l).length - (trimLeftB (bareL l) 32).length := rfl;refine ⟨by show indL (bareL l) + (bs (trimLeftB (bareL l) 32)).size <= 20000; omega, hi, ?_⟩;have he := bare_endOk c;have := (tail_end (i := 0) he he.1).1;exact this
theorem linesK_ok {P : List (List UInt8)} (hP : ∀ l ∈ P, l.length <= 20000) : ∀ (k : Nat), k <= 20001 -> InOk (linesK P k) /\ (linesK P k).length <= k
 | 0, _ => ⟨fun x hx => (by unfold linesK at hx; cases hx), Nat.le_refl _⟩
 | k + 1, hk => by
  obtain ⟨h1, h2⟩ := linesK_ok hP k (by omega);unfold linesK;rcases hp : P[k]? with _ | l
  ·simp only [List.append_nil]
   exact ⟨h1, by omega⟩
  ·simp only
   refine ⟨fun x hx => ?_, ?_⟩
   ·rcases List.mem_append.1 hx with hx | hx
    ·exact h1 x hx
    ·exact line_ok hx (hP l (List.mem_of_getElem? hp)) hk
   ·rw [List.length_append]
    have : (lineO (k + 1) l).length <= 1 := by unfold lineO; split <;> simp
    omega
theorem cutA_len : ∀ (l acc : List UInt8), (cutA acc l).length = l.count 10 + 1
 | [], acc => rfl
 | c :: l, acc => by
  by_cases hc : c = 10
  ·subst hc
   rw [cutA_nl, List.length_cons, cutA_len l [], List.count_cons_self]
  ·rw [cutA_on hc, cutA_len l _, List.count_cons_of_ne hc]
theorem linesF_ok {s : ByteArray} (h : (linesF s).2.code = 0) : InOk (linesF s).1 /\ (linesF s).1.length <= 20001 := by
 unfold linesF at h ⊢;by_cases c : (textF s).code ≠ 0
 ·rw [if_pos c] at h; exact absurd h c
 ·rw [if_neg c] at h ⊢
  have hs : s.size <= 20000 := textF_zero (by omega);rcases hf : (cutA [] s.data.toList).findIdx? lowB with _ | k
  ·rw [hf] at h
   simp only;have hlen := cutA_len s.data.toList [];have hc := List.count_le_length (a := (10 : UInt8)) (l := s.data.toList);rw [list_size] at hc;obtain ⟨h1, h2⟩ := linesK_ok (P := cutA [] s.data.toList) (fun l hl => by have := cutA_small _ _ _ hl; rw [list_size] at this; simp at this; omega) (cutA [] s.data.toList).length (by omega);exact ⟨h1, by omega⟩
  ·rw [hf] at h
   cases h
theorem readIn_fault {s : ByteArray} (h : ¬ (linesF s).2.code = 0) : readIn s = ((linesF s).2, treeZ) := by
 unfold readIn;rw [if_pos h];rfl
theorem readIn_empty {s : ByteArray} (h : (linesF s).2.code = 0) (hL : (linesF s).1 = []) : readIn s = (fltA 4 (s.data.toList.count 10 + 1), treeZ) := by
 unfold readIn;rw [if_neg (by rw [h]; decide), hL, cutA_len];rfl
theorem readIn_ind {s : ByteArray} {x : LineD} {r : List LineD} (h : (linesF s).2.code = 0) (hL : (linesF s).1 = x :: r) (hx : x.ind ≠ 0) : readIn s = (fltA 4 x.at', treeZ) := by
 unfold readIn;rw [if_neg (by rw [h]; decide), hL];simp only;rw [if_pos hx];rfl
theorem readIn_main {s : ByteArray} {x : LineD} {r : List LineD} (h : (linesF s).2.code = 0) (hL : (linesF s).1 = x :: r) (hx : x.ind = 0) : readIn s = (match readK (3 * costL (x :: r) + 3) (.value 1) (x :: r) 0 with
   | .bad f => (f, treeE)
   | .good t [] _ => (flt0, t)
   | .good _ (y :: _) _ => (fltA 4 y.at', treeE)) := by
 unfold readIn;rw [if_neg (by rw [h]; decide), hL];simp only;rw [if_neg (by rw [hx]; decide)];rfl
theorem c_Count (s : ByteArray) (w : World) : Calls Tryz.prog 50 #[.string s, .string ⟨#[10]⟩] w fun e w' => e = .returned (.int .i64 (s.data.toList.count 10 : Nat)) /\ w = w' := by
 have h := Any.strings_Count_one laysCount s 10 w;change Calls Tryz.prog 50 _ _ _ at h
 exact h.mono (fun _ _ h => ⟨h.1, h.2.symm⟩)
theorem c_impl_ReadIndented (s : ByteArray) (w : World) (hs : s.size <= 1048576) (hV : CTab w) (hT : Tabs w) (hE : ErrR w) (hM : MaxL w) :
  Calls Tryz.prog 18 #[.string s] w (ReadE (readIn s) w) := by
 have HT := hid (And.intro hV (And.intro hT (And.intro hE hM)));have HLI := hid (fun (W : World) (hb : Below w.heap.size w W) => c_impl_LinesIn s W hs (hT.below hb) (hM.below hb));obtain ⟨⟨lf, la, lp⟩, hlf⟩ : ∃ f, f = (linesF s).2 := ⟨_, rfl⟩
 obtain ⟨L, hL⟩ : ∃ L, L = (linesF s).1 := ⟨_, rfl⟩
 have hpair : linesF s = (L, ⟨lf, la, lp⟩) := by rw [hL, hlf]
 rw [hpair] at HLI;obtain ⟨r, hr⟩ : ∃ r, r = readIn s := ⟨_, rfl⟩
 rw [<- hr];have HR := hid hr;have HLf := hid (And.intro hlf hL);clear hV hT hE hM hlf hL hpair hr;by_cases hc : lf = 0
 rotate_left
 ·have d1 : (lf != 0) = true := bne_iff_ne.2 hc
  have d2 : (lf == 0) = false := beq_eq_false_iff_ne.2 hc;have HF := hid (show r = (⟨lf, la, lp⟩, treeZ) by rw [HR.out, readIn_fault (by rw [<- HLf.out.1]; exact hc), <- HLf.out.1]);clear hc;go_enter Tryz.func18, Tryz.ntmps18
  go_wp2_with fail
  refine (HLI.out _ bel).mono ?_;rintro e w1 ⟨A, c, rfl, -, hb1⟩;simp only [fltC];have HT1 := hid ((hb1.block w.heap.size (by simp; omega)).trans ((Below.heap_alloc _ _ _ (by simp)).trans (heap_at (w := w) (o := .cells #[.int .i64 0, .bool false, .int .i64 0, .string ⟨#[]⟩, .slice none 0 0, .slice none 0 0] 34) rfl)));have HU1 := hid ((hb1.block (w.heap.size + 1) (by simp)).trans (heap_at (w := w.alloc (.cells #[.int .i64 0, .bool false, .int .i64 0, .string ⟨#[]⟩, .slice none 0 0, .slice none 0 0] 34)) (o := .cells #[.int .i64 0, .int .i64 0, .string ⟨#[]⟩] 23) (by simp)))
  have HB1 := hid (bel : Below w.heap.size w w1);obtain ⟨x0, x1, x2, x3, x4, x5, xf⟩ := row6 HT1.out;obtain ⟨y0, y1, y2, yf⟩ := row3 HU1.out;have l0 := row_lt HT1.out;have l1 := row_lt HU1.out;clear hb1;go_wp2_with fail
  go_region_law (fail)
  all_goals
   (try go_wp2_with fail)
   exact bodyPost_ret (v := .tuple #[.agg #[.int .i64 0, .bool false, .int .i64 0, .string ⟨#[]⟩, .slice none 0 0, .slice none 0 0], .agg #[.int .i64 lf, .int .i64 la, .string lp]]) (by simp only [results, Tryz.results18]; go_simp) rfl (ReadE.bad HF.out (have hb01 := HB1.out; bel))
 obtain rfl := hc;have hcode : (linesF s).2.code = 0 := by rw [<- HLf.out.1]
 obtain ⟨hok, hlen⟩ := linesF_ok hcode;rw [<- HLf.out.2] at hok hlen;have HOk := hid hok;have HC := hid hcode;clear hok hcode;go_enter Tryz.func18, Tryz.ntmps18
 go_wp2_with fail
 refine (HLI.out _ bel).mono ?_;rintro e w1 ⟨A, c, rfl, hrow, hb1⟩;simp only [fltC];have HRow := hid hrow;obtain ⟨N, hN⟩ : ∃ N, N = L.length := ⟨_, rfl⟩
 rw [<- hN];have HT1 := hid ((hb1.block w.heap.size (by simp; omega)).trans ((Below.heap_alloc _ _ _ (by simp)).trans (heap_at (w := w) (o := .cells #[.int .i64 0, .bool false, .int .i64 0, .string ⟨#[]⟩, .slice none 0 0, .slice none 0 0] 34) rfl)));have HU1 := hid ((hb1.block (w.heap.size + 1) (by simp)).trans (heap_at (w := w.alloc (.cells #[.int .i64 0, .bool false, .int .i64 0, .string ⟨#[]⟩, .slice none 0 0, .slice none 0 0] 34)) (o := .cells #[.int .i64 0, .int .i64 0, .string ⟨#[]⟩] 23) (by simp)))
 have HB1 := hid (bel : Below w.heap.size w w1);obtain ⟨x0, x1, x2, x3, x4, x5, xf⟩ := row6 HT1.out;obtain ⟨y0, y1, y2, yf⟩ := row3 HU1.out;have l0 := row_lt HT1.out;have l1 := row_lt HU1.out;clear hrow hb1;rcases L with _ | ⟨x, t⟩
 ·obtain rfl : N = 0 := hN
  have HF := hid (show r = (fltA 4 (s.data.toList.count 10 + 1), treeZ) by rw [HR.out, readIn_empty HC.out HLf.out.2.symm]);obtain ⟨k, hk⟩ : ∃ k, k = s.data.toList.count 10 := ⟨_, rfl⟩
  have HCt := hid (fun W => c_Count s W);rw [<- hk] at HCt HF;have hkz : k <= 1048576 := by rw [hk]; exact Nat.le_trans List.count_le_length (by rw [list_size]; exact hs)
  have HE : Hid (fltC (fltA 4 (k + 1)) = #[.int .i64 4, .int .i64 (1 + (k : Int)), .string ⟨#[]⟩]) := hid (by unfold fltC fltA; simp only; rw [show ((k + 1 : Nat) : Int) = 1 + (k : Int) by omega]);clear hk;go_wp2_with fail
  refine (HCt.out _).mono ?_;rintro e w2 ⟨rfl, rfl⟩;go_wp2_with fail
  exact bodyPost_ret (v := .tuple #[.agg #[.int .i64 0, .bool false, .int .i64 0, .string ⟨#[]⟩, .slice none 0 0, .slice none 0 0], .agg #[.int .i64 4, .int .i64 (1 + (k : Int)), .string ⟨#[]⟩]]) (by simp only [results, Tryz.results18]; go_simp) rfl (HE.out ▸ ReadE.bad HF.out (have hb01 := HB1.out; bel))
 have HN := hid hN;have hN0 : 0 < N := by rw [hN]; exact Nat.succ_pos _
 have hNz : N <= 20001 := by rw [hN]; exact hlen
 obtain ⟨g, cap, cur, hv, hgb, hgr, hcap, -, -, hcell⟩ := HRow.out.row encLn_len (Nat.succ_pos _);simp only [Value.slice.injEq] at hv;obtain ⟨rfl, -, rfl⟩ := hv;have hgb2 : w.heap.size + 2 <= g := by simp at hgb; omega
 have lg := row_lt hgr;have HGr := hid hgr;have HCell := hid hcell
 have hc0 : w1.cell? ⟨g, 0, none⟩ = some (.int .i64 (x.ind : Nat)) := by
  have h := hcell 0 x rfl 0 (by decide);rw [cell_of_row _ _ _ _ _ _ hgr]
  simpa [encLn] using h
 have hc2 : w1.cell? ⟨g, 2, none⟩ = some (.int .i64 (x.at' : Nat)) := by
  have h := hcell 0 x rfl 2 (by decide);rw [cell_of_row _ _ _ _ _ _ hgr]
  simpa [encLn] using h
 have hcf : ∀ o, w1.frozen? ⟨g, o, none⟩ = false := fun o => frozen_row hgr o
 have hNI : (0 : Int) < N := by omega
 have e0 : ((N : Int) == 0) = false := beq_eq_false_iff_ne.2 (by omega);have e0' : (N == 0) = false := beq_eq_false_iff_ne.2 (by omega);have hcapN : N <= c := by rw [hN]; exact hcap
 obtain ⟨xi, xt, xa⟩ := x;simp only at hc0 hc2;clear hgb hgr hcell hN hlen hcap;by_cases hx : xi = 0
 rotate_left
 ·have d1 : ((xi : Int) != 0) = true := bne_iff_ne.2 (by omega)
  have d2 : ((xi : Int) == 0) = false := beq_eq_false_iff_ne.2 (by omega);have d3 : (xi == 0) = false := beq_eq_false_iff_ne.2 hx;have HF := hid (show r = (fltA 4 xa, treeZ) by rw [HR.out, readIn_ind HC.out HLf.out.2.symm hx]);go_wp2_with fail
  go_region_law (fail)
  all_goals
   (try go_wp2_with fail)
   exact bodyPost_ret (v := .tuple #[.agg #[.int .i64 0, .bool false, .int .i64 0, .string ⟨#[]⟩, .slice none 0 0, .slice none 0 0], .agg #[.int .i64 4, .int .i64 (xa : Nat), .string ⟨#[]⟩]]) (by simp only [results, Tryz.results18]; go_simp) rfl (ReadE.bad HF.out (have hb01 := HB1.out; bel))
 obtain ⟨n, hn⟩ : ∃ n, n = 3 * costL (⟨xi, xt, xa⟩ :: t) + 3 := ⟨_, rfl⟩
 have hF := HR.out.trans (readIn_main HC.out HLf.out.2.symm hx);rw [<- hn] at hF;have HF := hid hF;have HNd := hid (show needI (.value 1) (⟨xi, xt, xa⟩ :: t) <= n from Nat.le_of_eq hn.symm);clear hn hF;obtain rfl := hx;have HAll := hid (fun (b : Nat) (hb : w.heap.size <= b) => (all_in w b g N c ⟨HT.out.1, HT.out.2.1, HT.out.2.2.1, hb, by omega⟩ n).1);have HNe := hid hN0;have hle1 := HB1.out.size
 clear hN0;go_upto_region 8 with fail
 clear hc0 hc2;obtain ⟨w2, hw2⟩ : ∃ W, W = w1.alloc (.cells #[.int .i64 0, .int .i64 la, .string lp] 23) := ⟨_, rfl⟩
 rw [<- hw2];have hb2 : Below w1.heap.size w1 w2 := by rw [hw2]; exact bel
 have HZ2 := hid (show w1.heap.size + 1 = w2.heap.size by rw [hw2]; simp);have hz2 : w1.heap.size < w2.heap.size := by rw [hw2]; simp
 have hz2a : w1.heap.size + 1 <= w2.heap.size := by rw [hw2]; simp
 have hz2b : w2.heap.size <= w1.heap.size + 1 := by rw [hw2]; simp
 obtain ⟨w3, hw3⟩ : ∃ W, W = w2.alloc (.cells #[.slice (some ⟨g, 0, none⟩) N c, .int .i64 0, .int .i64 0, .int .i64 0, .int .i64 0, .string ⟨#[]⟩] 61) := ⟨_, rfl⟩
 have HW3 := hid hw3;have hb3 : Below w2.heap.size w2 w3 := by rw [hw3]; exact bel
 have hz3 : w2.heap.size < w3.heap.size := by rw [hw3]; simp
 have hI3 : InAt 61 w2.heap.size g N c (⟨0, xt, xa⟩ :: t) 0 flt0 w3 := ⟨0, cur, (Nat.zero_add _).trans HN.out.symm, hcapN, hNz, by omega, by rw [hw3]; exact heap_at rfl, (hb3.block _ (by omega)).trans ((hb2.block g lg).trans HGr.out), fun i x hx => by
  have h0 := HCell.out i x hx 0 (by decide);have h1 := HCell.out i x hx 1 (by decide);have h2 := HCell.out i x hx 2 (by decide);refine ⟨?_, ?_, ?_⟩
  ·simpa [encLn] using h0
  ·simpa [encLn] using h1
  ·simpa [encLn] using h2⟩
 have HI3 := hid hI3;have HB3 := hid ((HB1.out.trans (hb2.mono HB1.out.size)).trans (hb3.mono (by have := HB1.out.size; omega)));have HT3 := hid ((hb3.block _ (by omega)).trans ((hb2.block _ l0).trans HT1.out));have HU3 := hid ((hb3.block _ (by omega)).trans ((hb2.block _ l1).trans HU1.out));have hsw : w.heap.size + 1 < w1.heap.size := l1;clear hw2 hb2 hw3 hb3 hI3 x0 x1 x2 x3 x4 x5 xf y0 y1 y2 yf l0 l1
 go_wp2_with fail
 rw [<- HW3.out];refine (HAll.out w2.heap.size (by omega) 1 _ _ 0 w3 (by decide) (by decide) (Nat.zero_le _) HOk.out HNd.out HB3.out HI3.out).mono ?_;intro e w4 hv4;obtain ⟨res, hres⟩ : ∃ q, q = readK n (.value 1) (⟨0, xt, xa⟩ :: t) 0 := ⟨_, rfl⟩
 rw [<- hres] at hv4;have HF2 := HF.out;rw [<- hres] at HF2;have HF3 := hid HF2;obtain ⟨cs, L', m', f', rfl, hT, hI4, hO4, hA4, hm4⟩ := hv4;have hs4 := hA4.size;have hB4 : Below w.heap.size w w4 := HB3.out.trans (hA4.below HB3.out.size (fun i hi => by omega));have HT4 := hid ((hA4.block _ (by omega) (by omega)).trans HT3.out);have HU4 := hid ((hA4.block _ (by omega) (by omega)).trans HU3.out)
 have HB4 := hid hB4;have HI4 := hid hI4;obtain ⟨u0, u1, u2, u3, U4, u4, u44, U5, u5, u55, rfl⟩ := hT
 have hG : (f'.code ≠ 0 /\ r = (f', treeZ)) ∨ (f' = flt0 /\ ∃ t5, (L' = [] -> r = (flt0, t5)) /\ (∀ y q, L' = y :: q -> r = (fltA 4 y.at', treeZ)) /\ OwnT 9 (fun x => w3.heap.size <= x /\ x < w4.heap.size) w4 t5 [.int .i64 u0, .bool u1, .int .i64 u2, .string u3, .slice U4 u4 u44, .slice U5 u5 u55]) := by
  rcases res with fb | ⟨t5, L5, m5⟩
  ·obtain ⟨rfl, hne⟩ := hm4
   exact .inl ⟨hne, HF3.out⟩
  ·obtain ⟨e1, e2, e3, e4⟩ := hm4
   refine .inr ⟨e1, t5, fun e => ?_, fun y q e => ?_, e4⟩
   all_goals
    subst e2;subst e;exact HF3.out
 have HG := hid hG;clear hA4 hB4 hI4 hm4 hG hres HF2 hO4;obtain ⟨p4, hbx⟩ := HI4.out.open;have hpos := hbx.pos;obtain ⟨a0, a1, a2, a3, a4, a5, af⟩ := row6 hbx.row;have lb := row_lt hbx.row;have HLn := hid hbx.line;have lg4 := hbx.lines;obtain ⟨x0, x1, x2, x3, x4, x5, xf⟩ := row6 HT4.out;obtain ⟨y0, y1, y2, yf⟩ := row3 HU4.out;have l0 := row_lt HT4.out;have l1 := row_lt HU4.out;obtain ⟨fc, fa, fp⟩ := f'
 simp only at a3 a4 a5;clear hbx;rcases L' with _ | ⟨⟨yi, yt, ya⟩, q⟩
 ·obtain rfl : p4 = N := by simpa using hpos
  rcases HG.out with ⟨hne, hre⟩ | ⟨he, t5, hre, -, hown⟩
  ·have d1 : (fc != 0) = true := bne_iff_ne.2 hne
   have d2 : (fc == 0) = false := beq_eq_false_iff_ne.2 hne;have HRe := hid hre;clear hne hre;go_upto_region 13 with fail
   go_region_law (fail)
   all_goals
    (try go_wp2_with fail)
    exact bodyPost_ret (v := .tuple #[.agg #[.int .i64 0, .bool false, .int .i64 0, .string ⟨#[]⟩, .slice none 0 0, .slice none 0 0], .agg #[.int .i64 fc, .int .i64 fa, .string fp]]) (by simp only [results, Tryz.results18]; go_simp) rfl (ReadE.bad HRe.out (have hb04 := HB4.out; bel))
  ·have HRe := hid (hre rfl)
   have HOwn := hid hown;cases he
   clear hre hown;go_wp2_with fail
   exact bodyPost_ret (v := .tuple #[.agg #[.int .i64 u0, .bool u1, .int .i64 u2, .string u3, .slice U4 u4 u44, .slice U5 u5 u55], .agg #[.int .i64 0, .int .i64 0, .string ⟨#[]⟩]]) (by simp only [results, Tryz.results18]; go_simp) rfl ⟨[.int .i64 u0, .bool u1, .int .i64 u2, .string u3, .slice U4 u4 u44, .slice U5 u5 u55], by rw [HRe.out]; rfl, by rw [HRe.out]; exact (HOwn.out.up (by decide)).carry (fun q hq => Aside.block (S := fun q => q = w.heap.size ∨ q = w.heap.size + 1) asd q hq.2 (by omega)) (fun q hq => ⟨by omega, by simp; omega⟩), (have hb04 := HB4.out; bel)⟩
 ·have hpN : (p4 : Int) < N := by rw [List.length_cons] at hpos; omega
  have hp0 : (0 : Int) <= p4 := by omega
  obtain ⟨c0, c1, c2, cf⟩ := HLn.out _ _ rfl;simp only at c0 c1 c2;go_wp2_with fail
  have HI5 := hid (HI4.out.below (w' := w4.alloc (.cells #[.int .i64 u0, .bool u1, .int .i64 u2, .string u3, .slice U4 u4 u44, .slice U5 u5 u55] 34)) bel);refine (c_in_fail w2.heap.size g N c _ m' ⟨fc, fa, fp⟩ 4 ya _ HI5.out).mono ?_;rintro e w5 ⟨rfl, hI5, hA5⟩;obtain ⟨F5, hF5⟩ : ∃ F5, F5 = failF ⟨fc, fa, fp⟩ 4 ya := ⟨_, rfl⟩
  rw [<- hF5] at hI5
  have hG5 : F5.code ≠ 0 /\ r = (F5, treeZ) := by
   rcases HG.out with ⟨hne, hre⟩ | ⟨he, t5, -, hre, -⟩
   ·have e : F5 = ⟨fc, fa, fp⟩ := hF5.trans (if_neg hne)
    subst e;exact ⟨hne, hre⟩
   ·have e : F5 = fltA 4 ya := by rw [hF5, he]; exact if_pos rfl
    subst e;exact ⟨by show (4 : Int) ≠ 0; decide, hre _ _ rfl⟩
  have HB5 := hid (show Below w.heap.size w w5 from (HB4.out.trans (have hle := HB4.out.size; Below.alloc (Below.refl _ _) hle _)).trans (hA5.below (by have := HB4.out.size; simp; omega) (fun i hi => by omega)));have HT5 := hid ((hA5.block _ (by simp; omega) (by omega)).trans ((Below.heap_alloc _ _ _ (by omega)).trans HT4.out));have HU5 := hid ((hA5.block _ (by simp; omega) (by omega)).trans ((Below.heap_alloc _ _ _ (by omega)).trans HU4.out))
  have HG5 := hid hG5;obtain ⟨p5, hbx⟩ := hI5.open;clear a0 a1 a2 a3 a4 a5 af lb x0 x1 x2 x3 x4 x5 xf y0 y1 y2 yf l0 l1 c0 c1 c2 cf hI5 hA5 hF5 hG5;obtain ⟨a0, a1, a2, a3, a4, a5, af⟩ := row6 hbx.row;have lb := row_lt hbx.row;obtain ⟨x0, x1, x2, x3, x4, x5, xf⟩ := row6 HT5.out;obtain ⟨y0, y1, y2, yf⟩ := row3 HU5.out;have l0 := row_lt HT5.out;have l1 := row_lt HU5.out;obtain ⟨gc, ga, gp⟩ := F5
  simp only at a3 a4 a5;have d1 : (gc != 0) = true := bne_iff_ne.2 HG5.out.1;have d2 : (gc == 0) = false := beq_eq_false_iff_ne.2 HG5.out.1;clear hbx;go_upto_region 13 with fail
  go_region_law (fail)
  all_goals
   (try go_wp2_with fail)
   exact bodyPost_ret (v := .tuple #[.agg #[.int .i64 0, .bool false, .int .i64 0, .string ⟨#[]⟩, .slice none 0 0, .slice none 0 0], .agg #[.int .i64 gc, .int .i64 ga, .string gp]]) (by simp only [results, Tryz.results18]; go_simp) rfl (ReadE.bad HG5.out.2 (have hb05 := HB5.out; bel))
theorem readIn_flt (s : ByteArray) (h : (readIn s).1.code = 0) : (readIn s).1 = flt0 := by
 by_cases hf : (linesF s).2.code = 0
 rotate_left
 ·rw [readIn_fault hf] at h
  exact absurd h hf
 rcases hL : (linesF s).1 with _ | ⟨x, r⟩
 ·rw [readIn_empty hf hL] at h
  exact absurd (show (4 : Int) = 0 from h) (by decide)
 by_cases hx : x.ind = 0
 rotate_left
 ·rw [readIn_ind hf hL hx] at h
  exact absurd (show (4 : Int) = 0 from h) (by decide)
 rw [readIn_main hf hL hx] at h ⊢;rcases hk : readK (3 * costL (x :: r) + 3) (.value 1) (x :: r) 0 with f | ⟨t, L, m⟩
 ·rw [hk] at h
  exact absurd h (readK_code _ _ _ _ _ hk (Nat.le_refl _) (by unfold jobNe; simp))
 ·rcases L with _ | ⟨y, q⟩
  ·rfl
  ·rw [hk] at h
   exact absurd (show (4 : Int) = 0 from h) (by decide)
theorem readIn_tree (s : ByteArray) (h : ¬ (readIn s).1.code = 0) : (readIn s).2 = treeZ := by
 by_cases hf : (linesF s).2.code = 0
 rotate_left
 ·rw [readIn_fault hf]
 rcases hL : (linesF s).1 with _ | ⟨x, r⟩
 ·rw [readIn_empty hf hL]
 by_cases hx : x.ind = 0
 rotate_left
 ·rw [readIn_ind hf hL hx]
 rw [readIn_main hf hL hx] at h ⊢;rcases hk : readK (3 * costL (x :: r) + 3) (.value 1) (x :: r) 0 with f | ⟨t, L, m⟩
 ·rfl
 ·rcases L with _ | ⟨y, q⟩
  ·rw [hk] at h
   exact absurd rfl h
  ·rfl
theorem size_readIn (s : ByteArray) : sizeT 10 (readIn s).2 <= 1073741824 := by
 by_cases h : (readIn s).1.code = 0
 ·have := (okT_parts (readIn_ok h).1).1
  omega
 ·rw [readIn_tree s h]
  decide
def crN (s : ByteArray) : ByteArray × Flt := if (readIn s).1.code = 0 then (bracedB 10 (readIn s).2, flt0) else (⟨#[]⟩, (readIn s).1)
theorem c_impl_Crossed (s : ByteArray) (w : World) (hs : s.size <= 1048576) (hP : Pow w) (hE : ErrR w) (hT : Tabs w) (hV : CTab w) (hM : MaxL w) :
  Calls Tryz.prog 12 #[.string s] w fun e w' => e = .returned (.tuple #[.string (crN s).1, .agg (fltC (crN s).2)]) /\ Below w.heap.size w w' := by
 have hz := size_readIn s;have HF := hid (show crN s = if (readIn s).1.code = 0 then (bracedB 10 (readIn s).2, flt0) else (⟨#[]⟩, (readIn s).1) from rfl);have hf0 := readIn_flt s;have HI := hid (fun (w' : World) (h : Below w.heap.size w w') => c_impl_ReadIndented s w' hs (hV.below h) (hT.below h) (hE.below h) (hM.below h));obtain ⟨r, hr⟩ : ∃ r, r = readIn s := ⟨_, rfl⟩
 rw [<- hr] at HI HF hz hf0;obtain ⟨b, hb⟩ : ∃ b, b = crN s := ⟨_, rfl⟩
 rw [<- hb] at HF ⊢;clear hr hb;obtain ⟨⟨fc, fa, fp⟩, t⟩ := r;simp only at HF hz hf0;have hrf : fltC (⟨fc, fa, fp⟩ : Flt) = #[.int .i64 fc, .int .i64 fa, .string fp] := rfl;go_enter Tryz.func12, Tryz.ntmps12
 go_wp2_with fail
 refine (HI.out _ bel).mono ?_;rintro e w1 ⟨cs, rfl, hO1, hb1⟩;have HC1 := hid (hO1.toC (fun _ h => h));obtain ⟨U4, u44, U5, u55, rfl, -⟩ := hO1.flat;simp only [hrf];clear hO1 hrf;have X0 : w1.heap[w.heap.size]? = some (.cells #[.int .i64 0, .int .i64 0, .string ⟨#[]⟩] 23 (0, 0)) := (hb1.block _ (by simp)).trans (heap_at rfl);have hb01 : Below w.heap.size w w1 := Below.trans bel (hb1.mono (by simp))
 have l0 := row_lt X0;have HX0 := hid X0;have HB01 := hid hb01;clear hb1 X0 hb01;go_upto_region 2 with fail
 obtain ⟨w2, hw2⟩ : ∃ W, W = (w1.alloc (.cells #[.int .i64 t.kind, .bool t.flag, .int .i64 t.num, .string t.text, .slice U4 t.keys.length u44, .slice U5 t.kids.length u55] 34)).alloc (.cells #[.int .i64 fc, .int .i64 fa, .string fp] 23) := ⟨_, rfl⟩
 have hb2 : Below w1.heap.size w1 w2 := by rw [hw2]; exact bel
 have X1 : w2.heap[w1.heap.size]? = some (.cells #[.int .i64 t.kind, .bool t.flag, .int .i64 t.num, .string t.text, .slice U4 t.keys.length u44, .slice U5 t.kids.length u55] 34 (0, 0)) := by rw [hw2]; exact (Below.heap_alloc _ _ _ (by simp)).trans (heap_at rfl)
 have X2 : w2.heap[w1.heap.size + 1]? = some (.cells #[.int .i64 fc, .int .i64 fa, .string fp] 23 (0, 0)) := by rw [hw2]; exact heap_at (by simp)
 rw [<- hw2];have s2 := hb2.size;have HX1 := hid X1;have HX2 := hid X2;have HX02 := hid ((hb2.block _ l0).trans HX0.out);have HB02 := hid (HB01.out.trans (hb2.mono HB01.out.size));have hz01 := HB01.out.size;have HC2 := hid ((HC1.out.keep (same_below hb2) (Nat.zero_le _) hb2.size : C_Tree 10 0 w2.heap.size w2 t _));have l1 := row_lt X1;have l2 := row_lt X2;obtain ⟨x0, x1, x2, x3, x4, x5, xf⟩ := row6 X1
 obtain ⟨y0, y1, y2, yf⟩ := row3 X2;obtain ⟨z0, z1, z2, zf⟩ := row3 HX02.out;have l02 := row_lt HX02.out;clear hw2 hb2 X1 X2 HC1 HX0 HB01;have q1 : (fc == 0) = false ∨ (fc == 0) = true := by rcases (fc == 0) with _ | _ <;> simp
 rcases q1 with q1 | q1
 ·have hne : fc ≠ 0 := fun e => by rw [e] at q1; cases q1
  have HX := hid (show b = (⟨#[]⟩, ⟨fc, fa, fp⟩) by rw [HF.out, if_neg hne]);clear hne hf0;go_upto_region 3 with fail
  go_region_law fail
  go_wp2_with fail
  have hb2 := HB02.out;all_goals exact bodyPost_ret (v := .tuple #[.string ⟨#[]⟩, .agg #[.int .i64 fc, .int .i64 fa, .string fp]]) (by simp only [results, Tryz.results12]; go_simp) rfl ⟨by rw [HX.out]; rfl, bel⟩
 ·have he : fc = 0 := by simpa using q1
  have HX := hid (show b = (bracedB 10 t, flt0) by rw [HF.out, if_pos he]);have h0 := hf0 he;unfold flt0 at h0;injection h0 with e1 e2 e3
  subst e1 e2 e3;clear hf0 he;have HT := hid (fun (w' : World) (h : Below w2.heap.size w2 w') => c_impl_BracedText 10 t _ w' 0 (HC2.out.now h) hz (hT.below (HB02.out.trans (h.mono HB02.out.size))) (hP.below (HB02.out.trans (h.mono HB02.out.size))));go_wp2_with fail
  refine (HT.out _ bel).mono ?_;rintro e w3 ⟨rfl, hb3⟩;have h23 : Below w2.heap.size w2 w3 := Below.trans bel (hb3.mono (by simp));have h03 := HB02.out.trans (h23.mono HB02.out.size);have X0 := (h23.block _ l02).trans HX02.out;have X2 := (h23.block _ l2).trans HX2.out;obtain ⟨u0, u1, u2, uf⟩ := row3 X2;obtain ⟨v0, v1, v2, vf⟩ := row3 X0;have l03 := row_lt X0;have l23 := row_lt X2;clear y0 y1 y2 yf z0 z1 z2 zf x0 x1 x2 x3 x4 x5 xf
  go_wp2_with fail
  have hb2 := HB02.out;all_goals exact bodyPost_ret (v := .tuple #[.string (bracedB 10 t), .agg #[.int .i64 0, .int .i64 0, .string ⟨#[]⟩]]) (by simp only [results, Tryz.results12]; go_simp) rfl ⟨by rw [HX.out]; rfl, bel⟩
theorem toL_len (s : ByteArray) : s.data.toList.length = s.size := Array.length_toList
theorem bad_kids {d : TreeD} (h : badH d = false) : d.kind <= 6 /\ (d.kind < 5 -> d.kids = []) := by
 unfold badH at h;simp only [Bool.or_eq_false_iff, Bool.not_eq_false', Bool.and_eq_false_iff, bne_eq_false_iff_eq, decide_eq_false_iff_not, Nat.not_lt, Nat.le_zero, List.length_eq_zero_iff] at h;obtain ⟨⟨⟨⟨⟨h1, -⟩, -⟩, -⟩, -⟩, h6⟩ := h;refine ⟨?_, fun hk => h6.resolve_right (by omega)⟩;unfold inB at h1;exact (of_decide_eq_true h1).2
theorem linesT_leaf {n : Nat} {d : TreeD} (h : d.kids = []) : linesT (n + 1) d = [(scalText d).data.toList] := by rw [linesT, if_pos h]
theorem linesT_kids {n : Nat} {d : TreeD} (h : d.kids ≠ []) : linesT (n + 1) d = manyL (kidLines (linesT n) d) d.kids.length := by rw [linesT, if_neg h]
theorem key_big {s : ByteArray} (h : s.size <= 400) : (keyText s).size <= 2402 := by
 unfold keyText;split
 ·omega
 ·have := quote_len s
  have e : (quoteB s).data.toList.length = (quoteB s).size := Array.length_toList;omega
theorem strB_size {s : ByteArray} (h : strB s = true) : s.size <= 400 := by
 unfold strB at h;simp only [Bool.and_eq_true, decide_eq_true_eq] at h;exact h.1
theorem scal_big {n : Nat} {d : TreeD} (h : shapeT (n + 1) d = true) (hn : numT (n + 1) d) : (scalText d).size <= 2402 := by
 unfold scalText;split
 ·exact key_big (strB_size (shape_parts h).2.1)
 split
 ·decide
 split
 ·decide
 split
 ·decide
 split
 ·split <;> decide
 ·have := decS_size _ hn.1
  omega
structure LinB (n : Nat) (d : TreeD) : Prop where
 hd : ∃ x r, linesT n d = x :: r
 many : (linesT n d).length <= sizeT n d
 more : d.kids ≠ [] -> (linesT n d).length + 1 <= sizeT n d
 long : ∀ x ∈ linesT n d, x.length <= 4806 + 2 * depthT n d
 leaf : d.kids = [] -> ∀ x ∈ linesT n d, x.length <= 2402
theorem blank2_len (L : List (List UInt8)) : (blank2 L).length = L.length := List.length_map _
theorem kid_one {f : TreeD -> List (List UInt8)} {d t : TreeD} {i : Nat} {k : ByteArray} (h6 : d.kind = 6) (ht : d.kids[i]? = some t) (hk : d.keys[i]? = some k) (hl : t.kids = []) : kidLines f d i = [(keyText k).data.toList ++ [58, 32] ++ (f t).headD []] := by
 unfold kidLines;rw [ht];simp only [if_pos h6, hk, if_pos hl]
theorem kid_more {f : TreeD -> List (List UInt8)} {d t : TreeD} {i : Nat} {k : ByteArray} (h6 : d.kind = 6) (ht : d.kids[i]? = some t) (hk : d.keys[i]? = some k) (hl : t.kids ≠ []) : kidLines f d i = ((keyText k).data.toList ++ [58]) :: blank2 (f t) := by
 unfold kidLines;rw [ht];simp only [if_pos h6, hk, if_neg hl]
theorem kid_item {f : TreeD -> List (List UInt8)} {d t : TreeD} {i : Nat} {x : List UInt8} {r : List (List UInt8)} (h6 : d.kind ≠ 6) (ht : d.kids[i]? = some t) (hx : f t = x :: r) : kidLines f d i = ([45, 32] ++ x) :: blank2 r := by
 unfold kidLines;rw [ht];simp only [if_neg h6, hx]
theorem kind_kids {n : Nat} {d : TreeD} (h : shapeT (n + 1) d = true) (hk : d.kids ≠ []) : d.kind = 5 ∨ (d.kind = 6 /\ d.keys.length = d.kids.length) := by
 obtain ⟨h1, -, h3, -, -⟩ := shape_parts h;obtain ⟨k2, p6⟩ := bad_kids h1;by_cases c : d.kind = 6
 ·right
  refine ⟨c, ?_⟩;unfold lensOk at h3;simp [c] at h3;exact h3
 ·left
  by_cases c5 : d.kind < 5
  ·exact absurd (p6 c5) hk
  ·omega
theorem kid_lin {n i : Nat} {d t : TreeD} (h : shapeT (n + 1) d = true) (ht : d.kids[i]? = some t) (hb : LinB n t) :
  (∃ x r, kidLines (linesT n) d i = x :: r) /\ (kidLines (linesT n) d i).length <= sizeT n t /\ ∀ x ∈ kidLines (linesT n) d i, x.length <= 4806 + 2 * depthT (n + 1) d := by
 have hne : d.kids ≠ [] := fun e => by rw [e] at ht; cases ht
 obtain ⟨x, r, hx⟩ := hb.hd;have hdk := (depth_kid (n := n) ht).2
 have hbl : ∀ L : List (List UInt8), (∀ z ∈ L, z.length <= 4806 + 2 * depthT n t) -> ∀ y ∈ blank2 L, y.length <= 4806 + 2 * depthT (n + 1) d := fun L hL y hy => by
  have hdk := (depth_kid (n := n) ht).2;unfold blank2 at hy;obtain ⟨z, hz, rfl⟩ := List.mem_map.1 hy;have := hL z hz;simp only [List.length_append, List.length_cons, List.length_nil];omega
 rcases kind_kids h hne with h5 | ⟨h6, hl⟩
 ·rw [kid_item (by omega) ht hx]
  refine ⟨⟨_, _, rfl⟩, ?_, fun y hy => ?_⟩
  ·have := hb.many
   rw [hx] at this;simp only [List.length_cons, blank2_len] at this ⊢;omega
  ·have h1 := hb.long
   rw [hx] at h1;rcases List.mem_cons.1 hy with rfl | hy
   ·have := h1 x (by simp)
    simp only [List.length_append, List.length_cons, List.length_nil];omega
   ·exact hbl r (fun z hz => h1 z (by simp [hz])) y hy
 ·obtain ⟨k, hk⟩ := exists_at (show i < d.keys.length by have := (List.getElem?_eq_some_iff.1 ht).1; omega)
  have hkz := key_big (shape_key h hk);rw [<- toL_len] at hkz;by_cases hlf : t.kids = []
  ·rw [kid_one h6 ht hk hlf]
   refine ⟨⟨_, _, rfl⟩, ?_, fun y hy => ?_⟩
   ·have := hb.many
    rw [hx] at this;simp only [List.length_cons, List.length_nil] at this ⊢;omega
   ·rcases List.mem_singleton.1 hy with rfl
    have := hb.leaf hlf x (by rw [hx]; simp);rw [hx];simp only [List.length_append, List.length_cons, List.length_nil, List.headD_cons];omega
  ·rw [kid_more h6 ht hk hlf]
   refine ⟨⟨_, _, rfl⟩, ?_, fun y hy => ?_⟩
   ·have := hb.more hlf
    simp only [List.length_cons, blank2_len];omega
   ·rcases List.mem_cons.1 hy with rfl | hy
    ·simp only [List.length_append, List.length_cons, List.length_nil]
     omega
    ·exact hbl _ hb.long y hy
theorem many_lin {g : Nat -> List (List UInt8)} {f : TreeD -> Nat} {l : List TreeD} {m : Nat} : ∀ k, k <= l.length -> (∀ i t, i < k -> l[i]? = some t -> (g i).length <= f t /\ ∀ x ∈ g i, x.length <= m) -> (manyL g k).length <= szL f (l.take k) /\ ∀ x ∈ manyL g k, x.length <= m
 | 0, _, _ => ⟨Nat.zero_le _, fun x hx => by cases hx⟩
 | k + 1, hk, h => by
  obtain ⟨h1, h2⟩ := many_lin k (by omega) (fun i t hi => h i t (by omega));obtain ⟨t, ht⟩ := exists_at (show k < l.length by omega);obtain ⟨h3, h4⟩ := h k t (Nat.lt_succ_self k) ht;refine ⟨?_, fun x hx => ?_⟩
  ·rw [manyL, List.length_append, szL_take_succ f l k t ht]
   omega
  ·rw [manyL] at hx
   rcases List.mem_append.1 hx with hx | hx
   ·exact h2 x hx
   ·exact h4 x hx
theorem manyL_hd {g : Nat -> List (List UInt8)} {x : List UInt8} {r : List (List UInt8)} (h : g 0 = x :: r) : ∀ k, ∃ y q, manyL g (k + 1) = y :: q
 | 0 => ⟨x, r, by rw [manyL, manyL, h]; rfl⟩
 | k + 1 => by
  obtain ⟨y, q, e⟩ := manyL_hd h k;exact ⟨y, q ++ g (k + 1), by rw [manyL, e]; rfl⟩
theorem lin_ok : ∀ (n : Nat) (d : TreeD), shapeT n d = true -> numT n d -> LinB n d
 | 0, _, h, _ => by cases h
 | n + 1, d, h, hn => by
  by_cases hk : d.kids = []
  ·have hs := scal_big h hn
   rw [<- toL_len] at hs;refine ⟨⟨_, _, linesT_leaf hk⟩, ?_, fun e => absurd hk e, fun x hx => ?_, fun _ x hx => ?_⟩
   ·rw [linesT_leaf hk, sizeT_succ]
    simp only [List.length_cons, List.length_nil];omega
   ·rw [linesT_leaf hk] at hx
    rcases List.mem_singleton.1 hx with rfl
    omega
   ·rw [linesT_leaf hk] at hx
    rcases List.mem_singleton.1 hx with rfl
    exact hs
  ·have hall : ∀ i t, d.kids[i]? = some t -> (∃ x r, kidLines (linesT n) d i = x :: r) /\ (kidLines (linesT n) d i).length <= sizeT n t /\ ∀ x ∈ kidLines (linesT n) d i, x.length <= 4806 + 2 * depthT (n + 1) d := fun i t ht =>
    kid_lin h ht (lin_ok n t (shape_kid h ht) (hn.2 t (List.mem_of_getElem? ht)))
   have hpos : 0 < d.kids.length := List.length_pos_iff.2 hk;obtain ⟨h1, h2⟩ := many_lin (g := kidLines (linesT n) d) (f := sizeT n) (l := d.kids) (m := 4806 + 2 * depthT (n + 1) d) d.kids.length (Nat.le_refl _) (fun i t _ ht => (hall i t ht).2);rw [List.take_of_length_le (Nat.le_refl _)] at h1
   have hm : (linesT (n + 1) d).length + 1 <= sizeT (n + 1) d := by
    rw [linesT_kids hk, sizeT_succ];omega
   refine ⟨?_, by omega, fun _ => hm, fun x hx => ?_, fun e => absurd e hk⟩
   ·obtain ⟨q, hq⟩ : ∃ q, d.kids.length = q + 1 := ⟨d.kids.length - 1, by omega⟩
    obtain ⟨t, ht⟩ := exists_at hpos;obtain ⟨x, r, hx⟩ := (hall 0 t ht).1;rw [linesT_kids hk, hq];exact manyL_hd hx q
   ·rw [linesT_kids hk] at hx
    exact h2 x hx
theorem manyL_next (g : Nat -> List (List UInt8)) (k : Nat) : manyL g (k + 1) = manyL g k ++ g k := rfl
def txts (L : List (List UInt8)) : List ByteArray := L.map bs
theorem txts_app (a b : List (List UInt8)) : txts (a ++ b) = txts a ++ txts b := List.map_append
theorem txts_len (L : List (List UInt8)) : (txts L).length = L.length := List.length_map _
theorem bs_cat (a b : List UInt8) : bs (a ++ b) = bs a ++ bs b := by
 unfold bs;apply ByteArray.ext;simp
theorem bs_self (s : ByteArray) : bs s.data.toList = s := by unfold bs; simp
def RowS (base : Nat) (w : World) (L : List ByteArray) (n : Nat) (v : Value) : Prop := n = L.length /\ w.ownsRow base 9 1 v n (L.map Value.string)
theorem RowS.carry {base n : Nat} {w w' : World} {L : List ByteArray} {v : Value} (h : RowS base w L n v) (hb : ∀ q, v.ownBlock = some q -> w'.heap[q]? = w.heap[q]?) : RowS base w' L n v := ⟨h.1, ownsRow_carry h.2 hb⟩
theorem RowS.lt {base n : Nat} {w : World} {L : List ByteArray} {v : Value} (h : RowS base w L n v) {q : Nat} (hq : v.ownBlock = some q) : base <= q /\ q < w.heap.size := World.ownsRow.lt h.2 q hq
theorem RowS.below {base n : Nat} {w w' : World} {L : List ByteArray} {v : Value} (h : RowS base w L n v) (hb : Below w.heap.size w w') : RowS base w' L n v := h.carry (fun q hq => hb.block q (h.lt hq).2)
theorem RowS.less {base base' n : Nat} {w : World} {L : List ByteArray} {v : Value} (h : RowS base w L n v) (hb : base' <= base) : RowS base' w L n v := ⟨h.1, own_less h.2 hb⟩
theorem RowS.empty {w : World} {base B : Nat} (hB : B = w.heap.size) (hb : base <= w.heap.size) : RowS base (w.alloc (.cells #[] 9)) [] 0 (.slice (some ⟨B, 0, none⟩) 0 0) := ⟨rfl, own_empty hB hb⟩
theorem RowS.open {base n c : Nat} {A : Option Addr} {w : World} {L : List ByteArray} (h : RowS base w L n (.slice A n c)) (hp : 0 < n) : ∃ q, A = some ⟨q, 0, none⟩ /\ base <= q /\ q < w.heap.size /\ n <= c /\ ∀ i s, L[i]? = some s -> w.cell? ⟨q, i, none⟩ = some (.string s) := by
 obtain ⟨rfl, h2⟩ := h;rcases h2.2 with ⟨h0, h1⟩ | ⟨g, cap, cur, h0, hb, hg, hn, hcm, hcs, ht⟩
 ·omega
 ·cases h0
  refine ⟨g, rfl, hb, row_lt hg, hn, fun i s hi => ?_⟩;have hil := (List.getElem?_eq_some_iff.1 hi).1;have : (cur.toList.take (L.length * 1))[i]? = (L.map Value.string)[i]? := by rw [ht]
  rw [List.getElem?_take, if_pos (by omega), Array.getElem?_toList, List.getElem?_map, hi] at this;rw [cell_of_row w g _ cur _ _ hg]
  simpa using this
theorem own_str1 (w : World) (s : ByteArray) : (w.alloc (.cells #[.string s] 9)).ownsRow w.heap.size 9 1 (.slice (some ⟨w.heap.size, 0, none⟩) 1 1) 1 [.string s] :=
 ⟨rfl, .inr ⟨w.heap.size, 1, #[.string s], rfl, Nat.le_refl _, heap_alloc_new w _, Nat.le_refl _, by unfold maxLen; omega, rfl, rfl⟩⟩
theorem RowS.one (w : World) (s : ByteArray) (base : Nat) (hb : base <= w.heap.size) : RowS base (w.alloc (.cells #[.string s] 9)) [s] 1 (.slice (some ⟨w.heap.size, 0, none⟩) 1 1) := ⟨rfl, own_less (own_str1 w s) hb⟩
theorem rowS_push (wx : World) (base n c : Nat) (A : Option Addr) (L : List ByteArray) (s : ByteArray) (h : RowS base wx L n (.slice A n c)) (hsz : n <= 1048576) (hbase : base <= wx.heap.size) :
  ∃ (A' : Option Addr) (c' : Nat) (w' : World), (Builtin.append_ #[31, 31] 31 #[.slice A n c, .slice (some ⟨wx.heap.size, 0, none⟩) 1 1]).run Tryz.prog (wx.alloc (.cells #[.string s] 9)) = .ok (.slice A' (n + 1) c') w' /\ RowS base w' (L ++ [s]) (n + 1) (.slice A' (n + 1) c') /\ Grb wx (.slice A n c) w' (.slice A' (n + 1) c') := by
 obtain ⟨i0, hi, hz0, hz1, hz2⟩ := info_parts (show (Tryz.prog.info? 9).map (fun i => (i.zero, i.size, i.bytes)) = some (some (.string ⟨#[]⟩), 1, 16) from by kernel_rfl);obtain ⟨hn, h⟩ := h;have hb : Below wx.heap.size wx (wx.alloc (.cells #[.string s] 9)) := bel;have h' := ownsRow_carry h (fun q hq => hb.block q (World.ownsRow.lt h q hq).2);obtain ⟨v', w', hr, h2, h3, h5⟩ := run_append_row (P := Tryz.prog) (wx.alloc (.cells #[.string s] 9)) 31 31 base 9 i0 (.string ⟨#[]⟩) 1 16 Tryz.underlying31 hi hz0 hz1 hz2 rfl (by decide) (.slice A n c) n _ h' wx.heap.size 1 _ _ (own_str1 wx s) (fun u hu => by rcases List.mem_singleton.1 hu with rfl; rfl) (by unfold maxLen; omega) (by omega) (by simp; omega)
 obtain ⟨A', c', rfl⟩ := own_form h2;exact ⟨A', c', w', hr, ⟨by rw [List.length_append, <- hn]; rfl, by rw [List.map_append]; exact h2⟩, (Grb.of _ hb).trans (Grb.of_at h3 h5)⟩
theorem ok_leaf {n : Nat} {d : TreeD} (h : shapeT (n + 1) d = true) (hk : d.kids = []) : okT (n + 1) d = true := by
 have h1 : depthT (n + 1) d = 1 := by rw [depthT_succ, hk]; rfl
 have h2 : sizeT (n + 1) d = 1 := by rw [sizeT_succ, hk]; rfl
 rw [okT_def, h1, h2, h];rfl
theorem scal_4 {d : TreeD} (h : d.kind = 4) : scalText d = keyText d.text := if_pos h
theorem scal_5 {d : TreeD} (h : d.kind = 5) : scalText d = bs [91, 93] := by unfold scalText; rw [if_neg (by omega), if_pos h]
theorem scal_6 {d : TreeD} (h : d.kind = 6) : scalText d = bs [123, 125] := by unfold scalText; rw [if_neg (by omega), if_neg (by omega), if_pos h]
theorem scal_1 {d : TreeD} (h : d.kind = 1) : scalText d = bs litN := by unfold scalText; rw [if_neg (by omega), if_neg (by omega), if_neg (by omega), if_pos h]
theorem scal_2 {d : TreeD} (h : d.kind = 2) : scalText d = if d.flag then bs litT else bs litF := by unfold scalText; rw [if_neg (by omega), if_neg (by omega), if_neg (by omega), if_neg (by omega), if_pos h]
theorem scal_3 {d : TreeD} (h : d.kind = 3) : scalText d = decS d.num := by unfold scalText; rw [if_neg (by omega), if_neg (by omega), if_neg (by omega), if_neg (by omega), if_neg (by omega)]
theorem scal_say {n : Nat} {d : TreeD} (h : 1 <= d.kind /\ d.kind <= 3) : scalText d = bs (sayL (n + 1) d) := by
 rw [sayL_succ];by_cases c1 : d.kind = 1
 ·rw [if_pos c1, scal_1 c1]
 by_cases c2 : d.kind = 2
 ·rw [if_neg c1, if_pos c2, scal_2 c2]
  split <;> rfl
 ·rw [if_neg c1, if_neg c2, if_pos (by omega), scal_3 (by omega), bs_self]
theorem kind_of {n : Nat} {d : TreeD} (h : shapeT (n + 1) d = true) : 1 <= d.kind /\ d.kind <= 6 := by
 have hb := (shape_parts h).1;unfold badH at hb;simp only [Bool.or_eq_false_iff, Bool.not_eq_false', Bool.and_eq_false_iff] at hb;obtain ⟨⟨⟨⟨⟨h1, -⟩, -⟩, -⟩, -⟩, -⟩ := hb;unfold inB at h1;exact of_decide_eq_true h1
theorem c_impl_KeyText (s : ByteArray) (w : World) (hs : s.size <= 1048576) (hT : Tabs w) :
  Calls Tryz.prog 157 #[.string s] w fun e w' => e = .returned (.string (keyText s)) /\ Below w.heap.size w w' := by
 have HP := hid (c_impl_PlainOk s w hs hT);have HQ := hid (fun (W : World) (h : Below w.heap.size w W) => c_impl_Quoted s W hs (hT.below h));obtain ⟨r, hr⟩ : ∃ r, r = keyText s := ⟨_, rfl⟩
 rw [<- hr];have HR := hid hr;clear hT hr;rcases hp : plainB s with _ | _
 focus
  have HF := hid (show r = quoteB s by rw [HR.out]; unfold keyText; rw [hp]; rfl);rw [hp] at HP;clear hp;go_enter Tryz.func157, Tryz.ntmps157
  go_wp2_with fail
  refine HP.out.mono ?_;rintro e w1 ⟨rfl, hb1⟩;go_wp2_with fail
  refine (HQ.out w1 hb1).mono ?_;rintro e w2 ⟨rfl, hb2⟩;have HB := hid (hb1.trans (hb2.mono hb1.size))
 rotate_left
 focus
  have HF := hid (show r = s by rw [HR.out]; unfold keyText; rw [hp]; rfl);rw [hp] at HP;clear hp;go_enter Tryz.func157, Tryz.ntmps157
  go_wp2_with fail
  refine HP.out.mono ?_;rintro e w1 ⟨rfl, hb1⟩;have HB := hid hb1
 rotate_left
 all_goals
  go_wp2_with fail
  go_ret
  exact ⟨by rw [HF.out]; rfl, HB.out⟩
theorem c_impl_ScalarText (n : Nat) (d : TreeD) (cs : List Value) (w : World) (lo : Nat) (h : C_Tree (n + 1) lo w.heap.size w d cs) (hk : d.kids = []) (hsh : shapeT (n + 1) d = true) (hT : Tabs w) (hP : Pow w) :
  Calls Tryz.prog 156 #[.agg cs.toArray] w fun e w' => e = .returned (.tuple #[.string (scalText d), .bool true]) /\ Below w.heap.size w w' := by
 have hz1 : sizeT (n + 1) d = 1 := by rw [sizeT_succ, hk]; rfl
 have HK := hid (fun (W : World) (hb : Below w.heap.size w W) => ok_leaf hsh hk ▸ c_impl_TreeOk (n + 1) d cs W lo (h.now hb) (by omega) (hT.below hb));have HS := hid (fun (W : World) (hb : Below w.heap.size w W) => all_sayI (n + 1) d cs W w lo w.heap.size 0 0 none [] (h.old hb) hsh hb.size (by omega) (bufN_nil _ _) hT hP (Nat.le_refl _) hb);have HKT := hid (fun (W : World) (hb : Below w.heap.size w W) => c_impl_KeyText d.text W (by have := strB_size (shape_parts hsh).2.1; omega) (hT.below hb))
 have hk6 := kind_of hsh;obtain ⟨r, hr⟩ : ∃ r, r = scalText d := ⟨_, rfl⟩
 rw [<- hr];obtain ⟨y, hy⟩ : ∃ y, y = sayL (n + 1) d := ⟨_, rfl⟩
 rw [<- hy] at HS;have HR := hid hr;have HY := hid hy;obtain ⟨A4, c4, A5, c5, rfl⟩ := C_Tree.open h;clear h hsh hT hP hz1 hr hy;obtain ⟨dk, df, dn, dt, dks, dkd⟩ := d;simp only at hk hk6 HK HS HKT HR HY ⊢;subst hk;simp only [List.length_nil] at HK HS ⊢;simp only [Nat.zero_add, List.nil_append] at HS;by_cases k4 : dk = 4
 ·have d4 : (dk == 4) = true := beq_iff_eq.2 k4
  have HF := hid (show r = keyText dt from HR.out.trans (scal_4 k4));clear k4;go_enter Tryz.func156, Tryz.ntmps156
  go_upto_region 3 with (go_at_call 81; refine (HK.out _ bel).mono ?_; rintro e w1 ⟨rfl, hb⟩; (first | (have hcu2 := Cum.join hcu hb; (try clear hcu); (try clear hc); (try clear hfz); (try clear hsz); (try clear hs0); (try clear hs1); (try clear hs2); (try clear hs3); (try clear hs4); ) | have hcu2 := Cum.mk hb); have hcu := hcu2; clear hcu2; obtain ⟨hc, hfz⟩ := bcell hcu.h; have hsz := hcu.h.size; (try simp at hsz); (try have hs0 := lt_of_succ_le hsz); (try (have hs1 := lt_pred hsz; (try (have hs2 := lt_pred hs1; (try (have hs3 := lt_pred hs2; (try have hs4 := lt_pred hs3))))))))
  go_wp2_with fail
  refine (HKT.out _ bel).mono ?_;rintro e w9 ⟨rfl, hb9⟩;go_wp2_with fail
  exact bodyPost_ret (v := .tuple #[.string (keyText dt), .bool true]) (by simp only [results, Tryz.results156]; go_simp) rfl ⟨by rw [HF.out], bel⟩
 have d4 : (dk == 4) = false := beq_eq_false_iff_ne.2 k4;by_cases k5 : dk = 5
 ·have d5 : (dk == 5) = true := beq_iff_eq.2 k5
  have HF := hid (show r = bs [91, 93] from HR.out.trans (scal_5 k5));clear k4 k5;go_enter Tryz.func156, Tryz.ntmps156
  go_upto_region 3 with (go_at_call 81; refine (HK.out _ bel).mono ?_; rintro e w1 ⟨rfl, hb⟩; (first | (have hcu2 := Cum.join hcu hb; (try clear hcu); (try clear hc); (try clear hfz); (try clear hsz); (try clear hs0); (try clear hs1); (try clear hs2); (try clear hs3); (try clear hs4); ) | have hcu2 := Cum.mk hb); have hcu := hcu2; clear hcu2; obtain ⟨hc, hfz⟩ := bcell hcu.h; have hsz := hcu.h.size; (try simp at hsz); (try have hs0 := lt_of_succ_le hsz); (try (have hs1 := lt_pred hsz; (try (have hs2 := lt_pred hs1; (try (have hs3 := lt_pred hs2; (try have hs4 := lt_pred hs3))))))))
  go_wp2_with fail
  exact bodyPost_ret (v := .tuple #[.string ⟨#[91, 93]⟩, .bool true]) (by simp only [results, Tryz.results156]; go_simp) rfl ⟨by rw [HF.out]; rfl, bel⟩
 have d5 : (dk == 5) = false := beq_eq_false_iff_ne.2 k5;by_cases k6 : dk = 6
 ·have d6 : (dk == 6) = true := beq_iff_eq.2 k6
  have HF := hid (show r = bs [123, 125] from HR.out.trans (scal_6 k6));clear k4 k5 k6;go_enter Tryz.func156, Tryz.ntmps156
  go_upto_region 3 with (go_at_call 81; refine (HK.out _ bel).mono ?_; rintro e w1 ⟨rfl, hb⟩; (first | (have hcu2 := Cum.join hcu hb; (try clear hcu); (try clear hc); (try clear hfz); (try clear hsz); (try clear hs0); (try clear hs1); (try clear hs2); (try clear hs3); (try clear hs4); ) | have hcu2 := Cum.mk hb); have hcu := hcu2; clear hcu2; obtain ⟨hc, hfz⟩ := bcell hcu.h; have hsz := hcu.h.size; (try simp at hsz); (try have hs0 := lt_of_succ_le hsz); (try (have hs1 := lt_pred hsz; (try (have hs2 := lt_pred hs1; (try (have hs3 := lt_pred hs2; (try have hs4 := lt_pred hs3))))))))
  go_wp2_with fail
  exact bodyPost_ret (v := .tuple #[.string ⟨#[123, 125]⟩, .bool true]) (by simp only [results, Tryz.results156]; go_simp) rfl ⟨by rw [HF.out]; rfl, bel⟩
 have d6 : (dk == 6) = false := beq_eq_false_iff_ne.2 k6;have HF := hid (show r = ⟨y.toArray⟩ by rw [HR.out, HY.out]; exact scal_say (d := ⟨dk, df, dn, dt, dks, []⟩) ⟨hk6.1, by show dk <= 3; omega⟩);obtain ⟨m, hm⟩ : ∃ m, m = y.length := ⟨_, rfl⟩
 rw [<- hm] at HS;have HM := hid hm;have hsz : (⟨y.toArray⟩ : ByteArray).size = m := by rw [hm]; show y.toArray.size = y.length; simp
 clear k4 k5 k6 hm;go_enter Tryz.func156, Tryz.ntmps156
 go_upto_region 3 with (go_at_call 81; refine (HK.out _ bel).mono ?_; rintro e w1 ⟨rfl, hb⟩; (first | (have hcu2 := Cum.join hcu hb; (try clear hcu); (try clear hc); (try clear hfz); (try clear hsz); (try clear hs0); (try clear hs1); (try clear hs2); (try clear hs3); (try clear hs4); ) | have hcu2 := Cum.mk hb); have hcu := hcu2; clear hcu2; obtain ⟨hc, hfz⟩ := bcell hcu.h; have hsz := hcu.h.size; (try simp at hsz); (try have hs0 := lt_of_succ_le hsz); (try (have hs1 := lt_pred hsz; (try (have hs2 := lt_pred hs1; (try (have hs3 := lt_pred hs2; (try have hs4 := lt_pred hs3))))))))
 go_wp2_with fail
 refine (HS.out _ bel).mono ?_;rintro e w9 ⟨A9, c9, rfl, h9, g9⟩;have hcv := own_string HM.out (show w9.ownsRow w.heap.size 5 1 (.slice A9 m c9) m (Lib.strCells ⟨y.toArray⟩) from h9.2);have hb8 := g9.below (bufN_nil w.heap.size _).2 (show Below w.heap.size w _ from bel).size;have hb9 : Below w.heap.size w w9 := Below.trans (show Below w.heap.size w _ from bel) hb8;clear h9 g9 hb8;go_wp2_with fail
 exact bodyPost_ret (v := .tuple #[.string ⟨y.toArray⟩, .bool true]) (by simp only [results, Tryz.results156]; go_simp) rfl ⟨by rw [HF.out], hb9⟩
end Go.Proofs.YtohcpifekcehjaaGreatDoor
