/- Steps to FnCrossed. No conditions. -/
import Derived.Test.YtohcpifekcehjaaGreatDoorKfcr15
import Derived.Test.YtohcpifekcehjaaGreatDoorKfcr3
import Derived.Test.YtohcpifekcehjaaGreatDoorKfcr6
import Derived.Test.YtohcpifekcehjaaGreatDoorKfcr8
import Derived.Test.YtohcpifekcehjaaGreatDoorKfcr9
import Derived.Deep.CutBlock
import Derived.Deep.CutRange
set_option maxHeartbeats 16000000
set_option maxRecDepth 20000
namespace Go.Proofs.YtohcpifekcehjaaGreatDoor
open Go.RowKit Go.Lib
theorem head_contains (s : ByteArray) : headB s = firstBad.contains (s.get! 0) := by
 rw [List.contains_eq_any_beq];unfold headB;congr 1
 funext c
 exact byte_is.symm
theorem head_idx (s : ByteArray) : decide (0 <= Lib.indexByte firstBad (s.get! 0)) = headB s := by
 rw [head_contains];rcases h : firstBad.contains (s.get! 0) with _ | _
 ·exact decide_eq_false (by have := indexByte_lt.2 h; omega)
 ·refine decide_eq_true ?_
  rcases Int.lt_or_le (Lib.indexByte firstBad (s.get! 0)) 0 with g | g
  ·rw [indexByte_lt.1 g] at h; cases h
  ·exact g
theorem c_IndexFirst (s : ByteArray) (b : Nat) (hb : b = (s.get! 0).toNat) (w : World) : Calls Tryz.prog 130 #[.string { data := #[45, 63, 58, 44, 91, 93, 123, 125, 38, 42, 33, 124, 62, 39, 37, 64, 96] }, .int .u8 b] w fun e w' => ∃ z : Int, e = .returned (.int .i64 z) /\ decide (0 <= z) = headB s /\ w = w' := by
 subst hb;exact (c_strings_IndexByte _ (s.get! 0) w).mono (fun _ _ h => ⟨_, h.1, head_idx s, h.2⟩)
theorem c_impl_PlainOk (s : ByteArray) (w : World) (hs : s.size <= 1048576) (hT : Tabs w) :
  Calls Tryz.prog 182 #[.string s] w fun e w' => e = .returned (.bool (plainB s)) /\ Below w.heap.size w w' := by
 have HU := hid (c_impl_Utf8Ok s w (by omega) hT);obtain ⟨r, hr⟩ : ∃ r, r = plainB s := ⟨_, rfl⟩
 rw [<- hr];have HR := hid hr;clear hr hT;rcases hq1 : inB s.size 1 400 with _ | _
 ·have HF := hid (HR.out.trans (plain_no (.inl hq1)))
  go_enter Tryz.func182, Tryz.ntmps182
  go_wp2_with (first | (go_at_call 63; refine (c_impl_within _ _ _ _).mono ?_; rintro e w' ⟨rfl, rfl⟩))
  go_ret
  exact ⟨by rw [HF.out]; rfl, bel⟩
 have hq : 1 <= s.size /\ s.size <= 400 := by
  unfold inB at hq1;have := of_decide_eq_true hq1;omega
 obtain ⟨hsz1, hsz4⟩ := hq;rcases hq2 : utf8B s with _ | _
 ·have HF := hid (HR.out.trans (plain_no (.inr (.inl hq2))))
  rw [hq2] at HU;go_enter Tryz.func182, Tryz.ntmps182
  go_wp2_with (first | (go_at_call 222; refine HU.out.mono ?_; rintro e w1 ⟨rfl, hb1⟩) | (go_at_call 63; refine (c_impl_within _ _ _ _).mono ?_; rintro e w' ⟨rfl, rfl⟩))
  go_ret
  exact ⟨by rw [HF.out]; rfl, bel⟩
 rw [hq2] at HU;obtain ⟨p, hp⟩ : ∃ p, s.size = p + 1 := ⟨s.size - 1, by omega⟩
 have hpz : (s.size : Int) = (p : Int) + 1 := by omega
 have hq1p : inB ((p : Int) + 1) 1 400 = true := by rw [<- hpz]; exact hq1
 have h0 : 0 < s.size := by omega
 have hpp : p < s.size := by omega
 have hps : s.size - 1 = p := by omega
 obtain ⟨b, hbb⟩ : ∃ b : Nat, b = (s.get! 0).toNat := ⟨_, rfl⟩
 have hx : (s[0]'h0).toNat = b := by rw [hbb]; exact get_byte s 0 h0
 obtain ⟨l, hll⟩ : ∃ b : Nat, b = (s.get! p).toNat := ⟨_, rfl⟩
 have hxl : (s[p]'hpp).toNat = l := by rw [hll]; exact get_byte s p hpp
 have HB : Hid (byteI s 0 = b) := hid (by unfold byteI; rw [hbb]);have HL : Hid (byteI s (s.size - 1) = l) := hid (by rw [hps]; unfold byteI; rw [hll]);have HI := hid (c_IndexFirst s b hbb);clear hbb hll hps hp hsz1;rcases hq3 : headB s with _ | _
 rotate_left
 ·have HF := hid (HR.out.trans (plain_no (.inr (.inr (.inl hq3)))))
  rw [hq3] at HI;go_enter Tryz.func182, Tryz.ntmps182
  go_wp2_with (first | (go_at_call 222; refine HU.out.mono ?_; rintro e w1 ⟨rfl, hb1⟩) | (go_at_call 130; refine (HI.out _).mono ?_; rintro e w1 ⟨z, rfl, hz, rfl⟩; have hz2 := of_decide_eq_true hz) | (go_at_call 63; refine (c_impl_within _ _ _ _).mono ?_; rintro e w' ⟨rfl, rfl⟩))
  go_ret
  exact ⟨by rw [HF.out]; rfl, bel⟩
 rw [hq3] at HI;have HQ := hid hq3;clear hq3;by_cases h4 : (b : Int) = 32
 ·have HF := hid (HR.out.trans (plain_no (.inr (.inr (.inr (.inl (HB.out.trans h4)))))))
  have k4 : ((b : Int) == 32) = true := beq_iff_eq.2 h4;clear h4;go_enter Tryz.func182, Tryz.ntmps182
  go_wp2_with (first | (go_at_call 222; refine HU.out.mono ?_; rintro e w1 ⟨rfl, hb1⟩) | (go_at_call 130; refine (HI.out _).mono ?_; rintro e w1 ⟨z, rfl, hz, rfl⟩; have hz2 := of_decide_eq_false hz) | (go_at_call 63; refine (c_impl_within _ _ _ _).mono ?_; rintro e w' ⟨rfl, rfl⟩))
  go_ret
  exact ⟨by rw [HF.out]; rfl, bel⟩
 have k4 : ((b : Int) == 32) = false := beq_eq_false_iff_ne.2 h4;by_cases h5 : (l : Int) = 32
 ·have HF := hid (HR.out.trans (plain_no (.inr (.inr (.inr (.inr (HL.out.trans h5)))))))
  have k5 : ((l : Int) == 32) = true := beq_iff_eq.2 h5;clear h5;go_enter Tryz.func182, Tryz.ntmps182
  go_wp2_with (first | (go_at_call 222; refine HU.out.mono ?_; rintro e w1 ⟨rfl, hb1⟩) | (go_at_call 130; refine (HI.out _).mono ?_; rintro e w1 ⟨z, rfl, hz, rfl⟩; have hz2 := of_decide_eq_false hz) | (go_at_call 63; refine (c_impl_within _ _ _ _).mono ?_; rintro e w' ⟨rfl, rfl⟩))
  go_ret
  exact ⟨by rw [HF.out]; rfl, bel⟩
 have k5 : ((l : Int) == 32) = false := beq_eq_false_iff_ne.2 h5;have HG := hid (fun h6 => plain_all hq1 hq2 HQ.out (by rw [HB.out]; exact h4) (by rw [HL.out]; exact h5) h6);go_enter Tryz.func182, Tryz.ntmps182
 go_wp2_with (first | (go_at_call 222; refine HU.out.mono ?_; rintro e w1 ⟨rfl, hb1⟩) | (go_at_call 130; refine (HI.out _).mono ?_; rintro e w1 ⟨z, rfl, hz, rfl⟩; have hz2 := of_decide_eq_false hz) | (go_at_call 63; refine (c_impl_within _ _ _ _).mono ?_; rintro e w' ⟨rfl, rfl⟩))
 have HB1 := hid hb1;clear hb1 hq1p hpp hx hxl k4 k5 h4 h5;go_loop [3, 36] (fun s3 s36 => ∃ k : Nat, s3 = .bool (digK s k) /\ s36 = .int .i64 k /\ k <= s.size /\ allR k (plainC s) = true) (fun _ s36 => s.size - (intOf s36).toNat)
 case atStart => exact ⟨0, rfl, rfl, Nat.zero_le _, rfl⟩
 case round =>
  obtain ⟨k, rfl, rfl, hk, ha⟩ := hrel;have HA := hid ha;clear ha;obtain ⟨dg, hdg⟩ : ∃ q, q = digK s k := ⟨_, rfl⟩
  rw [<- hdg];have HD := hid hdg;clear hdg;by_cases hlt : (k : Int) < s.size
  ·have hkk : k < s.size := by omega
   have hd : decide ((k : Int) < (p : Int) + 1) = true := decide_eq_true (by omega);have hz : (0 : Int) <= k := by omega
   obtain ⟨c, hcc⟩ : ∃ c : Nat, c = (s.get! k).toNat := ⟨_, rfl⟩
   have hxc : (s[k]'hkk).toNat = c := by rw [hcc]; exact get_byte s k hkk
   have HC : Hid (byteI s k = c) := hid (by unfold byteI; rw [hcc]);clear hcc;have HE := hid (c_endsKey s k w1 (by omega) (by omega));obtain ⟨en, hen⟩ : ∃ q, q = endsB s k := ⟨_, rfl⟩
   rw [<- hen] at HE;have HN := hid hen;clear hen;have HP : Hid (plainC s k = !(decide ((c : Int) < 32) || decide ((c : Int) = 34) || decide ((c : Int) = 35) || decide ((c : Int) = 92) || en)) := hid (by unfold plainC; rw [HC.out, <- HN.out]);by_cases g1 : (c : Int) < 32
   ·have j1 : decide ((c : Int) < 32) = true := decide_eq_true g1
    have HF := hid (HR.out.trans (plain_at hkk (by rw [HP.out, j1]; rfl)));go_wp2_with fail
    go_ret
    exact ⟨by rw [HF.out]; rfl, HB1.out⟩
   have j1 : decide ((c : Int) < 32) = false := decide_eq_false g1;by_cases g2 : (c : Int) = 34
   ·have j2 : ((c : Int) == 34) = true := beq_iff_eq.2 g2
    have HF := hid (HR.out.trans (plain_at hkk (by rw [HP.out, decide_eq_true g2]; simp)));go_wp2_with fail
    go_ret
    exact ⟨by rw [HF.out]; rfl, HB1.out⟩
   have j2 : ((c : Int) == 34) = false := beq_eq_false_iff_ne.2 g2;by_cases g3 : (c : Int) = 35
   ·have j3 : ((c : Int) == 35) = true := beq_iff_eq.2 g3
    have HF := hid (HR.out.trans (plain_at hkk (by rw [HP.out, decide_eq_true g3]; simp)));go_wp2_with fail
    go_ret
    exact ⟨by rw [HF.out]; rfl, HB1.out⟩
   have j3 : ((c : Int) == 35) = false := beq_eq_false_iff_ne.2 g3;by_cases g4 : (c : Int) = 92
   ·have j4 : ((c : Int) == 92) = true := beq_iff_eq.2 g4
    have HF := hid (HR.out.trans (plain_at hkk (by rw [HP.out, decide_eq_true g4]; simp)));go_wp2_with fail
    go_ret
    exact ⟨by rw [HF.out]; rfl, HB1.out⟩
   have j4 : ((c : Int) == 92) = false := beq_eq_false_iff_ne.2 g4;rcases en with _ | _
   rotate_left
   ·have HF := hid (HR.out.trans (plain_at hkk (by rw [HP.out]; simp)))
    go_wp2_with (go_at_call 181; refine HE.out.mono ?_; rintro e w2 ⟨rfl, rfl⟩)
    go_ret
    exact ⟨by rw [HF.out]; rfl, HB1.out⟩
   have HA2 : Hid (allR (k + 1) (plainC s) = true) := hid (by rw [allR_succ, HA.out, HP.out, decide_eq_false g1, decide_eq_false g2, decide_eq_false g3, decide_eq_false g4]; rfl);have HD2 : Hid (digK s (k + 1) = (dg && digitB (c : Int))) := hid (by rw [HD.out, <- HC.out]; unfold digK; exact allR_succ _ _);rcases dg with _ | _
   all_goals
    go_wp2_with (first | (go_at_call 181; refine HE.out.mono ?_; rintro e w2 ⟨rfl, rfl⟩) | (go_at_call 201; refine (c_impl_isDigit _ _).mono ?_; rintro e w' ⟨rfl, rfl⟩))
    go_round
    ·exact ⟨k + 1, by rw [HD2.out]; rfl, by go_num, hkk, HA2.out⟩
    ·first | omega | (simp [intOf]; done) | (simp [intOf]; omega)
  ·have hd : decide ((k : Int) < (p : Int) + 1) = false := decide_eq_false (by omega)
   have hke : k = s.size := by omega
   have HF := hid (HR.out.trans (HG.out (hke ▸ HA.out)));have HD3 := hid (hke ▸ HD.out);rw [<- HD3.out] at HF;obtain ⟨q1, hm1⟩ : ∃ q, (s.toList == [110, 117, 108, 108]) = q := ⟨_, rfl⟩
   obtain ⟨q2, hm2⟩ : ∃ q, (s.toList == [126]) = q := ⟨_, rfl⟩
   obtain ⟨q3, hm3⟩ : ∃ q, (s.toList == [116, 114, 117, 101]) = q := ⟨_, rfl⟩
   obtain ⟨q4, hm4⟩ : ∃ q, (s.toList == [102, 97, 108, 115, 101]) = q := ⟨_, rfl⟩
   have HW : Hid (r = (!dg && !(q1 || q2 || q3 || q4))) := hid (by
    rw [HF.out];unfold plnW;simp only [is_word]
    rw [<- hm1, <- hm2, <- hm3, <- hm4])
   clear HF;rcases dg with _ | _
   ·rcases q1 with _ | _ <;> rcases q2 with _ | _ <;> rcases q3 with _ | _ <;> rcases q4 with _ | _
    all_goals
     go_wp2_with fail
     go_ret
     exact ⟨by rw [HW.out]; rfl, HB1.out⟩
   ·go_wp2_with fail
    go_ret
    exact ⟨by rw [HW.out]; rfl, HB1.out⟩
theorem c_impl_KeyOf (s : ByteArray) (w : World) (hs : s.size <= 1048576) (hV : CTab w) (hT : Tabs w) :
  Calls Tryz.prog 103 #[.string s] w fun e w' => e = .returned (keyV (keyB s)) /\ Below w.heap.size w w' := by
 have KP := c_HasPrefix s ⟨#[34]⟩ w;rw [show Lib.hasPrefix s.data.toList (⟨#[34]⟩ : ByteArray).data.toList = _ from pre_one s 34] at KP;have HKT := hid (fun (i : Nat) (W : World) => c_TrimLeft (s.extract i s.size) W);obtain ⟨r, hr⟩ : ∃ r, r = keyB s := ⟨_, rfl⟩
 rw [<- hr];have HR := hid hr;clear hr;by_cases hq : 0 < s.size /\ byteI s 0 = ((34 : UInt8).toNat : Int)
 ·rw [decide_eq_true hq] at KP
  have HK := hid KP;have HQ := hid (c_impl_ReadQuoted s 0 w hs (by omega) hV hT);have hnx := quotB_next s 0;obtain ⟨k, a, hka⟩ : ∃ k a, quotB s 0 = (k, a) := ⟨_, _, rfl⟩
  rw [hka] at HQ hnx;have hk1 : (quotB s 0).1 = k := by rw [hka]
  have hk2 : (quotB s 0).2 = a := by rw [hka]
  have HK2 := hid (And.intro hk1 hk2);have HQ0 := hid hq;clear KP hka hV hT hk1 hk2 hq;simp only at hnx;by_cases ha : a < 0
  ·have hd : decide (a < 0) = true := decide_eq_true ha
   have HF := hid (HR.out.trans (key_quot_no HQ0.out.1 HQ0.out.2 (.inl (by rw [HK2.out.2]; exact ha))));clear hnx;go_enter Tryz.func103, Tryz.ntmps103
   go_wp2_with fail
   refine HK.out.mono ?_;rintro e w1 ⟨rfl, rfl⟩;go_wp2_with fail
   refine HQ.out.mono ?_;rintro e w1 ⟨rfl, hb1⟩;go_wp2_with fail
   exact bodyPost_ret (v := .tuple #[.string ⟨#[]⟩, .string ⟨#[]⟩, .bool false]) (by simp only [results, Tryz.results103]; go_simp) rfl ⟨by rw [HF.out]; rfl, bel⟩
  ·obtain ⟨e, rfl⟩ : ∃ e : Nat, a = (e : Int) := ⟨a.toNat, by omega⟩
   have he : e <= s.size := by omega
   have hd : decide ((e : Int) < 0) = false := decide_eq_false ha;have HE := hid (fun W => c_endsKey s e W hs (by omega));clear hnx ha;rcases hen : endsB s e with _ | _
   ·rw [hen] at HE
    have HF := hid (HR.out.trans (key_quot_no HQ0.out.1 HQ0.out.2 (.inr (by rw [HK2.out.2, Int.toNat_natCast]; exact hen))));clear hen;go_enter Tryz.func103, Tryz.ntmps103
    go_wp2_with fail
    refine HK.out.mono ?_;rintro e w1 ⟨rfl, rfl⟩;go_wp2_with fail
    refine HQ.out.mono ?_;rintro e w1 ⟨rfl, hb1⟩;go_wp2_with (go_at_call 181; refine (HE.out _).mono ?_; rintro e w2 ⟨rfl, rfl⟩)
    exact bodyPost_ret (v := .tuple #[.string ⟨#[]⟩, .string ⟨#[]⟩, .bool false]) (by simp only [results, Tryz.results103]; go_simp) rfl ⟨by rw [HF.out]; rfl, bel⟩
   ·rw [hen] at HE
    have HF := hid (HR.out.trans (key_quot HQ0.out.1 HQ0.out.2 HK2.out.2 hen))
    have hes : e < s.size := by
     unfold endsB at hen;rw [Bool.and_eq_true, Bool.and_eq_true, decide_eq_true_eq] at hen;exact hen.1.1
    have hesI : (e : Int) + 1 <= s.size := by omega
    have hz1 : (0 : Int) <= (e : Int) + 1 := by omega
    have hesN : e + 1 <= s.size := hes;have HT1 := hid (HKT.out (e + 1));rw [tail_eq] at HT1;rw [HK2.out.1] at HF;obtain ⟨t, ht⟩ : ∃ t, t = tailL s (e + 1) := ⟨_, rfl⟩
    rw [<- ht] at HT1 HF;clear hen ht;go_enter Tryz.func103, Tryz.ntmps103
    go_wp2_with fail
    refine HK.out.mono ?_;rintro e w1 ⟨rfl, rfl⟩;go_wp2_with fail
    refine HQ.out.mono ?_;rintro e w1 ⟨rfl, hb1⟩;go_wp2_with (go_at_call 181; refine (HE.out _).mono ?_; rintro e w2 ⟨rfl, rfl⟩)
    refine (HT1.out _).mono ?_;rintro e w2 ⟨rfl, rfl⟩;go_wp2_with fail
    exact bodyPost_ret (v := .tuple #[.string k, .string t, .bool true]) (by simp only [results, Tryz.results103]; go_simp) rfl ⟨by rw [HF.out]; rfl, bel⟩
 ·rw [decide_eq_false hq] at KP
  have HK := hid KP;have HQ0 := hid hq;have HVT := hid (And.intro hV hT);clear KP hV hT hq;go_enter Tryz.func103, Tryz.ntmps103
  go_wp2_with fail
  refine HK.out.mono ?_;rintro e w1 ⟨rfl, rfl⟩;go_wp2_with fail
  go_loop [31] (fun s31 => ∃ k : Nat, s31 = .int .i64 k /\ k <= s.size /\ ∀ j, j < k -> endsB s j = false) (fun s31 => s.size - (intOf s31).toNat)
  case atStart => exact ⟨0, rfl, Nat.zero_le _, fun j hj => absurd hj (by omega)⟩
  case round =>
   obtain ⟨k, rfl, hk, ha⟩ := hrel;have HA := hid ha;clear ha;by_cases hlt : (k : Int) < s.size
   ·have hkk : k < s.size := by omega
    have hd : decide ((k : Int) < s.size) = true := decide_eq_true hlt;have hz : (0 : Int) <= k := by omega
    have hkI : (k : Int) <= s.size := by omega
    have HE := hid (c_endsKey s k w hs (by omega));rcases hen : endsB s k with _ | _
    ·rw [hen] at HE
     have HN := hid hen;clear hen;go_wp2_with (go_at_call 181; refine HE.out.mono ?_; rintro e w2 ⟨rfl, rfl⟩)
     go_round
     ·exact ⟨k + 1, by go_num, hkk, fun j hj => by
       rcases Nat.lt_or_ge j k with h | h
       ·exact HA.out j h
       ·rw [show j = k by omega]; exact HN.out⟩
     ·first | omega | (simp [intOf]; done) | (simp [intOf]; omega)
    ·rw [hen] at HE
     have HF := hid (HR.out.trans (key_plain HQ0.out hkk HA.out hen));have HP := hid (c_impl_PlainOk (s.extract 0 k) w (by rw [ByteArray.size_extract]; omega) HVT.out.2);have hesI : (k : Int) + 1 <= s.size := by omega
     have hz1 : (0 : Int) <= (k : Int) + 1 := by omega
     have hesN : k + 1 <= s.size := hkk;have HT1 := hid (HKT.out (k + 1));rw [tail_eq] at HT1;obtain ⟨t, ht⟩ : ∃ t, t = tailL s (k + 1) := ⟨_, rfl⟩
     rw [<- ht] at HT1 HF;clear hen ht;rcases hpl : plainB (s.extract 0 k) with _ | _
     ·rw [hpl] at HP HF
      clear hpl;go_wp2_with (go_at_call 181; refine HE.out.mono ?_; rintro e w2 ⟨rfl, rfl⟩)
      refine HP.out.mono ?_;rintro e w1 ⟨rfl, hb1⟩;go_wp2_with fail
      exact bodyPost_ret (v := .tuple #[.string ⟨#[]⟩, .string ⟨#[]⟩, .bool false]) (by simp only [results, Tryz.results103]; go_simp) rfl ⟨by rw [HF.out]; rfl, bel⟩
     ·rw [hpl] at HP HF
      clear hpl;go_wp2_with (go_at_call 181; refine HE.out.mono ?_; rintro e w2 ⟨rfl, rfl⟩)
      refine HP.out.mono ?_;rintro e w1 ⟨rfl, hb1⟩;have HB1 := hid hb1;clear hb1;go_wp2_with fail
      refine wp_region_det 11 (by kernel_rfl) (by kernel_rfl) (by decide) ?_
      iterate 7 refine ds ?_
      (apply Exists.intro; refine And.intro ?_ ?_; (focus (intro W hW; (try simp only [Act.put, List.setIfInBounds_toArray, List.set_cons_zero, List.set_cons_succ]); first | (obtain ⟨hcW, hfW⟩ := bcell hW; have hsW := hW.size; (try simp at hsW); (try have hsW0 := lt_of_succ_le hsW); (try (have hsW1 := lt_pred hsW; (try (have hsW2 := lt_pred hsW1)))); go_wp2_with (first | (go_at_call 175; refine (HT1.out _).mono ?_; rintro e w9 ⟨rfl, rfl⟩)); exact ⟨rfl, rfl, bel⟩))))
      iterate 3 refine ds ?_
      intro wd hbwd
      (try simp only [Act.put, List.setIfInBounds_toArray, List.set_cons_zero, List.set_cons_succ])
      (try simp only [List.drop_succ_cons, List.drop_nil])
      have HBd := hid (HB1.out.trans (hbwd.mono HB1.out.size));clear hbwd;go_wp2_with fail
      exact bodyPost_ret (v := .tuple #[.string (s.extract 0 k), .string t, .bool true]) (by simp only [results, Tryz.results103]; go_simp) rfl ⟨by rw [HF.out]; rfl, HBd.out⟩
   ·have hd : decide ((k : Int) < s.size) = false := decide_eq_false hlt
    have HF := hid (HR.out.trans (key_none HQ0.out (fun j hj => HA.out j (by omega))));go_wp2_with fail
    exact bodyPost_ret (v := .tuple #[.string ⟨#[]⟩, .string ⟨#[]⟩, .bool false]) (by simp only [results, Tryz.results103]; go_simp) rfl ⟨by rw [HF.out]; rfl, bel⟩
def scalV : Option TreeD -> Value
 | none => .tuple #[.agg #[.int .i64 0, .bool false, .int .i64 0, .string ⟨#[]⟩, .slice none 0 0, .slice none 0 0], .bool false]
 | some t => .tuple #[.agg #[.int .i64 t.kind, .bool t.flag, .int .i64 t.num, .string t.text, .slice none 0 0, .slice none 0 0], .bool true]
theorem scal_c1 {s : ByteArray} (h : s = ⟨#[91, 93]⟩) : scalB s = some (tList []) := by subst h; kernel_rfl
theorem scal_c2 {s : ByteArray} (h : s = ⟨#[123, 125]⟩) : scalB s = some (tMap [] []) := by subst h; kernel_rfl
theorem scal_c3 {s : ByteArray} (h : s = ⟨#[110, 117, 108, 108]⟩) : scalB s = some tNull := by subst h; kernel_rfl
theorem scal_c4 {s : ByteArray} (h : s = ⟨#[126]⟩) : scalB s = some tNull := by subst h; kernel_rfl
theorem scal_c5 {s : ByteArray} (h : s = ⟨#[116, 114, 117, 101]⟩) : scalB s = some (tFlag true) := by subst h; kernel_rfl
theorem scal_c6 {s : ByteArray} (h : s = ⟨#[102, 97, 108, 115, 101]⟩) : scalB s = some (tFlag false) := by subst h; kernel_rfl
structure ScalNo (s : ByteArray) : Prop where
 c1 : ¬ s = ⟨#[91, 93]⟩
 c2 : ¬ s = ⟨#[123, 125]⟩
 c3 : ¬ s = ⟨#[110, 117, 108, 108]⟩
 c4 : ¬ s = ⟨#[126]⟩
 c5 : ¬ s = ⟨#[116, 114, 117, 101]⟩
 c6 : ¬ s = ⟨#[102, 97, 108, 115, 101]⟩
theorem scal_more {s : ByteArray} (h : ScalNo s) : scalB s = if 0 < s.size /\ byteI s 0 = 34 then (if (quotB s 0).2 = s.size /\ (quotB s 0).1.size <= 400 then some (tText (quotB s 0).1) else none)
 else if (wholeB s 0).2 = s.size /\ 0 < (wholeB s 0).2 then some (tInt (wholeB s 0).1)
 else if plainB s then some (tText s) else none := by
 unfold scalB;rw [if_neg (show ¬ s = bs [91, 93] from h.c1), if_neg (show ¬ s = bs [123, 125] from h.c2), if_neg (show ¬ (s = bs [110, 117, 108, 108] ∨ s = bs [126]) from fun g => g.elim h.c3 h.c4), if_neg (show ¬ s = bs [116, 114, 117, 101] from h.c5), if_neg (show ¬ s = bs [102, 97, 108, 115, 101] from h.c6)]
theorem scal_quot_no {s : ByteArray} (h : ScalNo s) (hq : 0 < s.size /\ byteI s 0 = 34) (hn : ¬ ((quotB s 0).2 = s.size /\ (quotB s 0).1.size <= 400)) : scalB s = none := by
 rw [scal_more h, if_pos hq, if_neg hn]
theorem scal_quot {s : ByteArray} (h : ScalNo s) (hq : 0 < s.size /\ byteI s 0 = 34) (h1 : (quotB s 0).2 = s.size) (h2 : (quotB s 0).1.size <= 400) : scalB s = some (tText (quotB s 0).1) := by
 rw [scal_more h, if_pos hq, if_pos ⟨h1, h2⟩]
theorem scal_int {s : ByteArray} (h : ScalNo s) (hq : ¬ (0 < s.size /\ byteI s 0 = 34)) (h1 : (wholeB s 0).2 = s.size) (h2 : 0 < (wholeB s 0).2) : scalB s = some (tInt (wholeB s 0).1) := by
 rw [scal_more h, if_neg hq, if_pos ⟨h1, h2⟩]
theorem scal_plain' {s : ByteArray} (h : ScalNo s) (hq : ¬ (0 < s.size /\ byteI s 0 = 34)) (h1 : ¬ ((wholeB s 0).2 = s.size /\ 0 < (wholeB s 0).2)) : scalB s = if plainB s then some (tText s) else none := by
 rw [scal_more h, if_neg hq, if_neg h1]
theorem scal_yes {s : ByteArray} (h : ScalNo s) (hq : ¬ (0 < s.size /\ byteI s 0 = 34)) (h1 : ¬ ((wholeB s 0).2 = s.size /\ 0 < (wholeB s 0).2)) (hp : plainB s = true) : scalB s = some (tText s) := by
 rw [scal_plain' h hq h1, if_pos hp]
theorem scal_none {s : ByteArray} (h : ScalNo s) (hq : ¬ (0 < s.size /\ byteI s 0 = 34)) (h1 : ¬ ((wholeB s 0).2 = s.size /\ 0 < (wholeB s 0).2)) (hp : plainB s = false) : scalB s = none := by
 rw [scal_plain' h hq h1, if_neg (by rw [hp]; decide)]
theorem c_impl_ReadScalar (s : ByteArray) (w : World) (hs : s.size <= 1048576) (hV : CTab w) (hT : Tabs w) (hE : ErrR w) :
  Calls Tryz.prog 186 #[.string s] w fun e w' => e = .returned (scalV (scalB s)) /\ Below w.heap.size w w' := by
 by_cases c1 : s = (⟨#[91, 93]⟩ : ByteArray)
 ·have HF := scal_c1 c1
  subst c1;rw [HF];clear HF;go_enter Tryz.func186, Tryz.ntmps186
  go_wp2_with fail
  exact bodyPost_ret (v := .tuple #[.agg #[.int .i64 5, .bool false, .int .i64 0, .string ⟨#[]⟩, .slice none 0 0, .slice none 0 0], .bool true]) (by simp only [results, Tryz.results186]; go_simp) rfl ⟨rfl, bel⟩
 have k1 : (s.toList == [91, 93]) = false := by rw [<- is_word]; exact decide_eq_false c1
 by_cases c2 : s = (⟨#[123, 125]⟩ : ByteArray)
 ·have HF := scal_c2 c2
  subst c2;rw [HF];clear HF;go_enter Tryz.func186, Tryz.ntmps186
  go_wp2_with fail
  exact bodyPost_ret (v := .tuple #[.agg #[.int .i64 6, .bool false, .int .i64 0, .string ⟨#[]⟩, .slice none 0 0, .slice none 0 0], .bool true]) (by simp only [results, Tryz.results186]; go_simp) rfl ⟨rfl, bel⟩
 have k2 : (s.toList == [123, 125]) = false := by rw [<- is_word]; exact decide_eq_false c2
 by_cases c3 : s = (⟨#[110, 117, 108, 108]⟩ : ByteArray)
 ·have HF := scal_c3 c3
  subst c3;rw [HF];clear HF;go_enter Tryz.func186, Tryz.ntmps186
  go_wp2_with fail
  exact bodyPost_ret (v := .tuple #[.agg #[.int .i64 1, .bool false, .int .i64 0, .string ⟨#[]⟩, .slice none 0 0, .slice none 0 0], .bool true]) (by simp only [results, Tryz.results186]; go_simp) rfl ⟨rfl, bel⟩
 have k3 : (s.toList == [110, 117, 108, 108]) = false := by rw [<- is_word]; exact decide_eq_false c3
 by_cases c4 : s = (⟨#[126]⟩ : ByteArray)
 ·have HF := scal_c4 c4
  subst c4;rw [HF];clear HF;go_enter Tryz.func186, Tryz.ntmps186
  go_wp2_with fail
  exact bodyPost_ret (v := .tuple #[.agg #[.int .i64 1, .bool false, .int .i64 0, .string ⟨#[]⟩, .slice none 0 0, .slice none 0 0], .bool true]) (by simp only [results, Tryz.results186]; go_simp) rfl ⟨rfl, bel⟩
 have k4 : (s.toList == [126]) = false := by rw [<- is_word]; exact decide_eq_false c4
 by_cases c5 : s = (⟨#[116, 114, 117, 101]⟩ : ByteArray)
 ·have HF := scal_c5 c5
  subst c5;rw [HF];clear HF;go_enter Tryz.func186, Tryz.ntmps186
  go_wp2_with fail
  exact bodyPost_ret (v := .tuple #[.agg #[.int .i64 2, .bool true, .int .i64 0, .string ⟨#[]⟩, .slice none 0 0, .slice none 0 0], .bool true]) (by simp only [results, Tryz.results186]; go_simp) rfl ⟨rfl, bel⟩
 have k5 : (s.toList == [116, 114, 117, 101]) = false := by rw [<- is_word]; exact decide_eq_false c5
 by_cases c6 : s = (⟨#[102, 97, 108, 115, 101]⟩ : ByteArray)
 ·have HF := scal_c6 c6
  subst c6;rw [HF];clear HF;go_enter Tryz.func186, Tryz.ntmps186
  go_wp2_with fail
  exact bodyPost_ret (v := .tuple #[.agg #[.int .i64 2, .bool false, .int .i64 0, .string ⟨#[]⟩, .slice none 0 0, .slice none 0 0], .bool true]) (by simp only [results, Tryz.results186]; go_simp) rfl ⟨rfl, bel⟩
 have k6 : (s.toList == [102, 97, 108, 115, 101]) = false := by rw [<- is_word]; exact decide_eq_false c6
 have HC := hid (ScalNo.mk c1 c2 c3 c4 c5 c6);clear c1 c2 c3 c4 c5 c6;obtain ⟨r, hr⟩ : ∃ r, r = scalB s := ⟨_, rfl⟩
 rw [<- hr];have HR := hid hr;clear hr;have KP := fun (W : World) => c_HasPrefix s ⟨#[34]⟩ W
 rw [show Lib.hasPrefix s.data.toList (⟨#[34]⟩ : ByteArray).data.toList = _ from pre_one s 34] at KP;have HVT := hid (And.intro hV (And.intro hT hE));clear hV hT hE;by_cases hq : 0 < s.size /\ byteI s 0 = ((34 : UInt8).toNat : Int)
 ·rw [decide_eq_true hq] at KP
  have HK := hid KP;have HQ := hid (fun (W : World) (hb : Below w.heap.size w W) => c_impl_ReadQuoted s 0 W hs (by omega) (HVT.out.1.below hb) (HVT.out.2.1.below hb));obtain ⟨k, a, hka⟩ : ∃ k a, quotB s 0 = (k, a) := ⟨_, _, rfl⟩
  rw [hka] at HQ;have hk1 : (quotB s 0).1 = k := by rw [hka]
  have hk2 : (quotB s 0).2 = a := by rw [hka]
  have HK2 := hid (And.intro hk1 hk2);have HQ0 := hid hq;clear KP;clear hka hk1 hk2 hq;by_cases h1 : a = (s.size : Int)
  rotate_left
  ·have d1 : (a != (s.size : Int)) = true := bne_iff_ne.2 h1
   have d2 : (a == (s.size : Int)) = false := beq_eq_false_iff_ne.2 h1;have HF := hid (HR.out.trans (scal_quot_no HC.out HQ0.out (fun h => h1 (HK2.out.2.symm.trans h.1))));clear h1;go_enter Tryz.func186, Tryz.ntmps186
   go_wp2_with fail
   refine (HK.out _).mono ?_;rintro e w0 ⟨rfl, rfl⟩;go_wp2_with fail
   refine (HQ.out _ bel).mono ?_;rintro e w1 ⟨rfl, hb1⟩;have HT1 := hid ((hb1.block w.heap.size (by simp)).trans (heap_at (w := w) (o := .cells #[.int .i64 0, .bool false, .int .i64 0, .string ⟨#[]⟩, .slice none 0 0, .slice none 0 0] 34) rfl));have HB1 := hid (bel : Below w.heap.size w w1);obtain ⟨x0, x1, x2, x3, x4, x5, xf⟩ := row6 HT1.out;have l1 := row_lt HT1.out;clear hb1;go_wp2_with fail
   exact bodyPost_ret (v := .tuple #[.agg #[.int .i64 0, .bool false, .int .i64 0, .string ⟨#[]⟩, .slice none 0 0, .slice none 0 0], .bool false]) (by simp only [results, Tryz.results186]; go_simp) rfl ⟨by rw [HF.out]; rfl, HB1.out.trans (Aside.below (S := fun q => q = w.heap.size) asd HB1.out.size (fun i hi => by omega))⟩
  have d2 : (a == (s.size : Int)) = true := beq_iff_eq.2 h1;have d1 : (a != (s.size : Int)) = false := by unfold bne; rw [d2]; rfl
  by_cases h2 : (400 : Int) < k.size
  ·have d3 : decide ((400 : Int) < k.size) = true := decide_eq_true h2
   have HF := hid (HR.out.trans (scal_quot_no HC.out HQ0.out (fun h => by have := h.2; rw [HK2.out.1] at this; omega)));clear h1;go_enter Tryz.func186, Tryz.ntmps186
   go_wp2_with fail
   refine (HK.out _).mono ?_;rintro e w0 ⟨rfl, rfl⟩;go_wp2_with fail
   refine (HQ.out _ bel).mono ?_;rintro e w1 ⟨rfl, hb1⟩;have HT1 := hid ((hb1.block w.heap.size (by simp)).trans (heap_at (w := w) (o := .cells #[.int .i64 0, .bool false, .int .i64 0, .string ⟨#[]⟩, .slice none 0 0, .slice none 0 0] 34) rfl));have HB1 := hid (bel : Below w.heap.size w w1);obtain ⟨x0, x1, x2, x3, x4, x5, xf⟩ := row6 HT1.out;have l1 := row_lt HT1.out;clear hb1;go_wp2_with fail
   exact bodyPost_ret (v := .tuple #[.agg #[.int .i64 0, .bool false, .int .i64 0, .string ⟨#[]⟩, .slice none 0 0, .slice none 0 0], .bool false]) (by simp only [results, Tryz.results186]; go_simp) rfl ⟨by rw [HF.out]; rfl, HB1.out.trans (Aside.below (S := fun q => q = w.heap.size) asd HB1.out.size (fun i hi => by omega))⟩
  ·have d3 : decide ((400 : Int) < k.size) = false := decide_eq_false h2
   have HF := hid (HR.out.trans (scal_quot HC.out HQ0.out (HK2.out.2.trans h1) (by rw [HK2.out.1]; omega)));rw [HK2.out.1] at HF;clear h1;go_enter Tryz.func186, Tryz.ntmps186
   go_wp2_with fail
   refine (HK.out _).mono ?_;rintro e w0 ⟨rfl, rfl⟩;go_wp2_with fail
   refine (HQ.out _ bel).mono ?_;rintro e w1 ⟨rfl, hb1⟩;have HT1 := hid ((hb1.block w.heap.size (by simp)).trans (heap_at (w := w) (o := .cells #[.int .i64 0, .bool false, .int .i64 0, .string ⟨#[]⟩, .slice none 0 0, .slice none 0 0] 34) rfl));have HB1 := hid (bel : Below w.heap.size w w1);obtain ⟨x0, x1, x2, x3, x4, x5, xf⟩ := row6 HT1.out;have l1 := row_lt HT1.out;clear hb1;go_wp2_with fail
   refine (c_rd_TextTree _ _).mono ?_;rintro e w2 ⟨rfl, hb2⟩;have HT2 := hid ((hb2.block _ l1).trans HT1.out);have HB2 := hid (HB1.out.trans (hb2.mono HB1.out.size));clear x0 x1 x2 x3 x4 x5 xf hb2;obtain ⟨x0, x1, x2, x3, x4, x5, xf⟩ := row6 HT2.out;have l2 := row_lt HT2.out;go_wp2_with fail
   exact bodyPost_ret (v := .tuple #[.agg #[.int .i64 4, .bool false, .int .i64 0, .string k, .slice none 0 0, .slice none 0 0], .bool true]) (by simp only [results, Tryz.results186]; go_simp) rfl ⟨by rw [HF.out]; rfl, HB2.out.trans (Aside.below (S := fun q => q = w.heap.size) asd HB2.out.size (fun i hi => by omega))⟩
 ·rw [decide_eq_false hq] at KP
  have HK := hid KP;have HQ0 := hid hq;clear KP hq;have HQ := hid (fun (W : World) (hb : Below w.heap.size w W) => c_impl_ReadWhole s 0 W hs (by omega) (HVT.out.2.2.below hb));have HP := hid (fun (W : World) (hb : Below w.heap.size w W) => c_impl_PlainOk s W hs (HVT.out.2.1.below hb));obtain ⟨z, a, hka⟩ : ∃ k a, wholeB s 0 = (k, a) := ⟨_, _, rfl⟩
  rw [hka] at HQ;have hk1 : (wholeB s 0).1 = z := by rw [hka]
  have hk2 : (wholeB s 0).2 = a := by rw [hka]
  have HK2 := hid (And.intro hk1 hk2);clear hka hk1 hk2;by_cases hw : a = (s.size : Int) /\ 0 < a
  ·have d2 : (a == (s.size : Int)) = true := beq_iff_eq.2 hw.1
   have d3 : decide ((0 : Int) < a) = true := decide_eq_true hw.2;have HF := hid (HR.out.trans (scal_int HC.out HQ0.out (HK2.out.2.trans hw.1) (by rw [HK2.out.2]; exact hw.2)));rw [HK2.out.1] at HF;clear hw;go_enter Tryz.func186, Tryz.ntmps186
   go_wp2_with fail
   refine (HK.out _).mono ?_;rintro e w0 ⟨rfl, rfl⟩;go_wp2_with fail
   refine (HQ.out _ bel).mono ?_;rintro e w1 ⟨rfl, hb1⟩;have HT1 := hid ((hb1.block w.heap.size (by simp)).trans (heap_at (w := w) (o := .cells #[.int .i64 0, .bool false, .int .i64 0, .string ⟨#[]⟩, .slice none 0 0, .slice none 0 0] 34) rfl));have HB1 := hid (bel : Below w.heap.size w w1);obtain ⟨x0, x1, x2, x3, x4, x5, xf⟩ := row6 HT1.out;have l1 := row_lt HT1.out;clear hb1;go_wp2_with fail
   refine (c_rd_IntTree _ _).mono ?_;rintro e w2 ⟨rfl, hb2⟩;have HT2 := hid ((hb2.block _ l1).trans HT1.out);have HB2 := hid (HB1.out.trans (hb2.mono HB1.out.size));clear x0 x1 x2 x3 x4 x5 xf hb2;obtain ⟨x0, x1, x2, x3, x4, x5, xf⟩ := row6 HT2.out;have l2 := row_lt HT2.out;go_wp2_with fail
   exact bodyPost_ret (v := .tuple #[.agg #[.int .i64 3, .bool false, .int .i64 z, .string ⟨#[]⟩, .slice none 0 0, .slice none 0 0], .bool true]) (by simp only [results, Tryz.results186]; go_simp) rfl ⟨by rw [HF.out]; rfl, HB2.out.trans (Aside.below (S := fun q => q = w.heap.size) asd HB2.out.size (fun i hi => by omega))⟩
  ·have hw2 : (a == (s.size : Int)) = false ∨ ((a == (s.size : Int)) = true /\ decide ((0 : Int) < a) = false) := by
    by_cases e : a = (s.size : Int)
    ·exact .inr ⟨beq_iff_eq.2 e, decide_eq_false (fun h => hw ⟨e, h⟩)⟩
    ·exact .inl (beq_eq_false_iff_ne.2 e)
   have HW := hid (fun h => hw (by rw [<- HK2.out.2]; exact h));clear hw;rcases hpl : plainB s with _ | _
   ·rw [hpl] at HP
    have HF := hid (HR.out.trans (scal_none HC.out HQ0.out HW.out hpl));clear hpl;rcases hw2 with d2 | ⟨d2, d3⟩
    all_goals
     go_enter Tryz.func186, Tryz.ntmps186
     go_wp2_with fail
     refine (HK.out _).mono ?_;rintro e w0 ⟨rfl, rfl⟩;go_wp2_with fail
     refine (HQ.out _ bel).mono ?_;rintro e w1 ⟨rfl, hb1⟩;have HT1 := hid ((hb1.block w.heap.size (by simp)).trans (heap_at (w := w) (o := .cells #[.int .i64 0, .bool false, .int .i64 0, .string ⟨#[]⟩, .slice none 0 0, .slice none 0 0] 34) rfl));have HB1 := hid (bel : Below w.heap.size w w1);obtain ⟨x0, x1, x2, x3, x4, x5, xf⟩ := row6 HT1.out;have l1 := row_lt HT1.out;clear hb1;go_wp2_with fail
     refine (HP.out _ HB1.out).mono ?_;rintro e w2 ⟨rfl, hb2⟩;have HT2 := hid ((hb2.block _ l1).trans HT1.out);have HB2 := hid (HB1.out.trans (hb2.mono HB1.out.size));clear x0 x1 x2 x3 x4 x5 xf hb2;obtain ⟨x0, x1, x2, x3, x4, x5, xf⟩ := row6 HT2.out;have l2 := row_lt HT2.out;go_wp2_with fail
     exact bodyPost_ret (v := .tuple #[.agg #[.int .i64 0, .bool false, .int .i64 0, .string ⟨#[]⟩, .slice none 0 0, .slice none 0 0], .bool false]) (by simp only [results, Tryz.results186]; go_simp) rfl ⟨by rw [HF.out]; rfl, HB2.out.trans (Aside.below (S := fun q => q = w.heap.size) asd HB2.out.size (fun i hi => by omega))⟩
   ·rw [hpl] at HP
    have HF := hid (HR.out.trans (scal_yes HC.out HQ0.out HW.out hpl));clear hpl;rcases hw2 with d2 | ⟨d2, d3⟩
    all_goals
     go_enter Tryz.func186, Tryz.ntmps186
     go_wp2_with fail
     refine (HK.out _).mono ?_;rintro e w0 ⟨rfl, rfl⟩;go_wp2_with fail
     refine (HQ.out _ bel).mono ?_;rintro e w1 ⟨rfl, hb1⟩;have HT1 := hid ((hb1.block w.heap.size (by simp)).trans (heap_at (w := w) (o := .cells #[.int .i64 0, .bool false, .int .i64 0, .string ⟨#[]⟩, .slice none 0 0, .slice none 0 0] 34) rfl));have HB1 := hid (bel : Below w.heap.size w w1);obtain ⟨x0, x1, x2, x3, x4, x5, xf⟩ := row6 HT1.out;have l1 := row_lt HT1.out;clear hb1;go_wp2_with fail
     refine (HP.out _ HB1.out).mono ?_;rintro e w2 ⟨rfl, hb2⟩;have HT2 := hid ((hb2.block _ l1).trans HT1.out);have HB2 := hid (HB1.out.trans (hb2.mono HB1.out.size));clear x0 x1 x2 x3 x4 x5 xf hb2;obtain ⟨x0, x1, x2, x3, x4, x5, xf⟩ := row6 HT2.out;have l2 := row_lt HT2.out;go_wp2_with fail
     refine (c_rd_TextTree _ _).mono ?_;rintro e w3 ⟨rfl, hb3⟩;have HT3 := hid ((hb3.block _ l2).trans HT2.out);have HB3 := hid (HB2.out.trans (hb3.mono HB2.out.size));clear x0 x1 x2 x3 x4 x5 xf hb3;obtain ⟨x0, x1, x2, x3, x4, x5, xf⟩ := row6 HT3.out;have l3 := row_lt HT3.out;go_wp2_with fail
     exact bodyPost_ret (v := .tuple #[.agg #[.int .i64 4, .bool false, .int .i64 0, .string s, .slice none 0 0, .slice none 0 0], .bool true]) (by simp only [results, Tryz.results186]; go_simp) rfl ⟨by rw [HF.out]; rfl, HB3.out.trans (Aside.below (S := fun q => q = w.heap.size) asd HB3.out.size (fun i hi => by omega))⟩
theorem own9b {S : Nat -> Prop} {wr W9 w9 : World} {o : Obj} {base n m size : Nat} {e : TypeId} {v : Value} {xs : List Value} (h : wr.ownsRow base e size v n xs) (hb : Aside S W9 w9) (he : W9.heap = wr.heap) (hS : ∀ q, S q -> q < base) (hn : n = m) : (w9.alloc o).ownsRow base e size v m xs := by
 subst hn;refine World.ownsRow.alloc (ownsRow_carry h (fun q hq => ?_)) o;have h1 := (h.lt q hq).1;have h2 := (h.lt q hq).2;rw [<- he] at h2;rw [hb.block q h2 (fun g => by have := hS q g; omega), he]
theorem blk9b {S : Nat -> Prop} {wr W9 w9 w2 : World} {o : Obj} {r q : Option Nat} {k : Nat} (hrow : k < wr.heap.size) (hb : Aside S W9 w9) (he : W9.heap = wr.heap) (hg : (w9.alloc o).grownBy w2 q) (hr : r = q) (hn : r ≠ some k) (hk : ¬ S k) : w2.heap[k]? = wr.heap[k]? := by
 subst hr;have h1 : k < W9.heap.size := by rw [he]; exact hrow
 have h2 := hb.size;rw [hg.block k (by simp; omega) (fun e => hn e.symm), Below.heap_alloc w9 o k (by omega), hb.block k h1 hk, he]
structure In0 (w0 : World) (b g : Nat) : Prop where
 cas : CTab w0
 tab : Tabs w0
 err : ErrR w0
 hb : w0.heap.size <= b
 hg : w0.heap.size <= g
theorem In0.keep {w0 w w' : World} {b g : Nat} (h : In0 w0 b g) (hw : Below w0.heap.size w0 w) (hF : Aside (fun q => q = b ∨ q = g) w w') : Below w0.heap.size w0 w' :=
 hw.trans (hF.below hw.size (fun i hi => by have := h.hb; have := h.hg; omega))
theorem In0.keepW {w0 w wx : World} {b g : Nat} (h : In0 w0 b g) (hw : Below w0.heap.size w0 w) (hF : Aside (fun q => q = b ∨ q = g ∨ w.heap.size <= q) w wx) : Below w0.heap.size w0 wx :=
 hw.trans (hF.below hw.size (fun i hi => by have := h.hb; have := h.hg; have := hw.size; omega))
def T_vI (w0 : World) (b g N cap n : Nat) : Prop := ∀ (d : Nat) (x : LineD) (r : List LineD) (m : Nat) (w : World), 1 <= d -> d <= 9 -> m <= 300 -> InOk (x :: r) -> needI (.value d) (x :: r) <= n -> Below w0.heap.size w0 w -> InAt 61 b g N cap (x :: r) m flt0 w ->
 Calls Tryz.prog 51 #[.pointer (some ⟨b, 0, none⟩), .int .i64 d] w (OutI 61 b g N cap (10 - d) (readK n (.value d) (x :: r) m) w)
def T_bI (w0 : World) (b g N cap n : Nat) : Prop := ∀ (i d : Nat) (x : LineD) (r : List LineD) (m : Nat) (w : World), 1 <= d -> d <= 9 -> m <= 300 -> InOk (x :: r) -> needI (.below i d x.at') r <= n -> Below w0.heap.size w0 w -> InAt 61 b g N cap (x :: r) m flt0 w ->
 Calls Tryz.prog 179 #[.pointer (some ⟨b, 0, none⟩), .int .i64 i, .int .i64 d] w (OutI 61 b g N cap (10 - d) (readK n (.below i d x.at') r m) w)
def T_lI (w0 : World) (b g N cap n : Nat) : Prop := ∀ (i d : Nat) (L : List LineD) (m : Nat) (w : World), 1 <= d -> d <= 8 -> m <= 300 -> InOk L -> needI (.list i d []) L <= n -> Below w0.heap.size w0 w -> InAt 61 b g N cap L m flt0 w ->
 Calls Tryz.prog 102 #[.pointer (some ⟨b, 0, none⟩), .int .i64 i, .int .i64 d] w (OutI 61 b g N cap (10 - d) (readK n (.list i d []) L m) w)
def T_pI (w0 : World) (b g N cap n : Nat) : Prop := ∀ (i d : Nat) (L : List LineD) (m : Nat) (w : World), 1 <= d -> d <= 8 -> m <= 300 -> InOk L -> needI (.pairs i d [] []) L <= n -> Below w0.heap.size w0 w -> InAt 61 b g N cap L m flt0 w ->
 Calls Tryz.prog 104 #[.pointer (some ⟨b, 0, none⟩), .int .i64 i, .int .i64 d] w (OutI 61 b g N cap (10 - d) (readK n (.pairs i d [] []) L m) w)
theorem list_out {ty : TypeId} {b g N cap nT : Nat} {w wx wF : World} {r : ResI} {c : Option (List TreeD)} {v : Value} {ess : List (List Value)} {L : List LineD} {m : Nat} {f : Flt} {A : Option Addr} {cp : Nat} (hv : v = .slice A ess.length cp)
  (hb : b < w.heap.size) (hg : g < w.heap.size) (hL : LBoxI b g 5 w wx (.slice none 0 0) v) (hK : KidsE nT (w.heap.size + 2) wx c v ess) (hR : InAt ty b g N cap L m f wx) (hok : InOk L)
  (hst : match c with | some acc => f = flt0 /\ r = .good (tList acc) L m | none => f.code ≠ 0 /\ r = .bad f) (hF : Aside (fun q => q = w.heap.size) wx wF) :
  OutI ty b g N cap (nT + 1) r w (.returned (.agg #[.int .i64 5, .bool false, .int .i64 0, .string ⟨#[]⟩, .slice none 0 0, .slice A ess.length cp])) wF := by
 subst hv;refine ⟨[.int .i64 5, .bool false, .int .i64 0, .string ⟨#[]⟩, .slice none 0 0, .slice A ess.length cp], L, m, f, rfl, ⟨_, _, _, _, _, _, _, _, _, _, rfl⟩, hR.past hF (fun q => by omega) (fun q => by omega), hok, Aside.low2 (hL.aside.join hF (fun q hq _ => .inr (.inr (by omega)))), ?_⟩;rcases c with _ | acc
 ·obtain ⟨h1, rfl⟩ := hst
  exact ⟨rfl, h1⟩
 ·obtain ⟨h1, rfl⟩ := hst
  refine ⟨h1, rfl, rfl, ?_⟩;have hl := (hK.good acc rfl).1;have := own_listT hK.grow (wF := wF) (S := fun x => w.heap.size <= x /\ x < wF.heap.size) (fun q h1 h2 => hF.block q h2 (by omega)) (fun q h1 h2 => ⟨by omega, Nat.lt_of_lt_of_le h2 hF.size⟩);exact this
theorem of_inList (w0 : World) (b g N cap n : Nat) (h0 : In0 w0 b g) (hbl : ∀ k, k < n -> T_bI w0 b g N cap k) (hv : ∀ k, k < n -> T_vI w0 b g N cap k) : T_lI w0 b g N cap n := by
 intro i d L0 m0 w hd1 hd8 hm0 hok0 hn hw h;obtain ⟨i0, hi, hz0, hz1, hz2⟩ := info_parts (show (Tryz.prog.info? 34).map (fun i => (i.zero, i.size, i.bytes)) = some (some (.agg #[.int .i64 0, .bool false, .int .i64 0, .string ⟨#[]⟩, .slice none 0 0, .slice none 0 0]), 6, 88) from by kernel_rfl);have HRd := hid h;have Hv := hid hv;have Hbl := hid hbl;have HW := hid hw;have H0 := hid h0
 have HI0 := hid hi;have hlb := h.lt.1;have hlg := h.lt.2;obtain ⟨nT, hnT⟩ : ∃ k, 10 - d = k + 1 := ⟨9 - d, by omega⟩
 have HNT := hid (show 10 - (d + 1) = nT by omega);obtain ⟨r, hr⟩ : ∃ r, r = readK n (.list i d []) L0 m0 := ⟨_, rfl⟩
 rw [<- hr, hnT];have HR := hid hr;have HOk0 := hid hok0;have HN := hid hn;clear hr h hv hbl hw h0 hi hnT hok0 hn;go_enter Tryz.func102, Tryz.ntmps102
 go_wp2_with fail
 go_loopw [] (fun wr => ListI 61 b g N cap i n d nT r w wr) (fun wr => inM N b wr)
 case atStart =>
  refine ⟨some [], .slice none 0 0, [], L0, m0, flt0, ⟨?_, ?_, Aside.of_below bel⟩, KidsE.nil _ _ _, HRd.out.below bel, HOk0.out, Nat.zero_le _, rfl, hm0, Nat.zero_le _, n, HN.out, Nat.le_refl _, HR.out⟩
  ·exact (Below.heap_alloc _ _ _ (by simp)).trans (heap_at (by simp))
  ·exact heap_at (by simp)
 case round =>
  obtain ⟨c, v, ess, L, m, f, hLb, hK, hRr, hok, hlen, hst⟩ := hrel;obtain ⟨VA, vc, rfl⟩ := hK.form;have HLb := hid hLb;have HK := hid hK;have HRr := hid hRr;have HOk := hid hok;have HWr := hid (H0.out.keepW HW.out hLb.aside);have HSt := hid hst;clear hst hok;rcases c with _ | acc
  ·obtain ⟨hf, hrr⟩ := HSt.out
   have HQ : Hid (hereB f L i = false) := hid (by unfold hereB; rw [decide_eq_false hf]; rfl);have HF := hid (And.intro hf hrr);clear HSt hLb hK hRr hf hrr;go_wp2_with fail
   refine (c_in_here b g N cap L m i f wr HRr.out).mono ?_;rintro e w1 ⟨rfl, hb1⟩;rw [HQ.out];have HLb1 := hid (HLb.out.same (Aside.of_below (S := fun q => q = b) hb1) (fun q hq => .inl hq) hlb hlg);have HK1 := hid (HK.out.carry hb1.size (fun q _ h2 => hb1.block q h2));have HR1 := hid (HRr.out.below hb1);have HB1 := hid hb1;clear hb1;obtain ⟨x0, x1, x2, x3, x4, x5, xf⟩ := row6 HLb1.out.zero
   obtain ⟨y0, y1, y2, y3, y4, y5, yf⟩ := row6 HLb1.out.list;have l0 := row_lt HLb1.out.zero;have l1 := row_lt HLb1.out.list;go_wp2_with fail
   exact bodyPost_ret (v := .agg #[.int .i64 5, .bool false, .int .i64 0, .string ⟨#[]⟩, .slice none 0 0, .slice VA ess.length vc]) (by simp only [results, Tryz.results102]; go_simp) rfl (list_out rfl hlb hlg HLb1.out HK1.out HR1.out HOk.out HF.out asd)
  obtain ⟨rfl, hm, hac, k, hk1, hkn, hrr⟩ := HSt.out;have HJ := hid hrr;have HNk := hid hk1;have hel := (HK.out.good acc rfl).1;clear HSt hLb hK hRr hrr hk1;rcases L with _ | ⟨x, t⟩
  ·have HQ : Hid (hereB flt0 [] i = false) := hid rfl
   have HF : Hid (r = .good (tList acc) [] m) := hid (by
    have h1 := HNk.out;obtain ⟨k1, rfl⟩ : ∃ k1, k = k1 + 1 := ⟨k - 1, by unfold needI at h1; simp only at h1; omega⟩
    rw [HJ.out, readK_list_nil])
   go_wp2_with fail
   refine (c_in_here b g N cap [] m i flt0 wr HRr.out).mono ?_;rintro e w1 ⟨rfl, hb1⟩;rw [HQ.out];have HLb1 := hid (HLb.out.same (Aside.of_below (S := fun q => q = b) hb1) (fun q hq => .inl hq) hlb hlg);have HK1 := hid (HK.out.carry hb1.size (fun q _ h2 => hb1.block q h2));have HR1 := hid (HRr.out.below hb1);have HB1 := hid hb1;clear hb1;obtain ⟨x0, x1, x2, x3, x4, x5, xf⟩ := row6 HLb1.out.zero
   obtain ⟨y0, y1, y2, y3, y4, y5, yf⟩ := row6 HLb1.out.list;have l0 := row_lt HLb1.out.zero;have l1 := row_lt HLb1.out.list;go_wp2_with fail
   exact bodyPost_ret (v := .agg #[.int .i64 5, .bool false, .int .i64 0, .string ⟨#[]⟩, .slice none 0 0, .slice VA ess.length vc]) (by simp only [results, Tryz.results102]; go_simp) rfl (list_out rfl hlb hlg HLb1.out HK1.out HR1.out HOk.out ⟨rfl, HF.out⟩ asd)
  obtain ⟨k1, hk1⟩ : ∃ k1, k = k1 + 1 := ⟨k - 1, by have h1 := HNk.out; unfold needI at h1; simp only at h1; omega⟩
  by_cases hxi : x.ind = i
  rotate_left
  ·have HQ : Hid (hereB flt0 (x :: t) i = false) := hid (by show (decide (flt0.code = 0) && decide (x.ind = i)) = false; rw [decide_eq_false hxi]; rfl)
   have HF : Hid (r = .good (tList acc) (x :: t) m) := hid (by rw [HJ.out, hk1, readK_list, if_pos hxi]);clear hk1 hxi;go_wp2_with fail
   refine (c_in_here b g N cap (x :: t) m i flt0 wr HRr.out).mono ?_;rintro e w1 ⟨rfl, hb1⟩;rw [HQ.out];have HLb1 := hid (HLb.out.same (Aside.of_below (S := fun q => q = b) hb1) (fun q hq => .inl hq) hlb hlg);have HK1 := hid (HK.out.carry hb1.size (fun q _ h2 => hb1.block q h2));have HR1 := hid (HRr.out.below hb1);have HB1 := hid hb1;clear hb1;obtain ⟨x0, x1, x2, x3, x4, x5, xf⟩ := row6 HLb1.out.zero
   obtain ⟨y0, y1, y2, y3, y4, y5, yf⟩ := row6 HLb1.out.list;have l0 := row_lt HLb1.out.zero;have l1 := row_lt HLb1.out.list;go_wp2_with fail
   exact bodyPost_ret (v := .agg #[.int .i64 5, .bool false, .int .i64 0, .string ⟨#[]⟩, .slice none 0 0, .slice VA ess.length vc]) (by simp only [results, Tryz.results102]; go_simp) rfl (list_out rfl hlb hlg HLb1.out HK1.out HR1.out HOk.out ⟨rfl, HF.out⟩ asd)
  have HQ : Hid (hereB flt0 (x :: t) i = true) := hid (by show (decide (flt0.code = 0) && decide (x.ind = i)) = true; rw [decide_eq_true hxi]; rfl)
  have hj2 : r = (match itemB x.text with
   | none => .good (tList acc) (x :: t) m
   | some (rest, kk) => match itemJ k1 i d x t rest kk m with
    | .bad f => .bad f
    | .good u L' m' => readK k1 (.list i d (acc ++ [u])) L' m') := by rw [HJ.out, hk1, readK_list, if_neg (fun e => e hxi)]; rfl
  have hxo := HOk.out.head;have hxz : x.text.size <= 20000 := by have := hxo.1; omega
  have hkk1 : k1 < n := by omega
  have HI := hid (fun W => c_impl_ItemOf x.text W (by omega));have HXI := hid hxi;have HXO := hid hxo;have hne := HNk.out;rw [hk1] at hne;have HNe := hid hne;have HX := hid hj2;clear hj2 hk1 hxi hxo HJ HNk hne;go_wp2_with fail
  refine (c_in_here b g N cap (x :: t) m i flt0 wr HRr.out).mono ?_;rintro e w1 ⟨rfl, hb1⟩;rw [HQ.out];have HLb1 := hid (HLb.out.same (Aside.of_below (S := fun q => q = b) hb1) (fun q hq => .inl hq) hlb hlg);have HK1 := hid (HK.out.carry hb1.size (fun q _ h2 => hb1.block q h2));have HR1 := hid (HRr.out.below hb1);have HB1 := hid hb1;clear hb1;obtain ⟨p, hbx⟩ := HR1.out.open;obtain ⟨a0, a1, a2, a3, a4, a5, af⟩ := row6 hbx.row
  have lb := row_lt hbx.row;obtain ⟨c0, c1, c2, cf⟩ := hbx.line x t rfl;have lg := hbx.lines;have hpN : (p : Int) < N := by have := hbx.pos; rw [List.length_cons] at this; omega
  have hp0 : (0 : Int) <= p := by omega
  have hcap := hbx.cap';have hpos := hbx.pos;have hgb := hbx.ne;have hN2 := hbx.small;clear hbx;rcases hit : itemB x.text with _ | ⟨rest, kk⟩
  ·rw [hit] at HX
   have hi1 : ∀ W, Calls Tryz.prog 101 #[.string x.text] W fun e w' => e = .returned (.tuple #[.string ⟨#[]⟩, .int .i64 0, .bool false]) /\ W = w' := fun W => by
    have h := HI.out W;rw [hit] at h;exact h
   have HI1 := hid hi1;have HF := hid (show r = .good (tList acc) (x :: t) m from HX.out);clear hit hi1;go_wp2_with fail
   refine wp_region_det 19 (by kernel_rfl) (by kernel_rfl) (by decide) ?_
   iterate 19 (apply Exists.intro; refine And.intro ?_ ?_; (focus (intro W hW; (try simp only [Act.put, List.setIfInBounds_toArray, List.set_cons_zero, List.set_cons_succ]); first | (exact wpList_skip rfl ⟨rfl, rfl, Below.refl _ _⟩) | (obtain ⟨hcW, hfW⟩ := bcell hW; have hsW := hW.size; (try simp at hsW); (try have hsW0 := lt_of_succ_le hsW); (try (have hsW1 := lt_pred hsW; (try (have hsW2 := lt_pred hsW1)))); go_wp2_with (first | (go_at_call 101; refine (HI1.out _).mono ?_; rintro e w9 ⟨rfl, rfl⟩)); exact ⟨rfl, rfl, bel⟩))))
   intro wd hbwd
   (try simp only [Act.put, List.setIfInBounds_toArray, List.set_cons_zero, List.set_cons_succ])
   (try simp only [List.drop_succ_cons, List.drop_nil])
   have HB2 := hid hbwd;have HLb1 := hid (HLb1.out.same (Aside.of_below (S := fun q => q = b) HB2.out) (fun q hq => .inl hq) hlb hlg);have HK1 := hid (HK1.out.carry HB2.out.size (fun q _ h2 => HB2.out.block q h2));have HR1 := hid (HR1.out.below HB2.out);clear hbwd a0 a1 a2 a3 a4 a5 af c0 c1 c2 cf lb lg;obtain ⟨x0, x1, x2, x3, x4, x5, xf⟩ := row6 HLb1.out.zero;obtain ⟨y0, y1, y2, y3, y4, y5, yf⟩ := row6 HLb1.out.list
   have l0 := row_lt HLb1.out.zero;have l1 := row_lt HLb1.out.list;go_wp2_with fail
   exact bodyPost_ret (v := .agg #[.int .i64 5, .bool false, .int .i64 0, .string ⟨#[]⟩, .slice none 0 0, .slice VA ess.length vc]) (by simp only [results, Tryz.results102]; go_simp) rfl (list_out rfl hlb hlg HLb1.out HK1.out HR1.out HOk.out ⟨rfl, HF.out⟩ asd)
  rw [hit] at HX;simp only at HX;have hrest := item_rest hit HXO.out.2.2
  have hi1 : ∀ W, Calls Tryz.prog 101 #[.string x.text] W fun e w' => e = .returned (.tuple #[.string rest, .int .i64 kk, .bool true]) /\ W = w' := fun W => by
   have h := HI.out W;rw [hit] at h;exact h
  have HI1 := hid hi1;have HRe := hid hrest;clear hit hi1 hrest;go_wp2_with fail
  refine wp_region_det 19 (by kernel_rfl) (by kernel_rfl) (by decide) ?_
  iterate 19 (apply Exists.intro; refine And.intro ?_ ?_; (focus (intro W hW; (try simp only [Act.put, List.setIfInBounds_toArray, List.set_cons_zero, List.set_cons_succ]); first | (exact wpList_skip rfl ⟨rfl, rfl, Below.refl _ _⟩) | (obtain ⟨hcW, hfW⟩ := bcell hW; have hsW := hW.size; (try simp at hsW); (try have hsW0 := lt_of_succ_le hsW); (try (have hsW1 := lt_pred hsW; (try (have hsW2 := lt_pred hsW1)))); go_wp2_with (first | (go_at_call 101; refine (HI1.out _).mono ?_; rintro e w9 ⟨rfl, rfl⟩)); exact ⟨rfl, rfl, bel⟩))))
  intro wd hbwd
  (try simp only [Act.put, List.setIfInBounds_toArray, List.set_cons_zero, List.set_cons_succ])
  (try simp only [List.drop_succ_cons, List.drop_nil])
  have HB2 := hid hbwd;have HLb1 := hid (HLb1.out.same (Aside.of_below (S := fun q => q = b) HB2.out) (fun q hq => .inl hq) hlb hlg);have HK1 := hid (HK1.out.carry HB2.out.size (fun q _ h2 => HB2.out.block q h2));have HR1 := hid (HR1.out.below HB2.out);have HW1 := hid (HWr.out.trans ((HB1.out.trans (HB2.out.mono HB1.out.size)).mono HWr.out.size));clear hbwd a0 a1 a2 a3 a4 a5 af c0 c1 c2 cf lb lg
  rcases HRe.out with ⟨hk0, hre⟩ | ⟨hk2, hks, hend⟩
  ·obtain rfl := hk0
   obtain rfl := hre;have hdd : IntKind.i64.wrap ((d : Int) + 1) = ((d + 1 : Nat) : Int) := by rw [IntKind.wrap_i64] <;> omega
   have hx2 : r = (match readK k1 (.below i (d + 1) x.at') t m with
    | .bad f => .bad f
    | .good u L' m' => readK k1 (.list i d (acc ++ [u])) L' m') := by
    have h := HX.out;unfold itemJ at h;rw [if_pos rfl] at h;exact h
   have HX2 := hid hx2
   have hC : ∀ (W : World), Below w0.heap.size w0 W -> InAt 61 b g N cap (x :: t) m flt0 W -> Calls Tryz.prog 179 #[.pointer (some ⟨b, 0, none⟩), .int .i64 i, .int .i64 ((d + 1 : Nat) : Int)] W (OutI 61 b g N cap (10 - (d + 1)) (readK k1 (.below i (d + 1) x.at') t m) W) := fun W h1 h2 =>
    Hbl.out k1 hkk1 i (d + 1) x t m W (by omega) (by omega) hm HOk.out (by have := HNe.out; unfold needI at this ⊢; simp only [cost_cons] at this ⊢; omega) h1 h2
   have HC := hid hC;have hgrow : ∀ (t' : TreeD) (L' : List LineD) (m' : Nat), readK k1 (.below i (d + 1) x.at') t m = .good t' L' m' -> m + 1 <= m' /\ m' <= 300 := fun _ _ _ h => readK_growB h hm (by omega)
   have hlen' : ∀ (t' : TreeD) (L' : List LineD) (m' : Nat), readK k1 (.below i (d + 1) x.at') t m = .good t' L' m' -> L'.length <= t.length := fun _ _ _ h => readK_len_le h
   have hneed : ∀ (t' : TreeD) (L' : List LineD) (m' : Nat), readK k1 (.below i (d + 1) x.at') t m = .good t' L' m' -> needI (.list i d (acc ++ [t'])) L' <= k1 := fun _ _ _ h => by
    have h1 := (readK_less _ _ _ _ _ _ _ h).1;have h2 := HNe.out;unfold needI at h2 ⊢;simp only [cost_cons] at h2 ⊢;omega
   have HG := hid hgrow;have HLn := hid hlen';have HNd := hid hneed;clear hx2 hC hgrow hlen' hneed;obtain ⟨y0, y1, y2, y3, y4, y5, yf⟩ := row6 HLb1.out.list;have ly := row_lt HLb1.out.list;have lz := row_lt HLb1.out.zero;obtain ⟨rb, hrb⟩ : ∃ rb, rb = (Value.slice VA ess.length vc).ownBlock := ⟨_, rfl⟩
   have hrl : ∀ q, rb = some q -> w.heap.size + 2 <= q /\ q < wd.heap.size := fun q hq => ⟨(HK1.out.row.lt q (by rw [<- hrb]; exact hq)).1, HK1.out.hi q (by rw [<- hrb]; exact hq)⟩
   have hn0 : rb ≠ some w.heap.size := fun h => by have := (hrl _ h).1; omega
   have hn1 : rb ≠ some (w.heap.size + 1) := fun h => by have := (hrl _ h).1; omega
   have Hrl := hid hrl;have Hr := hid hrb;have hb0 : ¬ (w.heap.size = b ∨ w.heap.size = g) := by omega
   have hb1 : ¬ (w.heap.size + 1 = b ∨ w.heap.size + 1 = g) := by omega
   have hsb : ∀ q, (q = b ∨ q = g) -> q < w.heap.size + 2 := fun q hq => by omega
   obtain ⟨el, hel2⟩ : ∃ el, el = ess.length := ⟨_, rfl⟩
   have HEl := hid hel2;clear hrl hrb hel2;obtain ⟨dz, hdz⟩ : ∃ dz : Int, dz = ((d + 1 : Nat) : Int) := ⟨_, rfl⟩
   rw [<- hdz] at hdd HC;clear hdz;go_upto_region 6 with fail
   go_cut [] from 35 to 44 (fun wx => ListI 61 b g N cap i n d nT r w wx /\ inM N b wx < inM N b wr)
   case first =>
    go_region_law (first | (go_simp; go_at_call 179; refine (HC.out _ (HW1.out.trans (Below.mono bel HW1.out.size)) (HR1.out.below bel)).mono ?_; intro e9 w9 hv9; obtain ⟨cs9, L9, m9, f9, rfl, ht9, hR9, hok9, hA9, hm9⟩ := hv9; obtain ⟨u0, u1, u2, u3, U4, u4, u44, U5, u5, u55, rfl⟩ := ht9; obtain ⟨-, -, -, -, -, p5, -⟩ := row6 ((hA9.block (w.heap.size + 1) ly hb1).trans HLb1.out.list); have l9 : w.heap.size + 1 < w9.heap.size := Nat.lt_of_lt_of_le ly hA9.size; have Hone := hid (TreeV.one ⟨u0, u1, u2, u3, U4, u4, u44, U5, u5, u55, rfl⟩)) | (refine step_append_lies _ rfl _ _ 32 rfl (w.heap.size + 2) 34 i0 (.agg #[.int .i64 0, .bool false, .int .i64 0, .string ⟨#[]⟩, .slice none 0 0, .slice none 0 0]) 6 88 Tryz.underlying32 HI0.out hz0 hz1 hz2 rfl (by decide) _ ess.length ess.flatten rfl (own9b HK1.out.row hA9 rfl hsb rfl) ⟨w9.heap.size, 0, none⟩ 1 1 [.int .i64 u0, .bool u1, .int .i64 u2, .string u3, .slice U4 u4 u44, .slice U5 u5 u55] rfl rfl (World.news_of_block (heap_alloc_new w9 _)) Hone.out (by decide) (by unfold maxLen; omega) (by omega) (by have := hA9.size; simp at this ⊢; omega) _ rfl ?_; intro g2 cap2 w2 hown2 hgrow2 hat2 hlt2; obtain ⟨-, -, -, -, -, q5, qf⟩ := row6 ((blk9b ly hA9 rfl hgrow2 Hr.out hn1 hb1).trans HLb1.out.list)))
    all_goals
     have RT2 := (blk9b ly hA9 rfl hgrow2 Hr.out hn1 hb1).trans HLb1.out.list;have RZ2 := (blk9b lz hA9 rfl hgrow2 Hr.out hn0 hb0).trans HLb1.out.zero;have hgA : Aside (fun q => some q = rb) w9 w2 := Aside.trans (aside_alloc (Aside.refl _ _)) ⟨hgrow2.os, hgrow2.tape, hgrow2.output, hgrow2.size, fun q h1 h2 => hgrow2.block q h1 (fun h => h2 (h.trans Hr.out.symm))⟩;have hF2 : Aside (fun q => q = b ∨ q = g ∨ w.heap.size <= q) w w2 := (HLb1.out.aside.join (Aside.trans (Aside.of_below (bel : Below wd.heap.size wd _)) hA9) (fun q hq _ => by omega)).join hgA (fun q hq _ => .inr (.inr (by have := (Hrl.out q hq.symm).1; omega)))
     have hR2 := hR9.past hgA (fun hq => by have := (Hrl.out _ hq.symm).1; omega) (fun hq => by have := (Hrl.out _ hq.symm).1; omega);have hl2 := row_lt RT2;have hs9 : wd.heap.size <= w9.heap.size := hA9.size;have hs2 : w9.heap.size + 1 <= w2.heap.size := by have := hgrow2.size; simp at this; omega
     have hkp : ∀ q, w.heap.size + 2 <= q -> q < wd.heap.size -> (Value.slice VA ess.length vc).ownBlock ≠ some q -> w2.heap[q]? = wd.heap[q]? := fun q h1 h2 h3 => blk9b h2 hA9 rfl hgrow2 Hr.out (by rw [Hr.out]; exact h3) (by omega)
     have h29 : ∀ q, wd.heap.size <= q -> q < w9.heap.size -> w2.heap[q]? = w9.heap[q]? := fun q h1 h2 => (hgrow2.block q (by simp; omega) (fun e => by have := (Hrl.out q (by rw [Hr.out]; exact e.symm)).2; omega)).trans (Below.heap_alloc _ _ _ h2)
     have Hp := hid (KidsE.push (t := resT (readK k1 (.below i (d + 1) x.at') t m)) (s9 := w9.heap.size) HK1.out rfl hkp (by omega) hs9 (by omega) (fun u hu => by
       rcases hres : (readK k1 (.below i (d + 1) x.at') t m) with f' | ⟨t', L', m'⟩
       ·rw [hres] at hu; cases hu
       ·rw [hres] at hu hm9
        cases hu
        exact (hm9.2.2.2.up (show 10 - (d + 1) <= nT by rw [HNT.out]; exact Nat.le_refl _)).carry (fun q hq => h29 q hq.1 hq.2) (fun q hq => ⟨by have := hq.1; (try simp at this); omega, hq.2⟩)) hown2 (by rcases hat2 with h | h; exact .inl h; exact .inr (by simp at h ⊢; omega)) hlt2)
     have Hm9 := hid hm9;go_wp2_with fail
     go_meet
     refine ⟨⟨comb2 (some acc) (resT (readK k1 (.below i (d + 1) x.at') t m)), .slice (some ⟨g2, 0, none⟩) (ess.length + 1) cap2, ess ++ [[.int .i64 u0, .bool u1, .int .i64 u2, .string u3, .slice U4 u4 u44, .slice U5 u5 u55]], L9, m9, f9, ⟨(Below.heap_setCell _ _ _ _ (by simp)).trans RZ2, heap_setCell_same w2 (w.heap.size + 1) 5 _ _ _ RT2, aside_set (.inr (.inr (by simp))) hF2⟩, Hp.out.carry (by simp) (fun x h1 _ => Below.heap_setCell _ _ _ _ (by simp; omega)), hR2.past (S := fun q => q = w.heap.size + 1) (aside_set rfl (Aside.refl _ _)) (fun hq => by omega) (fun hq => by omega), hok9, by simp; omega, ?_⟩, ?_⟩
     ·have hx := HX2.out
      have hm := Hm9.out;rcases hres : (readK k1 (.below i (d + 1) x.at') t m) with f' | ⟨t', L', m'⟩
      ·rw [hres] at hm hx
       exact ⟨by rw [hm.1]; exact hm.2, by rw [hm.1]; exact hx⟩
      ·rw [hres] at hm hx
       obtain ⟨e1, e2, e3, -⟩ := hm;have hgw := HG.out _ _ _ hres;have hnl := HNd.out _ _ _ hres;rw [e2, e3];exact ⟨e1, hgw.2, by simp; omega, k1, hnl, by omega, hx⟩
     ·have hm := Hm9.out
      have hme := (hR2.past (S := fun q => q = w.heap.size + 1) (aside_set (u := .slice (some ⟨g2, 0, none⟩) (ess.length + 1) cap2) (p := ⟨w.heap.size + 1, 5, none⟩) rfl (Aside.refl _ w2)) (fun hq => by omega) (fun hq => by omega)).meas;rw [hme, HRr.out.meas, if_pos (show flt0.code = 0 from rfl)];rcases hres : (readK k1 (.below i (d + 1) x.at') t m) with f' | ⟨t', L', m'⟩
      ·rw [hres] at hm
       rw [hm.1, if_neg hm.2];omega
      ·rw [hres] at hm
       rw [hm.1, hm.2.1, if_pos (show flt0.code = 0 from rfl)];have := HLn.out _ _ _ hres;simp only [List.length_cons];omega
   case rest =>
    obtain ⟨hc1, hc2⟩ := hcut;have HC1 := hid hc1;have HC2 := hid hc2;clear hc1 hc2 y0 y1 y2 y3 y4 y5 yf;go_wp2_with fail
    go_roundw
    case rel => exact HC1.out
    case measure => exact HC2.out
  ·have hdd : IntKind.i64.wrap ((d : Int) + 1) = ((d + 1 : Nat) : Int) := by rw [IntKind.wrap_i64] <;> omega
   have hre : (rest.toList == []) = false := by
    have h1 := hend.1;rw [ByteArray.toList_eq];cases hl : rest.data.toList with
    | nil => rw [<- list_size, hl] at h1; exact absurd h1 (by simp)
    | cons _ _ => rfl
   have hre2 : rest.toList.isEmpty = false := by
    have h1 := hend.1;rw [ByteArray.toList_eq];cases hl : rest.data.toList with
    | nil => rw [<- list_size, hl] at h1; exact absurd h1 (by simp)
    | cons _ _ => rfl
   have hx2 : r = (match readK k1 (.value (d + 1)) (⟨i + kk, rest, x.at'⟩ :: t) m with
    | .bad f => .bad f
    | .good u L' m' => readK k1 (.list i d (acc ++ [u])) L' m') := by
    have h := HX.out;unfold itemJ at h;rw [if_neg (by omega)] at h;exact h
   have hxo := HXO.out;have hok2 : InOk (⟨i + kk, rest, x.at'⟩ :: t) := InOk.cons HOk.out.tail ⟨by have := hxo.1; have := HXI.out; show i + kk + rest.size <= 20000; omega, hxo.2.1, hend⟩
   have hnv : needI (.value (d + 1)) (⟨i + kk, rest, x.at'⟩ :: t) <= k1 := by
    have := HNe.out;unfold needI at this ⊢;simp only [cost_cons] at this ⊢;omega
   have HX2 := hid hx2;have HOk2 := hid hok2;have hikz : ((i + kk : Nat) : Int) = (i : Int) + kk := by omega
   have hik : (i : Int) + kk <= 20000 := by have := hxo.1; have := HXI.out; omega
   have HIK := hid hikz
   have hC : ∀ (W : World), Below w0.heap.size w0 W -> InAt 61 b g N cap (⟨i + kk, rest, x.at'⟩ :: t) m flt0 W -> Calls Tryz.prog 51 #[.pointer (some ⟨b, 0, none⟩), .int .i64 ((d + 1 : Nat) : Int)] W (OutI 61 b g N cap (10 - (d + 1)) (readK k1 (.value (d + 1)) (⟨i + kk, rest, x.at'⟩ :: t) m) W) := fun W h1 h2 =>
    Hv.out k1 hkk1 (d + 1) _ t m W (by omega) (by omega) hm HOk2.out hnv h1 h2
   have HC := hid hC;have hgrow : ∀ (t' : TreeD) (L' : List LineD) (m' : Nat), readK k1 (.value (d + 1)) (⟨i + kk, rest, x.at'⟩ :: t) m = .good t' L' m' -> m + 1 <= m' /\ m' <= 300 := fun _ _ _ h => readK_grow h hm (by omega)
   have hlen' : ∀ (t' : TreeD) (L' : List LineD) (m' : Nat), readK k1 (.value (d + 1)) (⟨i + kk, rest, x.at'⟩ :: t) m = .good t' L' m' -> L'.length <= t.length := fun _ _ _ h => by have := readK_len_value h; simp at this; omega
   have hneed : ∀ (t' : TreeD) (L' : List LineD) (m' : Nat), readK k1 (.value (d + 1)) (⟨i + kk, rest, x.at'⟩ :: t) m = .good t' L' m' -> needI (.list i d (acc ++ [t'])) L' <= k1 := fun _ _ _ h => by
    have h1 := (readK_less _ _ _ _ _ _ _ h).1;unfold needI at hnv ⊢;simp only [cost_cons] at h1 hnv ⊢;omega
   have HG := hid hgrow;have HLn := hid hlen';have HNd := hid hneed;have hxi := HXI.out;clear hx2 hC hgrow hlen' hneed hok2 hxo hikz hnv;obtain ⟨p, hbx⟩ := HR1.out.open;have HPos := hid hbx.pos;obtain ⟨a0, a1, a2, a3, a4, a5, af⟩ := row6 hbx.row;have lb := row_lt hbx.row;obtain ⟨c0, c1, c2, cf⟩ := hbx.line x t rfl;rw [hxi] at c0;have lg := hbx.lines;have hpN : (p : Int) < N := by have := hbx.pos; rw [List.length_cons] at this; omega
   have hp0 : (0 : Int) <= p := by omega
   have hcap := hbx.cap';have hgb := hbx.ne;have hN2 := hbx.small;clear hbx;have hwik : IntKind.i64.wrap ((i : Int) + (kk : Int)) = ((i + kk : Nat) : Int) := by rw [IntKind.wrap_i64] <;> omega
   have HWik := hid hwik;clear hwik;go_upto_region 7 with fail
   go_cut [] from 45 to 59 (fun wx => InAt 61 b g N cap (⟨i + kk, x.text, x.at'⟩ :: t) m flt0 wx /\ Aside (fun q => q = g) wd wx)
   case first =>
    go_region_law (fail)
    all_goals
     (try go_wp2_with fail)
     go_meet
     exact ⟨(InAt.tellI HR1.out HPos.out HWik.out).below bel, (aside_set (S := fun q => q = g) rfl (Aside.refl _ _)).trans (Aside.of_below bel)⟩
   case rest =>
    obtain ⟨hR7, hA7⟩ := hcut;have HR7 := hid hR7;have HA7 := hid hA7;clear hR7 hA7 a0 a1 a2 a3 a4 a5 af c0 c1 c2 cf lb lg;obtain ⟨p7, hbx⟩ := HR7.out.open;obtain rfl : p7 = p := by have := HPos.out; have := hbx.pos; simp only [List.length_cons] at *; omega
    obtain ⟨a0, a1, a2, a3, a4, a5, af⟩ := row6 hbx.row;have lb := row_lt hbx.row;obtain ⟨c0, c1, c2, cf⟩ := hbx.line _ t rfl;have lg := hbx.lines;clear hbx;go_upto_region 8 with fail
    go_cut [] from 60 to 70 (fun wx => InAt 61 b g N cap (⟨i + kk, rest, x.at'⟩ :: t) m flt0 wx /\ Aside (fun q => q = g) wd wx)
    case first =>
     go_region_law (fail)
     all_goals
      (try go_wp2_with fail)
      go_meet
      exact ⟨(InAt.tellT HR7.out HPos.out).below bel, (HA7.out.trans (aside_set (S := fun q => q = g) rfl (Aside.refl _ _))).trans (Aside.of_below bel)⟩
    case rest =>
     obtain ⟨hR8, hA8⟩ := hcut;have HLb1 := hid (HLb1.out.same hA8 (fun q hq => .inr (.inl hq)) hlb hlg);have HK1 := hid (HK1.out.carry hA8.size (fun q h1 h2 => hA8.block q h2 (by omega)));have HR1 := hid hR8;have HW1 := hid (H0.out.keep HW1.out (hA8.mono (fun q hq => .inr hq)));clear hR8 hA8 a0 a1 a2 a3 a4 a5 af c0 c1 c2 cf lb lg;obtain ⟨y0, y1, y2, y3, y4, y5, yf⟩ := row6 HLb1.out.list
     have ly := row_lt HLb1.out.list;have lz := row_lt HLb1.out.zero;obtain ⟨rb, hrb⟩ : ∃ rb, rb = (Value.slice VA ess.length vc).ownBlock := ⟨_, rfl⟩
     have hrl : ∀ q, rb = some q -> w.heap.size + 2 <= q /\ q < wc.heap.size := fun q hq => ⟨(HK1.out.row.lt q (by rw [<- hrb]; exact hq)).1, HK1.out.hi q (by rw [<- hrb]; exact hq)⟩
     have hn0 : rb ≠ some w.heap.size := fun h => by have := (hrl _ h).1; omega
     have hn1 : rb ≠ some (w.heap.size + 1) := fun h => by have := (hrl _ h).1; omega
     have Hrl := hid hrl;have Hr := hid hrb;have hb0 : ¬ (w.heap.size = b ∨ w.heap.size = g) := by omega
     have hb1 : ¬ (w.heap.size + 1 = b ∨ w.heap.size + 1 = g) := by omega
     have hsb : ∀ q, (q = b ∨ q = g) -> q < w.heap.size + 2 := fun q hq => by omega
     obtain ⟨el, hel2⟩ : ∃ el, el = ess.length := ⟨_, rfl⟩
     have HEl := hid hel2;clear hrl hrb hel2;obtain ⟨dz, hdz⟩ : ∃ dz : Int, dz = ((d + 1 : Nat) : Int) := ⟨_, rfl⟩
     rw [<- hdz] at hdd HC;clear hdz;go_upto_region 9 with fail
     go_region_law (first | (go_simp; go_at_call 51; refine (HC.out _ (HW1.out.trans (Below.mono bel HW1.out.size)) (HR1.out.below bel)).mono ?_; intro e9 w9 hv9; obtain ⟨cs9, L9, m9, f9, rfl, ht9, hR9, hok9, hA9, hm9⟩ := hv9; obtain ⟨u0, u1, u2, u3, U4, u4, u44, U5, u5, u55, rfl⟩ := ht9; obtain ⟨-, -, -, -, -, p5, -⟩ := row6 ((hA9.block (w.heap.size + 1) ly hb1).trans HLb1.out.list); have l9 : w.heap.size + 1 < w9.heap.size := Nat.lt_of_lt_of_le ly hA9.size; have Hone := hid (TreeV.one ⟨u0, u1, u2, u3, U4, u4, u44, U5, u5, u55, rfl⟩)) | (refine step_append_lies _ rfl _ _ 32 rfl (w.heap.size + 2) 34 i0 (.agg #[.int .i64 0, .bool false, .int .i64 0, .string ⟨#[]⟩, .slice none 0 0, .slice none 0 0]) 6 88 Tryz.underlying32 HI0.out hz0 hz1 hz2 rfl (by decide) _ ess.length ess.flatten rfl (own9b HK1.out.row hA9 rfl hsb rfl) ⟨w9.heap.size, 0, none⟩ 1 1 [.int .i64 u0, .bool u1, .int .i64 u2, .string u3, .slice U4 u4 u44, .slice U5 u5 u55] rfl rfl (World.news_of_block (heap_alloc_new w9 _)) Hone.out (by decide) (by unfold maxLen; omega) (by omega) (by have := hA9.size; simp at this ⊢; omega) _ rfl ?_; intro g2 cap2 w2 hown2 hgrow2 hat2 hlt2; obtain ⟨-, -, -, -, -, q5, qf⟩ := row6 ((blk9b ly hA9 rfl hgrow2 Hr.out hn1 hb1).trans HLb1.out.list)))
     all_goals
      have RT2 := (blk9b ly hA9 rfl hgrow2 Hr.out hn1 hb1).trans HLb1.out.list;have RZ2 := (blk9b lz hA9 rfl hgrow2 Hr.out hn0 hb0).trans HLb1.out.zero;have hgA : Aside (fun q => some q = rb) w9 w2 := Aside.trans (aside_alloc (Aside.refl _ _)) ⟨hgrow2.os, hgrow2.tape, hgrow2.output, hgrow2.size, fun q h1 h2 => hgrow2.block q h1 (fun h => h2 (h.trans Hr.out.symm))⟩;have hF2 : Aside (fun q => q = b ∨ q = g ∨ w.heap.size <= q) w w2 := (HLb1.out.aside.join (Aside.trans (Aside.of_below (bel : Below wc.heap.size wc _)) hA9) (fun q hq _ => by omega)).join hgA (fun q hq _ => .inr (.inr (by have := (Hrl.out q hq.symm).1; omega)))
      have hR2 := hR9.past hgA (fun hq => by have := (Hrl.out _ hq.symm).1; omega) (fun hq => by have := (Hrl.out _ hq.symm).1; omega);have hl2 := row_lt RT2;have hs9 : wc.heap.size <= w9.heap.size := hA9.size;have hs2 : w9.heap.size + 1 <= w2.heap.size := by have := hgrow2.size; simp at this; omega
      have hkp : ∀ q, w.heap.size + 2 <= q -> q < wc.heap.size -> (Value.slice VA ess.length vc).ownBlock ≠ some q -> w2.heap[q]? = wc.heap[q]? := fun q h1 h2 h3 => blk9b h2 hA9 rfl hgrow2 Hr.out (by rw [Hr.out]; exact h3) (by omega)
      have h29 : ∀ q, wc.heap.size <= q -> q < w9.heap.size -> w2.heap[q]? = w9.heap[q]? := fun q h1 h2 => (hgrow2.block q (by simp; omega) (fun e => by have := (Hrl.out q (by rw [Hr.out]; exact e.symm)).2; omega)).trans (Below.heap_alloc _ _ _ h2)
      have Hp := hid (KidsE.push (t := resT (readK k1 (.value (d + 1)) (⟨i + kk, rest, x.at'⟩ :: t) m)) (s9 := w9.heap.size) HK1.out rfl hkp (by omega) hs9 (by omega) (fun u hu => by
        rcases hres : (readK k1 (.value (d + 1)) (⟨i + kk, rest, x.at'⟩ :: t) m) with f' | ⟨t', L', m'⟩
        ·rw [hres] at hu; cases hu
        ·rw [hres] at hu hm9
         cases hu
         exact (hm9.2.2.2.up (show 10 - (d + 1) <= nT by rw [HNT.out]; exact Nat.le_refl _)).carry (fun q hq => h29 q hq.1 hq.2) (fun q hq => ⟨by have := hq.1; (try simp at this); omega, hq.2⟩)) hown2 (by rcases hat2 with h | h; exact .inl h; exact .inr (by simp at h ⊢; omega)) hlt2)
      have Hm9 := hid hm9;go_wp2_with fail
      go_roundw
      case rel =>
       refine ⟨comb2 (some acc) (resT (readK k1 (.value (d + 1)) (⟨i + kk, rest, x.at'⟩ :: t) m)), .slice (some ⟨g2, 0, none⟩) (ess.length + 1) cap2, ess ++ [[.int .i64 u0, .bool u1, .int .i64 u2, .string u3, .slice U4 u4 u44, .slice U5 u5 u55]], L9, m9, f9, ⟨(Below.heap_setCell _ _ _ _ (by simp)).trans RZ2, heap_setCell_same w2 (w.heap.size + 1) 5 _ _ _ RT2, aside_set (.inr (.inr (by simp))) hF2⟩, Hp.out.carry (by simp) (fun x h1 _ => Below.heap_setCell _ _ _ _ (by simp; omega)), hR2.past (S := fun q => q = w.heap.size + 1) (aside_set rfl (Aside.refl _ _)) (fun hq => by omega) (fun hq => by omega), hok9, by simp; omega, ?_⟩
       have hx := HX2.out;have hm := Hm9.out;rcases hres : (readK k1 (.value (d + 1)) (⟨i + kk, rest, x.at'⟩ :: t) m) with f' | ⟨t', L', m'⟩
       ·rw [hres] at hm hx
        exact ⟨by rw [hm.1]; exact hm.2, by rw [hm.1]; exact hx⟩
       ·rw [hres] at hm hx
        obtain ⟨e1, e2, e3, -⟩ := hm;have hgw := HG.out _ _ _ hres;have hnl := HNd.out _ _ _ hres;rw [e2, e3];exact ⟨e1, hgw.2, by simp; omega, k1, hnl, by omega, hx⟩
      case measure =>
       have hm := Hm9.out;have hme := (hR2.past (S := fun q => q = w.heap.size + 1) (aside_set (u := .slice (some ⟨g2, 0, none⟩) (ess.length + 1) cap2) (p := ⟨w.heap.size + 1, 5, none⟩) rfl (Aside.refl _ w2)) (fun hq => by omega) (fun hq => by omega)).meas;rw [hme, HRr.out.meas, if_pos (show flt0.code = 0 from rfl)];rcases hres : (readK k1 (.value (d + 1)) (⟨i + kk, rest, x.at'⟩ :: t) m) with f' | ⟨t', L', m'⟩
       ·rw [hres] at hm
        rw [hm.1, if_neg hm.2];omega
       ·rw [hres] at hm
        rw [hm.1, hm.2.1, if_pos (show flt0.code = 0 from rfl)];have := HLn.out _ _ _ hres;simp only [List.length_cons];omega
end Go.Proofs.YtohcpifekcehjaaGreatDoor
