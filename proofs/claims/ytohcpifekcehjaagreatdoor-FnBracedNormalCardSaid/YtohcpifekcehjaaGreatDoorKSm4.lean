/- Steps to FnBracedNormal. No conditions. -/
import Derived.Test.YtohcpifekcehjaaGreatDoorKSm3
import Derived.Lib.AppendStr
import Derived.Laws.IdiomStrings
import Derived.Lib.BufferRead
import Derived.Test.YtohcpifekcehjaaGreatDoorKSm1
import Derived.Lib.ItoaNum
import Derived.Test.YtohcpifekcehjaaGreatDoorKSm2
import Derived.Lib.AtoiAllCases
import Derived.Shelf.LaysC
import Derived.Shelf.Strconv.AtoiAll
set_option maxHeartbeats 16000000
set_option maxRecDepth 20000
namespace Go.Proofs.YtohcpifekcehjaaGreatDoor
open Go.RowKit Go.Lib
def escI (b : Nat) : Int := if b = 98 then 0 else if b = 102 then 1 else if b = 110 then 2 else if b = 114 then 3 else if b = 116 then 4 else -1
theorem idx_esc : ∀ i : Fin 256, Lib.indexByte [98, 102, 110, 114, 116] (UInt8.ofNat i.val) = escI i.val := by decide
theorem c_IndexEsc (b : Nat) (hb : b < 256) (w : World) : Calls Tryz.prog 130 #[.string { data := #[98, 102, 110, 114, 116] }, .int .u8 b] w fun e w' => e = .returned (.int .i64 (escI b)) /\ w = w' := by
 have h := c_strings_IndexByte { data := #[98, 102, 110, 114, 116] } (UInt8.ofNat b) w
 have e1 : (UInt8.ofNat b).toNat = b := by rw [UInt8.toNat_ofNat']; exact Nat.mod_eq_of_lt hb
 rw [e1] at h
 exact h.mono (fun _ _ h => ⟨h.1.trans (congrArg (fun z => Ending.returned (Value.int .i64 z)) (idx_esc ⟨b, hb⟩)), h.2⟩)
theorem fourB_fits {s : ByteArray} {i : Nat} (h : 0 <= fourB s i) : i + 4 <= s.size := by
 unfold fourB at h
 split at h
 ·assumption
 ·omega
theorem c_impl_readEscape (s : ByteArray) (i : Nat) (w : World) (hs : s.size <= 1048576) (hi : i <= 1048577) (hV : CTab w) (hT : Tabs w) :
  Calls Tryz.prog 237 #[.string s, .int .i64 i] w fun e w' => e = .returned (.tuple #[.int .i64 (escB s i).1, .int .i64 (escB s i).2]) /\ Below w.heap.size w w' := by
 have HVT := hid (And.intro hV hT)
 clear hV hT
 by_cases hlt : (i : Int) < s.size
 ·have h0 : (0 : Int) <= i := by omega
  have h1 : decide ((s.size : Int) <= i) = false := decide_eq_false (by omega)
  have h2 : decide (s.size <= i) = false := decide_eq_false (by omega)
  have hii : i < s.size := by omega
  obtain ⟨b, hb⟩ : ∃ b : Nat, b = (s.get! i).toNat := ⟨_, rfl⟩
  have hx : (s[i]'hii).toNat = b := by rw [hb]; exact get_at s i hii
  have hb2 : (b : Int) < 256 := by have := (s.get! i).toNat_lt; omega
  have hby : byteI s i = b := by unfold byteI; rw [hb]
  clear hb
  have HE := hid (show escB s i = _ from if_pos hii)
  rw [hby] at HE
  have Hii := hid hii
  have HE0 := hid HE.out
  clear HE
  by_cases e34 : (b : Int) = 34
  ·have Hf := hid (show escB s i = ((b : Int), (i : Int) + 1) by rw [HE0.out, if_pos (by omega)])
   obtain rfl : b = 34 := by omega
   clear e34
   go_enter Tryz.func237, Tryz.ntmps237
   go_wp2_with fail
   go_ret2
   exact ⟨by rw [Hf.out]; rfl, Below.refl _ _⟩
  ·have f34 : ((b : Int) == 34) = false := beq_eq_false_iff_ne.2 e34
   by_cases e92 : (b : Int) = 92
   ·have Hf := hid (show escB s i = ((b : Int), (i : Int) + 1) by rw [HE0.out, if_pos (by omega)])
    obtain rfl : b = 92 := by omega
    clear e92
    go_enter Tryz.func237, Tryz.ntmps237
    go_wp2_with fail
    go_ret2
    exact ⟨by rw [Hf.out]; rfl, Below.refl _ _⟩
   ·have f92 : ((b : Int) == 92) = false := beq_eq_false_iff_ne.2 e92
    by_cases e47 : (b : Int) = 47
    ·have Hf := hid (show escB s i = ((b : Int), (i : Int) + 1) by rw [HE0.out, if_pos (by omega)])
     obtain rfl : b = 47 := by omega
     clear e47
     go_enter Tryz.func237, Tryz.ntmps237
     go_wp2_with fail
     go_ret2
     exact ⟨by rw [Hf.out]; rfl, Below.refl _ _⟩
    ·have f47 : ((b : Int) == 47) = false := beq_eq_false_iff_ne.2 e47
     by_cases e98 : (b : Int) = 98
     ·have Hf := hid (show escB s i = (8, (i : Int) + 1) by rw [HE0.out, if_neg (by omega), if_pos e98])
      obtain rfl : b = 98 := by omega
      clear e98
      have hk : (({ data := #[8, 12, 10, 13, 9] } : ByteArray)[0]'(by decide)).toNat = 8 := rfl
      go_enter Tryz.func237, Tryz.ntmps237
      go_wp2_with fail
      refine (c_IndexEsc 98 (by omega) _).mono ?_
      rintro e w9 ⟨rfl, rfl⟩
      rw [show escI 98 = 0 from rfl]
      go_wp2_with fail
      go_ret2
      exact ⟨by rw [Hf.out]; rfl, Below.refl _ _⟩
     ·have f98 : ((b : Int) == 98) = false := beq_eq_false_iff_ne.2 e98
      by_cases e102 : (b : Int) = 102
      ·have Hf := hid (show escB s i = (12, (i : Int) + 1) by rw [HE0.out, if_neg (by omega), if_neg (by omega), if_pos e102])
       obtain rfl : b = 102 := by omega
       clear e102
       have hk : (({ data := #[8, 12, 10, 13, 9] } : ByteArray)[1]'(by decide)).toNat = 12 := rfl
       go_enter Tryz.func237, Tryz.ntmps237
       go_wp2_with fail
       refine (c_IndexEsc 102 (by omega) _).mono ?_
       rintro e w9 ⟨rfl, rfl⟩
       rw [show escI 102 = 1 from rfl]
       go_wp2_with fail
       go_ret2
       exact ⟨by rw [Hf.out]; rfl, Below.refl _ _⟩
      ·have f102 : ((b : Int) == 102) = false := beq_eq_false_iff_ne.2 e102
       by_cases e110 : (b : Int) = 110
       ·have Hf := hid (show escB s i = (10, (i : Int) + 1) by rw [HE0.out, if_neg (by omega), if_neg (by omega), if_neg (by omega), if_pos e110])
        obtain rfl : b = 110 := by omega
        clear e110
        have hk : (({ data := #[8, 12, 10, 13, 9] } : ByteArray)[2]'(by decide)).toNat = 10 := rfl
        go_enter Tryz.func237, Tryz.ntmps237
        go_wp2_with fail
        refine (c_IndexEsc 110 (by omega) _).mono ?_
        rintro e w9 ⟨rfl, rfl⟩
        rw [show escI 110 = 2 from rfl]
        go_wp2_with fail
        go_ret2
        exact ⟨by rw [Hf.out]; rfl, Below.refl _ _⟩
       ·have f110 : ((b : Int) == 110) = false := beq_eq_false_iff_ne.2 e110
        by_cases e114 : (b : Int) = 114
        ·have Hf := hid (show escB s i = (13, (i : Int) + 1) by rw [HE0.out, if_neg (by omega), if_neg (by omega), if_neg (by omega), if_neg (by omega), if_pos e114])
         obtain rfl : b = 114 := by omega
         clear e114
         have hk : (({ data := #[8, 12, 10, 13, 9] } : ByteArray)[3]'(by decide)).toNat = 13 := rfl
         go_enter Tryz.func237, Tryz.ntmps237
         go_wp2_with fail
         refine (c_IndexEsc 114 (by omega) _).mono ?_
         rintro e w9 ⟨rfl, rfl⟩
         rw [show escI 114 = 3 from rfl]
         go_wp2_with fail
         go_ret2
         exact ⟨by rw [Hf.out]; rfl, Below.refl _ _⟩
        ·have f114 : ((b : Int) == 114) = false := beq_eq_false_iff_ne.2 e114
         by_cases e116 : (b : Int) = 116
         ·have Hf := hid (show escB s i = (9, (i : Int) + 1) by rw [HE0.out, if_neg (by omega), if_neg (by omega), if_neg (by omega), if_neg (by omega), if_neg (by omega), if_pos e116])
          obtain rfl : b = 116 := by omega
          clear e116
          have hk : (({ data := #[8, 12, 10, 13, 9] } : ByteArray)[4]'(by decide)).toNat = 9 := rfl
          go_enter Tryz.func237, Tryz.ntmps237
          go_wp2_with fail
          refine (c_IndexEsc 116 (by omega) _).mono ?_
          rintro e w9 ⟨rfl, rfl⟩
          rw [show escI 116 = 4 from rfl]
          go_wp2_with fail
          go_ret2
          exact ⟨by rw [Hf.out]; rfl, Below.refl _ _⟩
         ·have f116 : ((b : Int) == 116) = false := beq_eq_false_iff_ne.2 e116
          obtain ⟨p1, hp1⟩ : ∃ p, p = i + 1 := ⟨_, rfl⟩
          have q1 : (i : Int) + 1 = p1 := by omega
          have HP1 := hid hp1
          obtain ⟨p5, hp5⟩ : ∃ p, p = i + 5 := ⟨_, rfl⟩
          have q5 : (i : Int) + 5 = p5 := by omega
          have HP5 := hid hp5
          obtain ⟨p6, hp6⟩ : ∃ p, p = i + 6 := ⟨_, rfl⟩
          have q6 : (i : Int) + 6 = p6 := by omega
          have HP6 := hid hp6
          obtain ⟨p7, hp7⟩ : ∃ p, p = i + 7 := ⟨_, rfl⟩
          have q7 : (i : Int) + 7 = p7 := by omega
          have HP7 := hid hp7
          obtain ⟨p11, hp11⟩ : ∃ p, p = i + 11 := ⟨_, rfl⟩
          have q11 : (i : Int) + 11 = p11 := by omega
          have HP11 := hid hp11
          have hpb : (p11 : Int) <= 1048588 := by omega
          have hpc : (p7 : Int) <= 1048588 := by omega
          have hpd : (p1 : Int) <= 1048588 := by omega
          clear hp1 hp5 hp6 hp7 hp11
          have HIX := hid (show escI b = -1 by unfold escI; rw [if_neg (by omega), if_neg (by omega), if_neg (by omega), if_neg (by omega), if_neg (by omega)])
          by_cases e117 : (b : Int) = 117
          ·have HU := hid (show escB s i = _ by rw [HE0.out, if_neg (by omega), if_neg (by omega), if_neg (by omega), if_neg (by omega), if_neg (by omega), if_neg (by omega), if_pos e117])
           obtain rfl : b = 117 := by omega
           clear e117 HIX e34 e92 e47 e98 e102 e110 e114 e116 f34 f92 f47 f98 f102 f110 f114 f116
           obtain ⟨n, hn⟩ : ∃ n, n = fourB s p1 := ⟨_, rfl⟩
           have hnr := fourB_range s p1
           rw [<- hn] at hnr
           obtain ⟨hn1, hn2⟩ := hnr
           have HN := hid hn
           clear hn
           by_cases n0 : n < 0
           ·have Hf := hid (show escB s i = (0, -1) by rw [HU.out, <- HP1.out, <- HN.out]; exact if_pos (.inl n0))
            have H4 := hid (four_no (show fourB s p1 < 0 by rw [<- HN.out]; exact n0))
            go_enter Tryz.func237, Tryz.ntmps237
            go_wp2_with fail
            refine (c_IndexEsc 117 (by omega) _).mono ?_
            rintro e w9 ⟨rfl, rfl⟩
            rw [show escI 117 = -1 from rfl]
            go_wp2_with fail
            refine (c_impl_fourDigits s p1 _ hs (by omega) HVT.out.1 HVT.out.2).mono ?_
            rintro e w1 ⟨rfl, hb1⟩
            have HB1 := hid hb1
            clear hb1
            rw [H4.out.1, H4.out.2]
            go_wp2_with fail
            go_ret2
            exact ⟨by rw [Hf.out]; rfl, HB1.out⟩
           ·have d0 : decide (n < 0) = false := decide_eq_false n0
            have hn0 : 0 <= n := by omega
            have H4 := hid (four_yes HN.out.symm hn0)
            rcases hB : inB n 56320 57343 with _ | _
            ·rcases hC : inB n 55296 56319 with _ | _
             ·have Hf := hid (show escB s i = (n, (p5 : Int)) by rw [HU.out, <- HP1.out, <- HN.out]; rw [<- q5]; exact (if_neg (by rintro (h | h); exact n0 h; rw [hB] at h; exact absurd h (by decide))).trans (if_pos hC))
              clear n0
              go_enter Tryz.func237, Tryz.ntmps237
              go_wp2_with fail
              refine (c_IndexEsc 117 (by omega) _).mono ?_
              rintro e w9 ⟨rfl, rfl⟩
              rw [show escI 117 = -1 from rfl]
              go_wp2_with fail
              refine (c_impl_fourDigits s p1 _ hs (by omega) HVT.out.1 HVT.out.2).mono ?_
              rintro e w1 ⟨rfl, hb1⟩
              have HB1 := hid hb1
              clear hb1
              rw [H4.out.1, H4.out.2]
              go_wp2_with (first | (go_at_call 63; refine (c_impl_within _ _ _ _).mono ?_; rintro e w' ⟨rfl, rfl⟩))
              go_ret2
              exact ⟨by rw [Hf.out]; rfl, HB1.out⟩
             ·have HV := hid (show escB s i = (if s.size < p7 ∨ byteI s p5 ≠ 92 ∨ byteI s p6 ≠ 117 then (0, -1) else if inB (fourB s p7) 56320 57343 = true then (65536 + 1024 * (n - 55296) + fourB s p7 - 56320, (p11 : Int)) else (0, -1)) by rw [HU.out, <- HP1.out, <- HN.out]; rw [<- HP5.out, <- HP6.out, <- HP7.out, q11]; exact (if_neg (by rintro (h | h); exact n0 h; rw [hB] at h; exact absurd h (by decide))).trans (if_neg (by rw [hC]; decide)))
              clear n0
              have hnC : 55296 <= n /\ n <= 56319 := by unfold inB at hC; simpa using hC
              obtain ⟨hnC1, hnC2⟩ := hnC
              obtain ⟨m, hm⟩ : ∃ m, m = fourB s p7 := ⟨_, rfl⟩
              have hmr := fourB_range s p7
              rw [<- hm] at hmr
              obtain ⟨hm1, hm2⟩ := hmr
              have HM := hid hm
              clear hm
              by_cases m0 : m < 0
              ·have H7 := hid (four_no (show fourB s p7 < 0 by rw [<- HM.out]; exact m0))
               have Hf := hid (show escB s i = (0, -1) by rw [HV.out, <- HM.out]; split; rfl; exact if_neg (by unfold inB; rw [decide_eq_false (by omega)]; decide))
               go_enter Tryz.func237, Tryz.ntmps237
               go_wp2_with fail
               refine (c_IndexEsc 117 (by omega) _).mono ?_
               rintro e w9 ⟨rfl, rfl⟩
               rw [show escI 117 = -1 from rfl]
               go_wp2_with fail
               refine (c_impl_fourDigits s p1 _ hs (by omega) HVT.out.1 HVT.out.2).mono ?_
               rintro e w1 ⟨rfl, hb1⟩
               have HB1 := hid hb1
               clear hb1
               rw [H4.out.1, H4.out.2]
               go_wp2_with (first | (go_at_call 63; refine (c_impl_within _ _ _ _).mono ?_; rintro e w' ⟨rfl, rfl⟩))
               refine (c_impl_fourDigits s p7 _ hs (by omega) (HVT.out.1.below HB1.out) (HVT.out.2.below HB1.out)).mono ?_
               rintro e w2 ⟨rfl, hb2⟩
               have HB2 := hid (HB1.out.trans (hb2.mono HB1.out.size))
               clear hb2
               rw [H7.out.1, H7.out.2]
               go_wp2_with fail
               go_ret2
               exact ⟨by rw [Hf.out]; rfl, HB2.out⟩
              ·have hm0 : 0 <= m := by omega
               have H7 := hid (four_yes HM.out.symm hm0)
               have hfit := fourB_fits (show 0 <= fourB s p7 by rw [<- HM.out]; exact hm0)
               have g5 : p5 < s.size := by have := HP7.out; have := HP5.out; omega
               have g6 : p6 < s.size := by have := HP7.out; have := HP6.out; omega
               have g7 : ¬ s.size < p7 := by omega
               have gi5 : (p5 : Int) < s.size := by omega
               have gi6 : (p6 : Int) < s.size := by omega
               obtain ⟨b5, hb5⟩ : ∃ b : Nat, b = (s.get! p5).toNat := ⟨_, rfl⟩
               have hx5 : (s[p5]'g5).toNat = b5 := by rw [hb5]; exact get_at s p5 g5
               obtain ⟨b6, hb6⟩ : ∃ b : Nat, b = (s.get! p6).toNat := ⟨_, rfl⟩
               have hx6 : (s[p6]'g6).toNat = b6 := by rw [hb6]; exact get_at s p6 g6
               have h5b : (b5 : Int) < 256 := by have := (s.get! p5).toNat_lt; omega
               have h6b : (b6 : Int) < 256 := by have := (s.get! p6).toNat_lt; omega
               have HB5 := hid (show byteI s p5 = b5 by unfold byteI; rw [hb5])
               have HB6 := hid (show byteI s p6 = b6 by unfold byteI; rw [hb6])
               have HD := hid g7
               clear hb5 hb6 g7 hfit m0
               by_cases e5 : (b5 : Int) = 92
               ·obtain rfl : b5 = 92 := by omega
                clear e5
                by_cases e6 : (b6 : Int) = 117
                ·obtain rfl : b6 = 117 := by omega
                 clear e6
                 have HW := hid (show escB s i = (if inB m 56320 57343 = true then (65536 + 1024 * (n - 55296) + m - 56320, (p11 : Int)) else (0, -1)) by rw [HV.out, <- HM.out]; exact if_neg (by rintro (h | h | h); exact HD.out h; exact h HB5.out; exact h HB6.out))
                 rcases hG : inB m 56320 57343 with _ | _
                 ·have Hf := hid (show escB s i = (0, -1) by rw [HW.out]; exact if_neg (by rw [hG]; decide))
                  go_enter Tryz.func237, Tryz.ntmps237
                  go_wp2_with fail
                  refine (c_IndexEsc 117 (by omega) _).mono ?_
                  rintro e w9 ⟨rfl, rfl⟩
                  rw [show escI 117 = -1 from rfl]
                  go_wp2_with fail
                  refine (c_impl_fourDigits s p1 _ hs (by omega) HVT.out.1 HVT.out.2).mono ?_
                  rintro e w1 ⟨rfl, hb1⟩
                  have HB1 := hid hb1
                  clear hb1
                  rw [H4.out.1, H4.out.2]
                  go_wp2_with (first | (go_at_call 63; refine (c_impl_within _ _ _ _).mono ?_; rintro e w' ⟨rfl, rfl⟩))
                  refine (c_impl_fourDigits s p7 _ hs (by omega) (HVT.out.1.below HB1.out) (HVT.out.2.below HB1.out)).mono ?_
                  rintro e w2 ⟨rfl, hb2⟩
                  have HB2 := hid (HB1.out.trans (hb2.mono HB1.out.size))
                  clear hb2
                  rw [H7.out.1, H7.out.2]
                  go_wp2_with (first | (go_at_call 63; refine (c_impl_within _ _ _ _).mono ?_; rintro e w' ⟨rfl, rfl⟩))
                  go_ret2
                  exact ⟨by rw [Hf.out]; rfl, HB2.out⟩
                 ·have hmi : 56320 <= m /\ m <= 57343 := by unfold inB at hG; simpa using hG
                  have Hf := hid (show escB s i = (65536 + 1024 * (n - 55296) + (m - 56320), (p11 : Int)) by rw [HW.out, if_pos hG]; congr 1; omega)
                  obtain ⟨hmi1, hmi2⟩ := hmi
                  go_enter Tryz.func237, Tryz.ntmps237
                  go_wp2_with fail
                  refine (c_IndexEsc 117 (by omega) _).mono ?_
                  rintro e w9 ⟨rfl, rfl⟩
                  rw [show escI 117 = -1 from rfl]
                  go_wp2_with fail
                  refine (c_impl_fourDigits s p1 _ hs (by omega) HVT.out.1 HVT.out.2).mono ?_
                  rintro e w1 ⟨rfl, hb1⟩
                  have HB1 := hid hb1
                  clear hb1
                  rw [H4.out.1, H4.out.2]
                  go_wp2_with (first | (go_at_call 63; refine (c_impl_within _ _ _ _).mono ?_; rintro e w' ⟨rfl, rfl⟩))
                  refine (c_impl_fourDigits s p7 _ hs (by omega) (HVT.out.1.below HB1.out) (HVT.out.2.below HB1.out)).mono ?_
                  rintro e w2 ⟨rfl, hb2⟩
                  have HB2 := hid (HB1.out.trans (hb2.mono HB1.out.size))
                  clear hb2
                  rw [H7.out.1, H7.out.2]
                  go_wp2_with (first | (go_at_call 63; refine (c_impl_within _ _ _ _).mono ?_; rintro e w' ⟨rfl, rfl⟩))
                  go_ret2
                  exact ⟨by rw [Hf.out]; rfl, HB2.out⟩
                ·have f6 : ((b6 : Int) == 117) = false := beq_eq_false_iff_ne.2 e6
                 have n6 : ((b6 : Int) != 117) = true := bne_iff_ne.2 e6
                 have Hf := hid (show escB s i = (0, -1) by rw [HV.out]; exact if_pos (.inr (.inr (by rw [HB6.out]; exact e6))))
                 clear e6
                 go_enter Tryz.func237, Tryz.ntmps237
                 go_wp2_with fail
                 refine (c_IndexEsc 117 (by omega) _).mono ?_
                 rintro e w9 ⟨rfl, rfl⟩
                 rw [show escI 117 = -1 from rfl]
                 go_wp2_with fail
                 refine (c_impl_fourDigits s p1 _ hs (by omega) HVT.out.1 HVT.out.2).mono ?_
                 rintro e w1 ⟨rfl, hb1⟩
                 have HB1 := hid hb1
                 clear hb1
                 rw [H4.out.1, H4.out.2]
                 go_wp2_with (first | (go_at_call 63; refine (c_impl_within _ _ _ _).mono ?_; rintro e w' ⟨rfl, rfl⟩))
                 refine (c_impl_fourDigits s p7 _ hs (by omega) (HVT.out.1.below HB1.out) (HVT.out.2.below HB1.out)).mono ?_
                 rintro e w2 ⟨rfl, hb2⟩
                 have HB2 := hid (HB1.out.trans (hb2.mono HB1.out.size))
                 clear hb2
                 rw [H7.out.1, H7.out.2]
                 go_wp2_with fail
                 go_ret2
                 exact ⟨by rw [Hf.out]; rfl, HB2.out⟩
               ·have f5 : ((b5 : Int) == 92) = false := beq_eq_false_iff_ne.2 e5
                have n5 : ((b5 : Int) != 92) = true := bne_iff_ne.2 e5
                have Hf := hid (show escB s i = (0, -1) by rw [HV.out]; exact if_pos (.inr (.inl (by rw [HB5.out]; exact e5))))
                clear e5
                go_enter Tryz.func237, Tryz.ntmps237
                go_wp2_with fail
                refine (c_IndexEsc 117 (by omega) _).mono ?_
                rintro e w9 ⟨rfl, rfl⟩
                rw [show escI 117 = -1 from rfl]
                go_wp2_with fail
                refine (c_impl_fourDigits s p1 _ hs (by omega) HVT.out.1 HVT.out.2).mono ?_
                rintro e w1 ⟨rfl, hb1⟩
                have HB1 := hid hb1
                clear hb1
                rw [H4.out.1, H4.out.2]
                go_wp2_with (first | (go_at_call 63; refine (c_impl_within _ _ _ _).mono ?_; rintro e w' ⟨rfl, rfl⟩))
                refine (c_impl_fourDigits s p7 _ hs (by omega) (HVT.out.1.below HB1.out) (HVT.out.2.below HB1.out)).mono ?_
                rintro e w2 ⟨rfl, hb2⟩
                have HB2 := hid (HB1.out.trans (hb2.mono HB1.out.size))
                clear hb2
                rw [H7.out.1, H7.out.2]
                go_wp2_with fail
                go_ret2
                exact ⟨by rw [Hf.out]; rfl, HB2.out⟩
            ·have Hf := hid (show escB s i = (0, -1) by rw [HU.out, <- HP1.out, <- HN.out]; exact if_pos (.inr hB))
             clear n0
             go_enter Tryz.func237, Tryz.ntmps237
             go_wp2_with fail
             refine (c_IndexEsc 117 (by omega) _).mono ?_
             rintro e w9 ⟨rfl, rfl⟩
             rw [show escI 117 = -1 from rfl]
             go_wp2_with fail
             refine (c_impl_fourDigits s p1 _ hs (by omega) HVT.out.1 HVT.out.2).mono ?_
             rintro e w1 ⟨rfl, hb1⟩
             have HB1 := hid hb1
             clear hb1
             rw [H4.out.1, H4.out.2]
             go_wp2_with (first | (go_at_call 63; refine (c_impl_within _ _ _ _).mono ?_; rintro e w' ⟨rfl, rfl⟩))
             go_ret2
             exact ⟨by rw [Hf.out]; rfl, HB1.out⟩
          ·have Hf := hid (show escB s i = (0, -1) by rw [HE0.out, if_neg (by omega), if_neg (by omega), if_neg (by omega), if_neg (by omega), if_neg (by omega), if_neg (by omega), if_neg e117])
           have f117 : ((b : Int) == 117) = false := beq_eq_false_iff_ne.2 e117
           have n117 : ((b : Int) != 117) = true := bne_iff_ne.2 e117
           clear e117 e34 e92 e47 e98 e102 e110 e114 e116
           go_enter Tryz.func237, Tryz.ntmps237
           go_wp2_with fail
           refine (c_IndexEsc b (by omega) _).mono ?_
           rintro e w9 ⟨rfl, rfl⟩
           rw [show escI b = -1 from HIX.out]
           go_wp2_with fail
           refine (c_impl_fourDigits s p1 _ hs (by omega) HVT.out.1 HVT.out.2).mono ?_
           rintro e w1 ⟨rfl, hb1⟩
           have HB1 := hid hb1
           clear hb1
           go_wp2_with fail
           go_ret2
           exact ⟨by rw [Hf.out]; rfl, HB1.out⟩
 ·have Hf := hid (show escB s i = (0, -1) by unfold escB; rw [if_neg (by omega)])
  go_enter Tryz.func237, Tryz.ntmps237
  go_wp2_with fail
  go_ret2
  exact ⟨by rw [Hf.out]; rfl, Below.refl _ _⟩
theorem escB_next (s : ByteArray) (i : Nat) : ((escB s i).2 < 0 ∨ ((i : Int) < (escB s i).2 /\ (escB s i).2 <= s.size)) /\ 0 <= (escB s i).1 /\ (escB s i).1 <= 1114111 := by
 have f1 := @fourB_fits s (i + 1)
 have f7 := @fourB_fits s (i + 7)
 have r1 := fourB_range s (i + 1)
 have r7 := fourB_range s (i + 7)
 have b0 := byteI_range s i
 obtain ⟨x, hx⟩ : ∃ x, x = escB s i := ⟨_, rfl⟩
 rw [<- hx]
 unfold escB at hx
 by_cases c0 : i < s.size
 case neg => rw [if_neg c0] at hx; subst hx; simp only; omega
 rw [if_pos c0] at hx
 by_cases c1 : byteI s i = 34 ∨ byteI s i = 92 ∨ byteI s i = 47
 case pos => rw [if_pos c1] at hx; subst hx; simp only; omega
 rw [if_neg c1] at hx
 by_cases c2 : byteI s i = 98
 case pos => rw [if_pos c2] at hx; subst hx; simp only; omega
 rw [if_neg c2] at hx
 by_cases c3 : byteI s i = 102
 case pos => rw [if_pos c3] at hx; subst hx; simp only; omega
 rw [if_neg c3] at hx
 by_cases c4 : byteI s i = 110
 case pos => rw [if_pos c4] at hx; subst hx; simp only; omega
 rw [if_neg c4] at hx
 by_cases c5 : byteI s i = 114
 case pos => rw [if_pos c5] at hx; subst hx; simp only; omega
 rw [if_neg c5] at hx
 by_cases c6 : byteI s i = 116
 case pos => rw [if_pos c6] at hx; subst hx; simp only; omega
 rw [if_neg c6] at hx
 by_cases c7 : byteI s i = 117
 case neg => rw [if_neg c7] at hx; subst hx; simp only; omega
 rw [if_pos c7] at hx
 by_cases d1 : fourB s (i + 1) < 0 ∨ inB (fourB s (i + 1)) 56320 57343 = true
 case pos => rw [if_pos d1] at hx; subst hx; simp only; omega
 rw [if_neg d1] at hx
 have d0 := (not_or.1 d1).1
 have g1 := f1 (Int.not_lt.1 d0)
 by_cases d2 : inB (fourB s (i + 1)) 55296 56319 = false
 case pos => rw [if_pos d2] at hx; subst hx; simp only; omega
 rw [if_neg d2] at hx
 have e2 : 55296 <= fourB s (i + 1) /\ fourB s (i + 1) <= 56319 := by unfold inB at d2; simpa using d2
 by_cases d3 : s.size < i + 7 ∨ byteI s (i + 5) ≠ 92 ∨ byteI s (i + 6) ≠ 117
 case pos => rw [if_pos d3] at hx; subst hx; simp only; omega
 rw [if_neg d3] at hx
 by_cases d4 : inB (fourB s (i + 7)) 56320 57343 = true
 case neg => rw [if_neg d4] at hx; subst hx; simp only; omega
 rw [if_pos d4] at hx
 have e4 : 56320 <= fourB s (i + 7) /\ fourB s (i + 7) <= 57343 := by unfold inB at d4; simpa using d4
 have g7 := f7 (by omega)
 subst hx
 simp only
 omega
theorem runeB_next (s : ByteArray) (i : Nat) : ((runeB s i).2 < 0 ∨ ((i : Int) < (runeB s i).2 /\ (runeB s i).2 <= s.size)) /\ 0 <= (runeB s i).1 /\ (runeB s i).1 <= 1114111 := by
 unfold runeB
 split
 ·rename_i h
  have := decode_fits s i h
  split
  ·simp only; omega
  ·simp only; omega
 ·simp only; omega
def quotN (s : ByteArray) (j : Nat) : Int × Int :=
 if byteI s j = 92 then escB s (j + 1) else if (runeB s j).1 < 32 then (0, -1) else runeB s j
theorem quotN_next (s : ByteArray) (j : Nat) : ((quotN s j).2 < 0 ∨ ((j : Int) < (quotN s j).2 /\ (quotN s j).2 <= s.size)) /\ 0 <= (quotN s j).1 /\ (quotN s j).1 <= 1114111 := by
 have h1 := escB_next s (j + 1)
 have h2 := runeB_next s j
 unfold quotN
 split
 ·omega
 ·split
  ·simp only; omega
  ·exact h2
def quotR (s : ByteArray) : Nat -> Nat -> List UInt8 -> ByteArray × Int
 | 0, _, _ => (⟨#[]⟩, -1)
 | k + 1, j, acc => if j < s.size then (if byteI s j = 34 then (⟨acc.toArray⟩, (j : Int) + 1) else if (quotN s j).2 < 0 then (⟨#[]⟩, -1) else quotR s k (quotN s j).2.toNat (acc ++ (textB (quotN s j).1).data.toList)) else (⟨#[]⟩, -1)
theorem quotR_fuel (s : ByteArray) : ∀ (k l j : Nat) (acc : List UInt8), s.size - j <= k -> s.size - j <= l -> quotR s k j acc = quotR s l j acc
 | 0, 0, _, _, _, _ => rfl
 | 0, l + 1, j, acc, h, _ => by unfold quotR; rw [if_neg (by omega)]
 | k + 1, 0, j, acc, _, h => by unfold quotR; rw [if_neg (by omega)]
 | k + 1, l + 1, j, acc, h1, h2 => by
  unfold quotR
  split
  ·split
   ·rfl
   ·split
    ·rfl
    ·have := (quotN_next s j).1
     exact quotR_fuel s k l _ _ (by omega) (by omega)
  ·rfl
def quotG (s : ByteArray) (j : Nat) (acc : List UInt8) : ByteArray × Int := quotR s (s.size - j) j acc
theorem quotG_end {s : ByteArray} {j : Nat} {acc : List UInt8} (h : ¬ j < s.size) : quotG s j acc = (⟨#[]⟩, -1) := by
 unfold quotG
 rw [show s.size - j = 0 by omega]
 rfl
theorem quotG_at {s : ByteArray} {j : Nat} {acc : List UInt8} (h : j < s.size) : quotG s j acc = if byteI s j = 34 then (⟨acc.toArray⟩, (j : Int) + 1) else if (quotN s j).2 < 0 then (⟨#[]⟩, -1) else quotG s (quotN s j).2.toNat (acc ++ (textB (quotN s j).1).data.toList) := by
 unfold quotG
 obtain ⟨k, hk⟩ : ∃ k, s.size - j = k + 1 := ⟨s.size - j - 1, by omega⟩
 rw [hk, quotR, if_pos h]
 split
 ·rfl
 ·split
  ·rfl
  ·have := (quotN_next s j).1
   exact quotR_fuel s _ _ _ _ (by omega) (by omega)
def quotB (s : ByteArray) (i : Nat) : ByteArray × Int := if i < s.size then (if byteI s i = 34 then quotG s (i + 1) [] else (⟨#[]⟩, -1)) else (⟨#[]⟩, -1)
theorem textB_size (n : Int) : (textB n).size <= 4 := by
 rcases Int.lt_or_le n 0 with h | h
 ·have : textB n = ⟨#[]⟩ := by
   unfold textB runeOkB
   rw [decide_eq_false (by omega)]
   rfl
  rw [this]
  decide
 ·obtain ⟨m, rfl⟩ : ∃ m : Nat, n = m := ⟨n.toNat, by omega⟩
  have h1 := congrArg List.length (textB_list m)
  rw [List.length_map, Array.length_toList] at h1
  have h2 : (encN4 m).length <= 4 := by
   unfold encN4
   repeat' split
   all_goals simp
  rw [show (textB m).size = (textB m).data.size from rfl]
  omega
theorem own_string {w : World} {base n c : Nat} {A : Option Addr} {M : List UInt8} (hn : n = M.length)
  (h : w.ownsRow base 5 1 (.slice A n c) n (Lib.strCells ⟨M.toArray⟩)) :
  (convert 28 9 (.slice A n c)).run Tryz.prog w = .ok (.string ⟨M.toArray⟩) w := by
 subst hn
 rcases h.2 with ⟨h1, h2⟩ | ⟨g, cap, cur, h1, _⟩
 ·obtain rfl : M = [] := List.eq_nil_of_length_eq_zero h2
  cases h1
  exact run_convert_nil_bytes w 28 9 5 0 Tryz.underlying28 Tryz.underlying5 Tryz.underlying9
 ·have e1 : A = some ⟨g, 0, none⟩ := by cases h1; rfl
  subst e1
  exact run_convert_bytes_back w 28 9 5 ⟨g, 0, none⟩ c M Tryz.underlying28 Tryz.underlying5 Tryz.underlying9
   (fun j hj => h.cells rfl j _ (by simp [Lib.strCells, hj]))
theorem strCells_list (l : List UInt8) (t : ByteArray) : Lib.strCells ⟨l.toArray⟩ ++ Lib.strCells t = Lib.strCells ⟨(l ++ t.data.toList).toArray⟩ := by
 simp [Lib.strCells]
open Go.RowKit
structure SignD where
 kind : Int
 text : ByteArray
 num : Int
 at' : Int
def kindAt (L : List SignD) (p : Nat) : Int := match L[p]? with | some x => x.kind | none => 0
def placeAt (L : List SignD) (E : Int) (p : Nat) : Int := match L[p]? with | some x => x.at' | none => E
def badF (L : List SignD) (E : Int) (code : Int) (p : Nat) : Flt := ⟨code, placeAt L E p, ⟨#[]⟩⟩
def tNull : TreeD := ⟨1, false, 0, ⟨#[]⟩, [], []⟩
def tFlag (b : Bool) : TreeD := ⟨2, b, 0, ⟨#[]⟩, [], []⟩
def tInt (n : Int) : TreeD := ⟨3, false, n, ⟨#[]⟩, [], []⟩
def tText (s : ByteArray) : TreeD := ⟨4, false, 0, s, [], []⟩
def tList (l : List TreeD) : TreeD := ⟨5, false, 0, ⟨#[]⟩, [], l⟩
def tMap (ks : List ByteArray) (l : List TreeD) : TreeD := ⟨6, false, 0, ⟨#[]⟩, ks, l⟩
def posK (ks : List ByteArray) (key : ByteArray) : Nat := (ks.takeWhile fun k => lessS k key).length
def insL {D : Type} (l : List D) (i : Nat) (x : D) : List D := l.take i ++ x :: l.drop i
inductive Job where
 | value (deep : Nat)
 | list (deep : Nat) (acc : List TreeD)
 | pairs (deep : Nat) (ks : List ByteArray) (acc : List TreeD)
inductive Res where
 | bad (f : Flt)
 | good (t : TreeD) (p m : Nat)
def readJ (L : List SignD) (E : Int) : Nat -> Job -> Nat -> Nat -> Res
 | 0, _, _, _ => .bad flt0
 | n + 1, .value d, p, m =>
  if ¬ (kindAt L p = 1 ∨ kindAt L p = 3 ∨ 7 <= kindAt L p) then .bad (badF L E 4 p)
  else if 8 < d then .bad (badF L E 6 p)
  else if 300 <= m then .bad (badF L E 7 p)
  else match L[p]? with
   | none => .bad flt0
   | some x =>
    if x.kind = 7 then (if 400 < x.text.size then .bad (badF L E 8 p) else .good (tText x.text) (p + 1) (m + 1))
    else if x.kind = 8 then .good (tInt x.num) (p + 1) (m + 1)
    else if x.kind = 11 then .good tNull (p + 1) (m + 1)
    else if x.kind = 3 then (if kindAt L (p + 1) = 4 then .good (tList []) (p + 2) (m + 1) else readJ L E n (.list d []) (p + 1) (m + 1))
    else if x.kind = 1 then (if kindAt L (p + 1) = 2 then .good (tMap [] []) (p + 2) (m + 1) else readJ L E n (.pairs d [] []) (p + 1) (m + 1))
    else .good (tFlag (x.kind == 9)) (p + 1) (m + 1)
 | n + 1, .list d acc, p, m => match readJ L E n (.value (d + 1)) p m with
  | .bad f => .bad f
  | .good t q m' =>
   if kindAt L q = 4 then .good (tList (acc ++ [t])) (q + 1) m'
   else if kindAt L q = 6 then readJ L E n (.list d (acc ++ [t])) (q + 1) m'
   else .bad (badF L E 4 q)
 | n + 1, .pairs d ks acc, p, m => match L[p]? with
  | none => .bad (badF L E 4 p)
  | some x =>
   if x.kind ≠ 7 then .bad (badF L E 4 p)
   else if 400 < x.text.size then .bad (badF L E 8 p)
   else if ks.contains x.text then .bad (badF L E 5 p)
   else if kindAt L (p + 1) ≠ 5 then .bad (badF L E 4 (p + 1))
   else match readJ L E n (.value (d + 1)) (p + 2) m with
    | .bad f => .bad f
    | .good t q m' =>
     if kindAt L q = 2 then .good (tMap (insL ks (posK ks x.text) x.text) (insL acc (posK ks x.text) t)) (q + 1) m'
     else if kindAt L q = 6 then readJ L E n (.pairs d (insL ks (posK ks x.text) x.text) (insL acc (posK ks x.text) t)) (q + 1) m'
     else .bad (badF L E 4 q)
def readL (L : List SignD) (E : Int) : Flt × TreeD := match readJ L E (2 * L.length + 4) (.value 1) 0 0 with
 | .bad f => (f, ⟨0, false, 0, ⟨#[]⟩, [], []⟩)
 | .good t p _ => if p < L.length then (badF L E 4 p, ⟨0, false, 0, ⟨#[]⟩, [], []⟩) else (flt0, t)
def decS (n : Int) : ByteArray := ⟨(Lib.itoa n).toArray⟩
theorem dec_len : ∀ (k u : Nat), u < 10 ^ (k + 1) -> (Lib.decDigits u).length <= k + 1
 | 0, u, h => by
  rw [Lib.decDigits, dif_pos (by simpa using h)]
  simp
 | k + 1, u, h => by
  rw [Lib.decDigits]
  by_cases h10 : u < 10
  ·rw [dif_pos h10]; simp
  ·rw [dif_neg h10, List.length_append]
   have h2 : u / 10 < 10 ^ (k + 1) := by
    rw [Nat.div_lt_iff_lt_mul (by decide)]
    rw [Nat.pow_succ] at h
    exact h
   have := dec_len k (u / 10) h2
   simp
   omega
theorem decS_size (n : Int) (hn : -9223372036854775808 <= n /\ n <= 9223372036854775807) : (decS n).size <= 20 := by
 show (Lib.itoa n).toArray.size <= 20
 rw [List.size_toArray]
 unfold Lib.itoa
 split
 ·have := dec_len 18 n.natAbs (by omega)
  rw [List.length_cons]
  omega
 ·have := dec_len 18 n.toNat (by omega)
  omega
theorem app_assoc (a b c : ByteArray) : a ++ b ++ c = a ++ (b ++ c) := ByteArray.append_assoc
theorem mkL_dec (u : Nat) (hu : 0 < u) (out : ByteArray) : mkL u out = ⟨(Lib.decDigits u).toArray⟩ ++ out := by
 induction u using Nat.strongRecOn generalizing out with
 | ind u ih =>
  rw [mkL_pos u out hu, Lib.decDigits]
  by_cases h : u < 10
  ·rw [dif_pos h]
   have h0 : u / 10 = 0 := by omega
   rw [h0, mkL_zero]
   unfold digit
   rw [Nat.mod_eq_of_lt h]
  ·rw [dif_neg h, ih (u / 10) (by omega) (by omega)]
   rw [<- app_assoc]
   congr 1
theorem decS_zero : decS 0 = ⟨#[48]⟩ := by
 unfold decS Lib.itoa
 rw [if_neg (by decide)]
 unfold Lib.decDigits
 rfl
theorem decS_pos (u : Nat) (hu : 0 < u) : decS u = mkL u ⟨#[]⟩ := by
 rw [mkL_dec u hu]
 unfold decS Lib.itoa
 rw [if_neg (by omega)]
 apply ByteArray.ext
 simp
theorem decS_neg (u : Nat) (hu : 0 < u) : decS (-(u : Int)) = ⟨#[45]⟩ ++ mkL u ⟨#[]⟩ := by
 rw [mkL_dec u hu]
 unfold decS Lib.itoa
 rw [if_pos (by omega)]
 apply ByteArray.ext
 simp
theorem c_spec_l01Figure (r : Nat) (w : World) (hr : r < 10) :
  Calls Tryz.prog 218 #[.int .i64 (r : Nat)] w fun e w' => e = .returned (.int .u8 (48 + (r : Int))) /\ w = w' := by
 have h1 : (r : Int) < 10 := by omega
 have h0 : (0 : Int) <= r := by omega
 go_enter Tryz.func218, Tryz.ntmps218
 go_wp2_with fail
 go_ret
 exact ⟨by first | rfl | (congr 2; omega), rfl⟩
theorem tmod_neg10 (j : Nat) : (-(j : Int)).tmod 10 = -((j % 10 : Nat) : Int) := by
 rw [Int.neg_tmod, Int.tmod_eq_emod_of_nonneg (by omega)]
 omega
theorem tdiv_neg10 (j : Nat) : (-(j : Int)).tdiv 10 = -((j / 10 : Nat) : Int) := by
 rw [Int.neg_tdiv, Int.tdiv_eq_ediv_of_nonneg (by omega)]
 omega
theorem figure_text (w : World) (j r : Nat) (hr : r = j % 10) : (convert 28 9 (.slice (some ⟨w.heap.size, 0, none⟩) 1 1)).run Tryz.prog (w.alloc (.cells #[.int .u8 (48 + (r : Int))] 5)) = .ok (.string (digit j)) (w.alloc (.cells #[.int .u8 (48 + (r : Int))] 5)) := by
 refine run_convert_bytes_back (P := Tryz.prog) _ 28 9 5 ⟨w.heap.size, 0, none⟩ 1 [UInt8.ofNat (48 + j % 10)] Tryz.underlying28 Tryz.underlying5 Tryz.underlying9 (fun i hi => ?_)
 obtain rfl : i = 0 := by simpa using hi
 have e : ((UInt8.ofNat (48 + j % 10)).toNat : Int) = 48 + (r : Int) := by
  rw [UInt8.toNat_ofNat']; omega
 have e2 : (⟨w.heap.size, 0, none⟩ : Addr).add 0 = ⟨w.heap.size, 0, none⟩ := rfl
 rw [e2, World.cell?_alloc_mark]
 simp only [List.getElem_cons_zero, e]
 rfl
theorem c_spec_Decimal (n : Int) (w : World) (hn : -9223372036854775808 <= n /\ n <= 9223372036854775807) :
  Calls Tryz.prog 160 #[.int .i64 n] w fun e w' => e = .returned (.string (decS n)) /\ Below w.heap.size w w' := by
 by_cases h0 : n = 0
 ·subst h0
  have HZ := Lib.hid decS_zero
  go_enter Tryz.func160, Tryz.ntmps160
  go_wp2_with fail
  go_ret
  exact ⟨by rw [HZ.out]; rfl, Below.refl _ _⟩
 ·by_cases hneg : n < 0
  ·obtain ⟨u, rfl⟩ : ∃ u : Nat, n = -(u : Int) := ⟨n.natAbs, by omega⟩
   have hu : 0 < u := by omega
   have HD := Lib.hid (decS_neg u hu)
   obtain ⟨hn1, hn2⟩ := hn
   have h0b : (-(u : Int) == 0) = false := beq_eq_false_iff_ne.2 h0
   have hnb : decide (-(u : Int) < 0) = true := decide_eq_true hneg
   clear h0
   go_enter Tryz.func160, Tryz.ntmps160
   go_wp2_with fail
   go_loopw [0, 4] (fun s0 s4 wr => ∃ (j : Nat) (out : ByteArray), s0 = .int .i64 (-(j : Int)) /\ s4 = .string out /\ mkL j out = mkL u ⟨#[]⟩ /\ out.size + j <= u /\ (out.size = 0 ∨ out.size + j <= u / 10 + 1) /\ Below w.heap.size w wr) (fun s0 _ _ => (intOf s0).natAbs)
   case atStart => exact ⟨u, ⟨#[]⟩, rfl, rfl, rfl, by show 0 + _ <= _; omega, .inl rfl, Below.refl _ _⟩
   case round =>
    obtain ⟨j, out, rfl, rfl, hm, hs, hs2, hbr⟩ := hrel
    have Hj := Lib.hid hm
    clear hm
    by_cases hj : 0 < j
    ·have hj0 : (-(j : Int) != 0) = true := bne_iff_ne.2 (by omega)
     have hj1 : -9223372036854775808 <= -(j : Int) := by omega
     obtain ⟨r, hr⟩ : ∃ r, r = j % 10 := ⟨_, rfl⟩
     have h1 := tmod_neg10 j
     have h2 := tdiv_neg10 j
     rw [<- hr] at h1
     have hr9 : r < 10 := by omega
     have hd1 : (digit j).size = 1 := rfl
     have Hn := Lib.hid (show mkL (j / 10) (digit j ++ out) = mkL u ⟨#[]⟩ by rw [<- Hj.out, mkL_pos j out hj])
     have Hz := Lib.hid (show (digit j ++ out).size + j / 10 <= u /\ ((digit j ++ out).size = 0 ∨ (digit j ++ out).size + j / 10 <= u / 10 + 1) by rw [ByteArray.size_append, hd1]; omega)
     have hcv := figure_text wr j r hr
     have hso : out.size <= 9223372036854775806 := by clear h1 h2; omega
     clear hr hs2
     by_cases hr0 : r = 0
     ·subst hr0
      have hcv0 := hcv
      rw [show (48 + ((0 : Nat) : Int)) = 48 from rfl] at hcv0
      clear hcv
      go_wp2_with fail
      refine (c_spec_l01Figure 0 _ hr9).mono ?_
      rintro e w9 ⟨rfl, rfl⟩
      go_wp2_with fail
      go_roundw
      case rel => exact ⟨j / 10, digit j ++ out, by go_num, rfl, Hn.out, Hz.out.1, Hz.out.2, bel⟩
      case measure => simp [intOf]; omega
     ·have hrn : -(r : Int) < 0 := by omega
      go_wp2_with fail
      refine (c_spec_l01Figure r _ hr9).mono ?_
      rintro e w9 ⟨rfl, rfl⟩
      go_wp2_with fail
      go_roundw
      case rel => exact ⟨j / 10, digit j ++ out, by go_num, rfl, Hn.out, Hz.out.1, Hz.out.2, bel⟩
      case measure => simp [intOf]; omega
    ·obtain rfl : j = 0 := by omega
     have HO := Lib.hid (show decS (-(u : Int)) = ⟨#[45]⟩ ++ out by rw [HD.out, <- Hj.out, mkL_zero])
     have hso : out.size <= 9223372036854775806 := by omega
     go_wp2_with fail
     go_ret
     exact ⟨by rw [HO.out]; rfl, bel⟩
  ·obtain ⟨u, rfl⟩ : ∃ u : Nat, n = (u : Int) := ⟨n.toNat, by omega⟩
   have hu : 0 < u := by omega
   have HD := Lib.hid (decS_pos u hu)
   obtain ⟨hn1, hn2⟩ := hn
   have h0b : ((u : Int) == 0) = false := beq_eq_false_iff_ne.2 h0
   have hnb : decide ((u : Int) < 0) = false := decide_eq_false hneg
   clear h0
   go_enter Tryz.func160, Tryz.ntmps160
   go_wp2_with fail
   go_loopw [0, 4] (fun s0 s4 wr => ∃ (j : Nat) (out : ByteArray), s0 = .int .i64 (j : Int) /\ s4 = .string out /\ mkL j out = mkL u ⟨#[]⟩ /\ out.size + j <= u /\ (out.size = 0 ∨ out.size + j <= u / 10 + 1) /\ Below w.heap.size w wr) (fun s0 _ _ => (intOf s0).natAbs)
   case atStart => exact ⟨u, ⟨#[]⟩, rfl, rfl, rfl, by show 0 + _ <= _; omega, .inl rfl, Below.refl _ _⟩
   case round =>
    obtain ⟨j, out, rfl, rfl, hm, hs, hs2, hbr⟩ := hrel
    have Hj := Lib.hid hm
    clear hm
    by_cases hj : 0 < j
    ·have hj0 : ((j : Int) != 0) = true := bne_iff_ne.2 (by omega)
     have hj2 : (0 : Int) <= j := by omega
     have hj3 : (j : Int) <= 9223372036854775807 := by omega
     have hr9 : j % 10 < 10 := by omega
     have hd1 : (digit j).size = 1 := rfl
     have Hn := Lib.hid (show mkL (j / 10) (digit j ++ out) = mkL u ⟨#[]⟩ by rw [<- Hj.out, mkL_pos j out hj])
     have Hz := Lib.hid (show (digit j ++ out).size + j / 10 <= u /\ ((digit j ++ out).size = 0 ∨ (digit j ++ out).size + j / 10 <= u / 10 + 1) by rw [ByteArray.size_append, hd1]; omega)
     have hcv := figure_text wr j (j % 10) rfl
     rw [show ((j % 10 : Nat) : Int) = (j : Int) % 10 from by omega] at hcv
     have hso : out.size <= 9223372036854775806 := by omega
     have hge : ¬ (j : Int) % 10 < 0 := by omega
     clear hs2
     go_wp2_with fail
     refine (c_spec_l01Figure (j % 10) _ hr9).mono ?_
     rintro e w9 ⟨rfl, rfl⟩
     go_wp2_with fail
     go_roundw
     case rel => exact ⟨j / 10, digit j ++ out, by go_num, rfl, Hn.out, Hz.out.1, Hz.out.2, bel⟩
     case measure => simp [intOf]; omega
    ·obtain rfl : j = 0 := by omega
     have HO := Lib.hid (show decS (u : Int) = out by rw [HD.out, <- Hj.out, mkL_zero])
     go_wp2_with fail
     go_ret
     exact ⟨by rw [HO.out]; rfl, bel⟩
def figB (c : UInt8) : Prop := 48 <= c.toNat /\ c.toNat <= 57
def valL (acc : Nat) (l : List UInt8) : Nat := l.foldl (fun a c => a * 10 + (c.toNat - 48)) acc
theorem valL_nil (acc : Nat) : valL acc [] = acc := by unfold valL; rw [List.foldl_nil]
theorem valL_cons (acc : Nat) (c : UInt8) (r : List UInt8) : valL acc (c :: r) = valL (acc * 10 + (c.toNat - 48)) r := by unfold valL; rw [List.foldl_cons]
theorem valL_ge (l : List UInt8) (acc : Nat) : acc <= valL acc l := by
 induction l generalizing acc with
 | nil => rw [valL_nil]; exact Nat.le_refl _
 | cons c r ih =>
  have := ih (acc * 10 + (c.toNat - 48))
  rw [valL_cons]
  omega
theorem valL_app (l m : List UInt8) (acc : Nat) : valL acc (l ++ m) = valL (valL acc l) m := by unfold valL; rw [List.foldl_append]
theorem parse_figs (l : List UInt8) (acc : Nat) (hd : ∀ c ∈ l, figB c) (h : acc < 18446744073709551616) : parseUint10 acc l = if valL acc l < 18446744073709551616 then .ok (valL acc l) else .range := by
 induction l generalizing acc with
 | nil => rw [valL_nil, if_pos h, parseUint10]
 | cons c r ih =>
  have hc := hd c (by simp)
  unfold figB at hc
  have hge := valL_ge r (acc * 10 + (c.toNat - 48))
  rw [valL_cons, parseUint10, if_pos hc]
  by_cases h1 : 1844674407370955162 <= acc
  ·rw [if_pos h1, if_neg (by omega)]
  ·rw [if_neg h1]
   by_cases h2 : 18446744073709551616 <= acc * 10 + (c.toNat - 48)
   ·rw [if_pos h2, if_neg (by omega)]
   ·rw [if_neg h2]
    exact ih _ (fun x hx => hd x (by simp [hx])) (by omega)
theorem ofNat_fig {d : Nat} (h : d < 10) : (UInt8.ofNat (48 + d)).toNat = 48 + d := by
 rw [UInt8.toNat_ofNat']
 omega
theorem dec_figs (u : Nat) : ∀ c ∈ decDigits u, figB c := by
 induction u using Nat.strongRecOn with
 | ind u ih =>
  intro c hc
  rw [decDigits] at hc
  by_cases h : u < 10
  ·rw [dif_pos h] at hc
   rw [List.mem_singleton] at hc
   subst hc
   unfold figB
   rw [ofNat_fig h]
   omega
  ·rw [dif_neg h] at hc
   rcases List.mem_append.1 hc with hc | hc
   ·exact ih (u / 10) (by omega) c hc
   ·rw [List.mem_singleton] at hc
    subst hc
    unfold figB
    rw [ofNat_fig (Nat.mod_lt _ (by decide))]
    omega
theorem dec_val (u : Nat) : valL 0 (decDigits u) = u := by
 induction u using Nat.strongRecOn with
 | ind u ih =>
  rw [decDigits]
  by_cases h : u < 10
  ·rw [dif_pos h]
   rw [valL_cons, valL_nil, ofNat_fig h]
   omega
  ·rw [dif_neg h, valL_app, ih (u / 10) (by omega)]
   rw [valL_cons, valL_nil, ofNat_fig (Nat.mod_lt _ (by decide))]
   omega
theorem val_pos {c : UInt8} {r : List UInt8} (h : figB c) (h0 : c.toNat ≠ 48) : 1 <= valL 0 (c :: r) := by
 have := valL_ge r (0 * 10 + (c.toNat - 48))
 unfold figB at h
 rw [valL_cons]
 omega
theorem dec_canon : ∀ (n : Nat) (l : List UInt8), l.length = n -> l ≠ [] -> (∀ c ∈ l, figB c) -> (∀ c r, l = c :: r -> r ≠ [] -> c.toNat ≠ 48) -> decDigits (valL 0 l) = l
 | 0, l, hn, h0, _, _ => absurd (List.eq_nil_of_length_eq_zero hn) h0
 | n + 1, l, hn, h0, hd, hz => by
  have hl := List.dropLast_concat_getLast h0
  obtain ⟨r, hr⟩ : ∃ r, r = l.dropLast := ⟨_, rfl⟩
  obtain ⟨c, hc⟩ : ∃ c, c = l.getLast h0 := ⟨_, rfl⟩
  rw [<- hr, <- hc] at hl
  subst hl
  clear hr hc
  have hcf := hd c (by simp)
  unfold figB at hcf
  rw [valL_app, valL_cons, valL_nil]
  have hback : UInt8.ofNat (48 + (c.toNat - 48)) = c := by
   apply UInt8.toNat_inj.1
   rw [ofNat_fig (by omega)]
   omega
  rcases r with _ | ⟨x, r⟩
  ·rw [valL_nil, decDigits, dif_pos (by omega)]
   simp only [List.nil_append]
   rw [show 0 * 10 + (c.toNat - 48) = c.toNat - 48 by omega, hback]
  ·have hx := hz x (r ++ [c]) rfl (by simp)
   have hp := val_pos (r := r) (hd x (by simp)) hx
   have ih := dec_canon n (x :: r) (by simp at hn ⊢; omega) (by simp) (fun y hy => hd y (by simp at hy ⊢; rcases hy with h | h; exact .inl h; exact .inr (.inl h))) (fun y q e hq => by
    simp only [List.cons.injEq] at e
    obtain ⟨rfl, rfl⟩ := e
    exact hx)
   obtain ⟨v, hv⟩ : ∃ v, v = valL 0 (x :: r) := ⟨_, rfl⟩
   rw [<- hv] at ih hp ⊢
   rw [decDigits, dif_neg (by omega), show (v * 10 + (c.toNat - 48)) / 10 = v by omega, show (v * 10 + (c.toNat - 48)) % 10 = c.toNat - 48 by omega, ih, hback]
def readI (s : ByteArray) : Option Nat := if valL 0 s.data.toList <= 9223372036854775807 /\ decDigits (valL 0 s.data.toList) = s.data.toList then some (valL 0 s.data.toList) else none
theorem decS_nat (u : Nat) : decS (u : Int) = ⟨(decDigits u).toArray⟩ := by
 unfold decS itoa
 rw [if_neg (by omega)]
 rfl
theorem decS_list (u : Nat) : (decS (u : Int)).data.toList = decDigits u := by rw [decS_nat]
theorem readI_some {s : ByteArray} {u : Nat} (h : readI s = some u) : u <= 9223372036854775807 /\ decS (u : Int) = s /\ s.data.toList = decDigits u := by
 unfold readI at h
 split at h
 ·rename_i hc
  injection h with h
  subst h
  exact ⟨hc.1, by rw [decS_nat, hc.2], hc.2.symm⟩
 ·cases h
theorem readI_of {s : ByteArray} {u : Nat} (hu : u <= 9223372036854775807) (h : decS (u : Int) = s) : readI s = some u := by
 subst h
 unfold readI
 rw [decS_list, dec_val, if_pos ⟨hu, rfl⟩]
theorem readI_figs {s : ByteArray} {u : Nat} (h : readI s = some u) : ∀ c ∈ s.data.toList, figB c := by
 rw [(readI_some h).2.2]
 exact dec_figs u
theorem readI_len {s : ByteArray} {u : Nat} (h : readI s = some u) : s.size <= 19 /\ 0 < s.size := by
 obtain ⟨h1, h2, h3⟩ := readI_some h
 have h4 := dec_len 18 u (by omega)
 have h5 : s.size = s.data.toList.length := by rw [Array.length_toList]; rfl
 rw [h5, h3]
 refine ⟨by omega, ?_⟩
 have := nDigits_pos u
 rw [decDigits_length]
 omega
def figI (x : Int) : Bool := decide (48 <= x) && decide (x <= 57)
def digF (s : ByteArray) : Nat -> Nat -> Nat
 | 0, j => j
 | k + 1, j => if j < s.size then (if figI (byteI s j) = true then digF s k (j + 1) else j) else j
theorem digF_fuel (s : ByteArray) : ∀ (k l j : Nat), s.size - j <= k -> s.size - j <= l -> digF s k j = digF s l j
 | 0, 0, _, _, _ => rfl
 | 0, l + 1, j, h, _ => by unfold digF; rw [if_neg (by omega)]
 | k + 1, 0, j, _, h => by unfold digF; rw [if_neg (by omega)]
 | k + 1, l + 1, j, h1, h2 => by
  unfold digF
  split
  ·split
   ·exact digF_fuel s k l _ (by omega) (by omega)
   ·rfl
  ·rfl
def digE (s : ByteArray) (j : Nat) : Nat := digF s (s.size - j) j
theorem digE_end {s : ByteArray} {j : Nat} (h : ¬ j < s.size) : digE s j = j := by
 unfold digE
 rw [show s.size - j = 0 by omega]
 rfl
theorem digE_at {s : ByteArray} {j : Nat} (h : j < s.size) : digE s j = if figI (byteI s j) = true then digE s (j + 1) else j := by
 unfold digE
 obtain ⟨k, hk⟩ : ∃ k, s.size - j = k + 1 := ⟨s.size - j - 1, by omega⟩
 rw [hk, digF, if_pos h]
 split
 ·exact digF_fuel s _ _ _ (by omega) (by omega)
 ·rfl
theorem digF_le (s : ByteArray) : ∀ (k j : Nat), j <= digF s k j /\ (j <= s.size -> digF s k j <= s.size)
 | 0, _ => ⟨Nat.le_refl _, fun h => h⟩
 | k + 1, j => by
  unfold digF
  split
  ·split
   ·have := digF_le s k (j + 1)
    omega
   ·omega
  ·omega
theorem digE_le (s : ByteArray) (j : Nat) : j <= digE s j /\ (j <= s.size -> digE s j <= s.size) := digF_le s _ _
theorem digF_figs (s : ByteArray) : ∀ (k j t : Nat), j <= t -> t < digF s k j -> figI (byteI s t) = true /\ t < s.size
 | 0, j, t, h1, h2 => by unfold digF at h2; omega
 | k + 1, j, t, h1, h2 => by
  unfold digF at h2
  split at h2
  ·split at h2
   ·rename_i hj hf
    rcases Nat.lt_or_ge j t with h | h
    ·exact digF_figs s k (j + 1) t (by omega) h2
    ·obtain rfl : t = j := by omega
     exact ⟨hf, hj⟩
   ·omega
  ·omega
theorem digE_figs {s : ByteArray} {j t : Nat} (h1 : j <= t) (h2 : t < digE s j) : figI (byteI s t) = true /\ t < s.size := digF_figs s _ j t h1 h2
def numB (s : ByteArray) (a e : Nat) : Nat := valL 0 (s.extract a e).data.toList
def wholeA (s : ByteArray) (neg : Bool) (a : Nat) : Int × Int :=
 if digE s a = a ∨ (byteI s a = 48 /\ a + 1 < digE s a) ∨ (digE s a < s.size /\ (byteI s (digE s a) = 46 ∨ byteI s (digE s a) = 101 ∨ byteI s (digE s a) = 69)) then (0, -1)
 else if neg = true then (if numB s a (digE s a) <= 9223372036854775808 then (-(numB s a (digE s a) : Int), (digE s a : Int)) else (0, -1))
 else (if numB s a (digE s a) <= 9223372036854775807 then ((numB s a (digE s a) : Int), (digE s a : Int)) else (0, -1))
def wholeB (s : ByteArray) (i : Nat) : Int × Int :=
 if i < s.size then (if byteI s i = 45 then wholeA s true (i + 1) else wholeA s false i) else (0, -1)
theorem extract_get (s : ByteArray) (a e k : Nat) (he : e <= s.size) (hk : a + k < e) : (s.extract a e).data.toList[k]? = some (s.get! (a + k)) := by
 have h1 : (s.extract a e).data.toList = (s.data.toList.drop a).take (e - a) := by
  rw [ByteArray.data_extract, Array.toList_extract, List.extract_eq_take_drop]
 rw [h1, List.getElem?_take, if_pos (by omega), List.getElem?_drop]
 have h2 : a + k < s.data.toList.length := by rw [Array.length_toList]; show a + k < s.size; omega
 rw [List.getElem?_eq_getElem h2]
 congr 1
 rw [Array.getElem_toList]
 have h3 : a + k < s.size := by omega
 show s.data[a + k] = s.data[a + k]!
 rw [getElem!_pos s.data (a + k) h3]
theorem extract_len (s : ByteArray) (a e : Nat) (he : e <= s.size) : (s.extract a e).data.toList.length = e - a := by
 rw [Array.length_toList]
 show (s.extract a e).size = e - a
 rw [ByteArray.size_extract]
 omega
theorem fig_of {s : ByteArray} {t : Nat} (h : figI (byteI s t) = true) : figB (s.get! t) := by
 unfold figI byteI at h
 simp at h
 unfold figB
 omega
theorem figs_all {s : ByteArray} {a e : Nat} (he : e <= s.size) (h : ∀ t, a <= t -> t < e -> figI (byteI s t) = true) : ∀ c ∈ (s.extract a e).data.toList, figB c := by
 intro c hc
 obtain ⟨k, hk⟩ := List.mem_iff_getElem?.1 hc
 have hl : k < e - a := by
  have := (List.getElem?_eq_some_iff.1 hk).1
  rwa [extract_len s a e he] at this
 rw [extract_get s a e k he (by omega)] at hk
 injection hk with hk
 subst hk
 exact fig_of (h _ (by omega) (by omega))
theorem atoi_figs {l : List UInt8} (h0 : l ≠ []) (hf : ∀ c ∈ l, figB c) : atoiAll l = if valL 0 l <= 9223372036854775807 then .ok (valL 0 l : Int) else .range := by
 rcases l with _ | ⟨c, r⟩
 ·exact absurd rfl h0
 ·have hc := hf c (by simp)
  unfold figB at hc
  rw [atoiAll_plain c r (by omega) (by omega)]
  unfold parseMag
  rw [if_neg (by simp), parse_figs _ 0 hf (by omega)]
  obtain ⟨u, hu⟩ : ∃ u, u = valL 0 (c :: r) := ⟨_, rfl⟩
  rw [<- hu]
  by_cases h1 : u < 18446744073709551616
  ·rw [if_pos h1]
   show (if 9223372036854775808 <= u then NumEnd.range else NumEnd.ok (u : Int)) = _
   by_cases h2 : u <= 9223372036854775807
   ·rw [if_neg (by omega), if_pos h2]
   ·rw [if_pos (by omega), if_neg h2]
  ·rw [if_neg h1, if_neg (by omega)]
   rfl
theorem atoi_minus {l : List UInt8} (h0 : l ≠ []) (hf : ∀ c ∈ l, figB c) : atoiAll (45 :: l) = if valL 0 l <= 9223372036854775808 then .ok (-(valL 0 l : Int)) else .range := by
 rw [atoiAll_minus]
 unfold parseMag
 rw [if_neg h0, parse_figs _ 0 hf (by omega)]
 obtain ⟨u, hu⟩ : ∃ u, u = valL 0 l := ⟨_, rfl⟩
 rw [<- hu]
 by_cases h1 : u < 18446744073709551616
 ·rw [if_pos h1]
  show (if 9223372036854775808 < u then NumEnd.range else NumEnd.ok (-(u : Int))) = _
  by_cases h2 : u <= 9223372036854775808
  ·rw [if_neg (by omega), if_pos h2]
  ·rw [if_pos (by omega), if_neg h2]
 ·rw [if_neg h1, if_neg (by omega)]
  rfl
theorem readI_figures {s : ByteArray} {a e : Nat} (hae : a < e) (he : e <= s.size) (h : ∀ t, a <= t -> t < e -> figI (byteI s t) = true) (hz : ¬ (byteI s a = 48 /\ a + 1 < e)) :
  decS (numB s a e : Int) = s.extract a e := by
 have hl := extract_len s a e he
 have hg := extract_get s a e 0 he (by omega)
 have hc := dec_canon (e - a) (s.extract a e).data.toList hl (by intro hn; rw [hn] at hl; simp at hl; omega) (figs_all he h) (fun c r hcr hr => by
  rw [hcr] at hg hl
  simp at hg
  intro hcc
  refine hz ⟨by unfold byteI; rw [<- hg, hcc]; rfl, ?_⟩
  rcases r with _ | ⟨x, r⟩
  ·exact absurd rfl hr
  ·simp at hl; omega)
 rw [decS_nat]
 unfold numB
 rw [hc]
theorem readI_part {s : ByteArray} {a e : Nat} (hae : a < e) (he : e <= s.size) (h : ∀ t, a <= t -> t < e -> figI (byteI s t) = true) (hz : ¬ (byteI s a = 48 /\ a + 1 < e)) :
  readI (s.extract a e) = if numB s a e <= 9223372036854775807 then some (numB s a e) else none := by
 have hd := readI_figures hae he h hz
 by_cases hv : numB s a e <= 9223372036854775807
 ·rw [if_pos hv]
  exact readI_of hv hd
 ·rw [if_neg hv]
  unfold readI
  exact if_neg (fun hc => hv hc.1)
theorem wholeB_at {s : ByteArray} {i a : Nat} (h : i < s.size) (ha : a = if byteI s i = 45 then i + 1 else i) : wholeB s i = wholeA s (decide (byteI s i = 45)) a := by
 unfold wholeB
 rw [if_pos h]
 by_cases h45 : byteI s i = 45
 ·rw [if_pos h45] at ha ⊢
  rw [decide_eq_true h45, ha]
 ·rw [if_neg h45] at ha ⊢
  rw [decide_eq_false h45, ha]
theorem wholeA_no {s : ByteArray} {neg : Bool} {a : Nat} (h : digE s a = a ∨ (byteI s a = 48 /\ a + 1 < digE s a) ∨ (digE s a < s.size /\ (byteI s (digE s a) = 46 ∨ byteI s (digE s a) = 101 ∨ byteI s (digE s a) = 69))) : wholeA s neg a = (0, -1) := if_pos h
theorem extract_cons {s : ByteArray} {i e : Nat} (hi : i < e) (he : e <= s.size) : (s.extract i e).data.toList = s.get! i :: (s.extract (i + 1) e).data.toList := by
 apply List.ext_getElem?
 intro k
 rcases k with _ | k
 ·rw [extract_get s i e 0 he (by omega)]; rfl
 ·rw [List.getElem?_cons_succ]
  by_cases hk : i + 1 + k < e
  ·rw [extract_get s i e (k + 1) he (by omega), extract_get s (i + 1) e k he hk]
   congr 2
   omega
  ·rw [List.getElem?_eq_none (by rw [extract_len s i e he]; omega), List.getElem?_eq_none (by rw [extract_len s (i + 1) e he]; omega)]
theorem whole_atoi {s : ByteArray} {i a : Nat} (hi : i < s.size) (ha : a = if byteI s i = 45 then i + 1 else i) (h : ¬ (digE s a = a ∨ (byteI s a = 48 /\ a + 1 < digE s a) ∨ (digE s a < s.size /\ (byteI s (digE s a) = 46 ∨ byteI s (digE s a) = 101 ∨ byteI s (digE s a) = 69)))) :
  (∃ v, atoiAll (s.extract i (digE s a)).data.toList = .ok v /\ wholeB s i = (v, (digE s a : Int))) ∨ (atoiAll (s.extract i (digE s a)).data.toList = .range /\ wholeB s i = (0, -1)) := by
 have hae := digE_le s a
 have has : a <= s.size := by rw [ha]; split <;> omega
 have hes := hae.2 has
 have hne : a < digE s a := by have := hae.1; have := not_or.1 h; omega
 have hf := figs_all (s := s) (a := a) (e := digE s a) hes (fun t h1 h2 => (digE_figs h1 h2).1)
 have hl := extract_len s a (digE s a) hes
 have h0 : (s.extract a (digE s a)).data.toList ≠ [] := by intro hn; rw [hn] at hl; simp at hl; omega
 rw [wholeB_at hi ha]
 unfold wholeA
 rw [if_neg h]
 by_cases h45 : byteI s i = 45
 ·rw [if_pos h45] at ha
  rw [decide_eq_true h45, if_pos rfl]
  have hc := extract_cons (s := s) (i := i) (e := digE s a) (by omega) hes
  have hb : s.get! i = 45 := by
   apply UInt8.toNat_inj.1
   have h9 : (45 : UInt8).toNat = 45 := rfl
   unfold byteI at h45
   rw [h9]
   omega
  rw [hc, hb, <- ha, atoi_minus h0 hf]
  unfold numB
  by_cases hv : valL 0 (s.extract a (digE s a)).data.toList <= 9223372036854775808
  ·rw [if_pos hv, if_pos hv]; exact .inl ⟨_, rfl, rfl⟩
  ·rw [if_neg hv, if_neg hv]; exact .inr ⟨rfl, rfl⟩
 ·rw [if_neg h45] at ha
  rw [decide_eq_false h45, if_neg (by decide)]
  rw [ha] at hf h0 ⊢
  rw [atoi_figs h0 hf]
  unfold numB
  by_cases hv : valL 0 (s.extract i (digE s i)).data.toList <= 9223372036854775807
  ·rw [if_pos hv, if_pos hv]; exact .inl ⟨_, rfl, rfl⟩
  ·rw [if_neg hv, if_neg hv]; exact .inr ⟨rfl, rfl⟩
theorem lit_min : decS (9223372036854775808 : Nat) = ⟨#[57, 50, 50, 51, 51, 55, 50, 48, 51, 54, 56, 53, 52, 55, 55, 53, 56, 48, 56]⟩ := by
 rw [decS_nat]
 have h := dec_canon 19 [57, 50, 50, 51, 51, 55, 50, 48, 51, 54, 56, 53, 52, 55, 55, 53, 56, 48, 56] rfl (by simp) (by unfold figB; decide) (by intro c r h _; simp at h; rw [<- h.1]; decide)
 rw [show valL 0 [57, 50, 50, 51, 51, 55, 50, 48, 51, 54, 56, 53, 52, 55, 55, 53, 56, 48, 56] = 9223372036854775808 from by unfold valL; rfl] at h
 rw [h]
theorem is_min {s : ByteArray} {a e : Nat} (hae : a < e) (he : e <= s.size) (h : ∀ t, a <= t -> t < e -> figI (byteI s t) = true) (hz : ¬ (byteI s a = 48 /\ a + 1 < e)) : s.extract a e = ⟨#[57, 50, 50, 51, 51, 55, 50, 48, 51, 54, 56, 53, 52, 55, 55, 53, 56, 48, 56]⟩ ↔ numB s a e = 9223372036854775808 := by
 have hd := readI_figures hae he h hz
 constructor
 ·intro hx
  rw [hx, <- lit_min] at hd
  have h1 := congrArg (fun z : ByteArray => valL 0 z.data.toList) hd
  simp only [decS_list, dec_val] at h1
  exact h1
 ·intro hn
  rw [<- hd, hn]
  exact lit_min
theorem toList_empty {s : ByteArray} (h : s.size = 0) : s.toList.isEmpty = true := by
 rw [Lib.toList_data, List.isEmpty_iff]
 exact List.eq_nil_of_length_eq_zero (by rw [Array.length_toList]; exact h)
theorem toList_some {s : ByteArray} (h : 0 < s.size) : s.toList.isEmpty = false := by
 rw [Lib.toList_data]
 rcases h1 : s.data.toList with _ | ⟨x, l⟩
 ·have h2 : s.data.toList.length = 0 := by rw [h1]; rfl
  rw [Array.length_toList] at h2
  have h3 : s.size = s.data.size := rfl
  omega
 ·rfl
open Go.Shelf
def laysAtoi_ren : Go.Shelf.Ren := ⟨fun | 172 => 204 | 244 => 246 | 245 => 247 | 247 => 268 | 279 => 269 | 280 => 270 | 281 => 271 | 282 => 272 | 287 => 284 | 316 => 285 | 171 => 128 | 205 => 286 | 321 => 296 | 322 => 297 | 243 => 206 | 246 => 248 | 283 => 273 | 284 => 274 | 285 => 275 | 286 => 276 | 129 => 288 | 317 => 287 | 318 => 289 | 319 => 290 | 320 => 291 | 337 => 298 | 338 => 299 | n => n, fun | 9 => 9 | 3 => 3 | 75 => 141 | 76 => 142 | 4 => 4 | 5 => 5 | 167 => 206 | 37 => 28 | 0 => 0 | 85 => 207 | 2 => 2 | 168 => 209 | 53 => 213 | 175 => 227 | 46 => 179 | 210 => 230 | 127 => 175 | 145 => 242 | 143 => 240 | 21 => 21 | 171 => 212 | 173 => 216 | 212 => 233 | 51 => 202 | 20 => 20 | 213 => 234 | 232 => 247 | 233 => 248 | 80 => 144 | n => n, fun | 15 => 3 | 16 => 4 | 17 => 5 | 18 => 6 | 19 => 7 | n => n⟩
theorem laysAtoi : Go.Proofs.LaysC.n172 Tryz.prog laysAtoi_ren := {
 mixed := by kernel_rfl
 f129 := Tryz.func288.trans (congrArg some (by kernel_rfl))
 f171 := Tryz.func128.trans (congrArg some (by kernel_rfl))
 f172 := Tryz.func204.trans (congrArg some (by kernel_rfl))
 f205 := Tryz.func286.trans (congrArg some (by kernel_rfl))
 f243 := Tryz.func206.trans (congrArg some (by kernel_rfl))
 f244 := Tryz.func246.trans (congrArg some (by kernel_rfl))
 f245 := Tryz.func247.trans (congrArg some (by kernel_rfl))
 f246 := Tryz.func248.trans (congrArg some (by kernel_rfl))
 f247 := Tryz.func268.trans (congrArg some (by kernel_rfl))
 f279 := Tryz.func269.trans (congrArg some (by kernel_rfl))
 f280 := Tryz.func270.trans (congrArg some (by kernel_rfl))
 f281 := Tryz.func271.trans (congrArg some (by kernel_rfl))
 f282 := Tryz.func272.trans (congrArg some (by kernel_rfl))
 f283 := Tryz.func273.trans (congrArg some (by kernel_rfl))
 f284 := Tryz.func274.trans (congrArg some (by kernel_rfl))
 f285 := Tryz.func275.trans (congrArg some (by kernel_rfl))
 f286 := Tryz.func276.trans (congrArg some (by kernel_rfl))
 f287 := Tryz.func284.trans (congrArg some (by kernel_rfl))
 f316 := Tryz.func285.trans (congrArg some (by kernel_rfl))
 f317 := Tryz.func287.trans (congrArg some (by kernel_rfl))
 f318 := Tryz.func289.trans (congrArg some (by kernel_rfl))
 f319 := Tryz.func290.trans (congrArg some (by kernel_rfl))
 f320 := Tryz.func291.trans (congrArg some (by kernel_rfl))
 f321 := Tryz.func296.trans (congrArg some (by kernel_rfl))
 f322 := Tryz.func297.trans (congrArg some (by kernel_rfl))
 f337 := Tryz.func298.trans (congrArg some (by kernel_rfl))
 f338 := Tryz.func299.trans (congrArg some (by kernel_rfl))
 t0 := Tryz.underlying0
 a0 := Tryz.isAgg0
 z0 := Tryz.sizeOf0
 v0 := Tryz.zeroValue0
 t2 := Tryz.underlying2
 a2 := Tryz.isAgg2
 z2 := Tryz.sizeOf2
 v2 := Tryz.zeroValue2
 t3 := Tryz.underlying3
 a3 := Tryz.isAgg3
 z3 := Tryz.sizeOf3
 v3 := Tryz.zeroValue3
 t4 := Tryz.underlying4
 a4 := Tryz.isAgg4
 z4 := Tryz.sizeOf4
 v4 := Tryz.zeroValue4
 t5 := Tryz.underlying5
 a5 := Tryz.isAgg5
 z5 := Tryz.sizeOf5
 v5 := Tryz.zeroValue5
 t9 := Tryz.underlying9
 a9 := Tryz.isAgg9
 z9 := Tryz.sizeOf9
 v9 := Tryz.zeroValue9
 t20 := Tryz.underlying20
 a20 := Tryz.isAgg20
 z20 := Tryz.sizeOf20
 v20 := Tryz.zeroValue20
 t21 := Tryz.underlying21
 a21 := Tryz.isAgg21
 z21 := Tryz.sizeOf21
 v21 := Tryz.zeroValue21
 t37 := Tryz.underlying28
 a37 := Tryz.isAgg28
 z37 := Tryz.sizeOf28
 v37 := Tryz.zeroValue28
 t46 := Tryz.underlying179
 a46 := Tryz.isAgg179
 z46 := Tryz.sizeOf179
 v46 := Tryz.zeroValue179
 t51 := Tryz.underlying202
 a51 := Tryz.isAgg202
 z51 := Tryz.sizeOf202
 v51 := Tryz.zeroValue202
 t53 := Tryz.underlying213
 a53 := Tryz.isAgg213
 z53 := Tryz.sizeOf213
 v53 := Tryz.zeroValue213
 t75 := Tryz.underlying141
 a75 := Tryz.isAgg141
 z75 := Tryz.sizeOf141
 v75 := Tryz.zeroValue141
 t76 := Tryz.underlying142
 a76 := Tryz.isAgg142
 z76 := Tryz.sizeOf142
 v76 := Tryz.zeroValue142
 t85 := Tryz.underlying207
 a85 := Tryz.isAgg207
 z85 := Tryz.sizeOf207
 v85 := Tryz.zeroValue207
 t127 := Tryz.underlying175
 a127 := Tryz.isAgg175
 z127 := Tryz.sizeOf175
 v127 := Tryz.zeroValue175
 t143 := Tryz.underlying240
 a143 := Tryz.isAgg240
 z143 := Tryz.sizeOf240
 v143 := Tryz.zeroValue240
 t145 := Tryz.underlying242
 a145 := Tryz.isAgg242
 z145 := Tryz.sizeOf242
 v145 := Tryz.zeroValue242
 t167 := Tryz.underlying206
 a167 := Tryz.isAgg206
 z167 := Tryz.sizeOf206
 v167 := Tryz.zeroValue206
 t168 := Tryz.underlying209
 a168 := Tryz.isAgg209
 z168 := Tryz.sizeOf209
 v168 := Tryz.zeroValue209
 t171 := Tryz.underlying212
 a171 := Tryz.isAgg212
 z171 := Tryz.sizeOf212
 v171 := Tryz.zeroValue212
 t173 := Tryz.underlying216
 a173 := Tryz.isAgg216
 z173 := Tryz.sizeOf216
 v173 := Tryz.zeroValue216
 t175 := Tryz.underlying227
 a175 := Tryz.isAgg227
 z175 := Tryz.sizeOf227
 v175 := Tryz.zeroValue227
 t210 := Tryz.underlying230
 a210 := Tryz.isAgg230
 z210 := Tryz.sizeOf230
 v210 := Tryz.zeroValue230
 t212 := Tryz.underlying233
 a212 := Tryz.isAgg233
 z212 := Tryz.sizeOf233
 v212 := Tryz.zeroValue233
 t213 := Tryz.underlying234
 a213 := Tryz.isAgg234
 z213 := Tryz.sizeOf234
 t232 := Tryz.underlying247
 a232 := Tryz.isAgg247
 z232 := Tryz.sizeOf247
 v232 := Tryz.zeroValue247
 t233 := Tryz.underlying248
 a233 := Tryz.isAgg248
 z233 := Tryz.sizeOf248
 v233 := Tryz.zeroValue248
 g15 := by kernel_rfl
 g16 := by kernel_rfl
 g17 := by kernel_rfl
 g18 := by kernel_rfl
 g19 := by kernel_rfl
 t80 := Tryz.underlying144
 a80 := Tryz.isAgg144
 z80 := Tryz.sizeOf144
 v80 := Tryz.zeroValue144
 i0 := by kernel_rfl
 i2 := by kernel_rfl
 i3 := by kernel_rfl
 i4 := by kernel_rfl
 i5 := by kernel_rfl
 i9 := by kernel_rfl
 i20 := by kernel_rfl
 i21 := by kernel_rfl
 i37 := by kernel_rfl
 i46 := by kernel_rfl
 i51 := by kernel_rfl
 i53 := by kernel_rfl
 i75 := by kernel_rfl
 i76 := by kernel_rfl
 i80 := by kernel_rfl
 i85 := by kernel_rfl
 i127 := by kernel_rfl
 i143 := by kernel_rfl
 i145 := by kernel_rfl
 i167 := by kernel_rfl
 i168 := by kernel_rfl
 i171 := by kernel_rfl
 i173 := by kernel_rfl
 i175 := by kernel_rfl
 i210 := by kernel_rfl
 i212 := by kernel_rfl
 i232 := by kernel_rfl
 i233 := by kernel_rfl
 m15 := by kernel_rfl
 m16 := by kernel_rfl
 m17 := by kernel_rfl
 m18 := by kernel_rfl
 m19 := by kernel_rfl
 c0 := by kernel_rfl
 c2 := by kernel_rfl
 c3 := by kernel_rfl
 c4 := by kernel_rfl
 c5 := by kernel_rfl
 c9 := by kernel_rfl
 c20 := by kernel_rfl
 c21 := by kernel_rfl
 c37 := by kernel_rfl
 c46 := by kernel_rfl
 c51 := by kernel_rfl
 c53 := by kernel_rfl
 c75 := by kernel_rfl
 c76 := by kernel_rfl
 c80 := by kernel_rfl
 c85 := by kernel_rfl
 c127 := by kernel_rfl
 c143 := by kernel_rfl
 c145 := by kernel_rfl
 c167 := by kernel_rfl
 c168 := by kernel_rfl
 c171 := by kernel_rfl
 c173 := by kernel_rfl
 c175 := by kernel_rfl
 c210 := by kernel_rfl
 c212 := by kernel_rfl
 c213 := by kernel_rfl
 c232 := by kernel_rfl
 c233 := by kernel_rfl }
def ErrR (w : World) : Prop := ∃ ev, w.cell? ⟨laysAtoi_ren.g 16, 0, none⟩ = some ev /\ (ev = .nilIface ∨ ∃ te pe, ev = .iface te pe)
theorem ErrR.below {w w' : World} (h : ErrR w) (hb : Below w.heap.size w w') : ErrR w' := by
 obtain ⟨ev, h1, h2⟩ := h
 exact ⟨ev, (hb.cell (p := ⟨laysAtoi_ren.g 16, 0, none⟩) (Lib.lt_of_cell h1)).trans h1, h2⟩
theorem c_Atoi_ok (s : ByteArray) (v : Int) (w : World) (hs : s.size <= 1048576) (h : Lib.atoiAll s.data.toList = .ok v) :
  Calls Tryz.prog 204 #[.string s] w fun e w' => e = .returned (.tuple #[.int .i64 v, .nilIface]) /\ Below w.heap.size w w' := by
 have h1 := Any.strconv_Atoi_ok laysAtoi s (by omega) v h w
 change Calls Tryz.prog 204 _ _ _ at h1
 refine h1.mono ?_
 rintro e w' ⟨rfl, hw⟩
 refine ⟨rfl, ?_⟩
 rcases hw with rfl | ⟨t, rfl⟩
 ·exact Below.refl _ _
 ·exact Lib.bytesWorld_below _ _ _
theorem c_Atoi_range (s : ByteArray) (w : World) (hs : s.size <= 1048576) (h : Lib.atoiAll s.data.toList = .range) (hE : ErrR w) :
  Calls Tryz.prog 204 #[.string s] w fun e w' => ∃ x N, e = .returned (.tuple #[.int .i64 x, .iface 209 (.pointer (some ⟨N, 0, none⟩))]) /\ Below w.heap.size w w' := by
 obtain ⟨ev, h2, h3⟩ := hE
 have h1 := Any.strconv_Atoi_range laysAtoi s (by omega) h ev w h2 h3
 change Calls Tryz.prog 204 _ _ _ at h1
 refine h1.mono ?_
 rintro e w' ⟨N, rfl, -, -, hb⟩
 exact ⟨_, N, rfl, hb⟩
theorem digit_fig (x : Int) : digitB x = figI x := by
 unfold digitB figI
 rw [Bool.eq_iff_iff]
 simp
def readV (s : ByteArray) : Int := match readI s with | some u => (u : Int) | none => 0
def readOk (s : ByteArray) : Bool := (readI s).isSome
theorem read_none {s : ByteArray} (h : readI s = none) : readV s = 0 /\ readOk s = false := by unfold readV readOk; rw [h]; exact ⟨rfl, rfl⟩
theorem read_some {s : ByteArray} {u : Nat} (h : readI s = some u) : readV s = u /\ readOk s = true := by unfold readV readOk; rw [h]; exact ⟨rfl, rfl⟩
theorem readI_bad {s : ByteArray} {c : UInt8} (h : c ∈ s.data.toList) (hc : ¬ figB c) : readI s = none := by
 rcases h1 : readI s with _ | u
 ·rfl
 ·exact absurd (readI_figs h1 c h) hc
theorem readI_long {s : ByteArray} (h : 19 < s.size) : readI s = none := by
 rcases h1 : readI s with _ | u
 ·rfl
 ·have := (readI_len h1).1; omega
theorem readI_big {s : ByteArray} {j : Nat} (h : 9223372036854775807 < valL 0 (s.data.toList.take j)) : readI s = none := by
 unfold readI
 rw [if_neg]
 intro hc
 have h1 := valL_app (s.data.toList.take j) (s.data.toList.drop j) 0
 rw [List.take_append_drop] at h1
 have h2 := valL_ge (s.data.toList.drop j) (valL 0 (s.data.toList.take j))
 omega
theorem readI_end {s : ByteArray} (h : valL 0 s.data.toList <= 9223372036854775807) : readI s = if decS (valL 0 s.data.toList : Int) = s then some (valL 0 s.data.toList) else none := by
 by_cases hd : decS (valL 0 s.data.toList : Int) = s
 ·rw [if_pos hd]; exact readI_of h hd
 ·rw [if_neg hd]
  rcases h1 : readI s with _ | u
  ·rfl
  ·obtain ⟨_, h2, h3⟩ := readI_some h1
   rw [h3, dec_val] at hd
   exact absurd h2 hd
theorem take_get {s : ByteArray} {j : Nat} (h : j < s.size) : s.data.toList.take (j + 1) = s.data.toList.take j ++ [s.get! j] := by
 have h2 : j < s.data.toList.length := by rw [Array.length_toList]; exact h
 rw [List.take_add_one, List.getElem?_eq_getElem h2]
 congr 1
 rw [Array.getElem_toList]
 show [s.data[j]] = [s.data[j]!]
 rw [getElem!_pos s.data j h]
theorem mem_get {s : ByteArray} {j : Nat} (h : j < s.size) : s.get! j ∈ s.data.toList := by
 have := take_get h
 exact List.mem_of_mem_take (i := j + 1) (by rw [this]; simp)
theorem valL_step {s : ByteArray} {j : Nat} (h : j < s.size) : valL 0 (s.data.toList.take (j + 1)) = valL 0 (s.data.toList.take j) * 10 + ((s.get! j).toNat - 48) := by
 rw [take_get h, valL_app, valL_cons, valL_nil]
theorem get_byte (s : ByteArray) (i : Nat) (h : i < s.size) : (s[i]'h).toNat = (s.get! i).toNat := by
 show _ = (s.data[i]!).toNat
 rw [getElem!_pos s.data i h]
 rfl
theorem beqD_yes {a b : ByteArray} (h : a = b) : (a.toList == b.toList) = true := by rw [h]; exact beq_self_eq_true _
theorem beqD_no {a b : ByteArray} (h : a ≠ b) : (a.toList == b.toList) = false := beq_eq_false_iff_ne.2 (fun e => h (by
 rw [Lib.toList_data, Lib.toList_data] at e
 exact ByteArray.ext (Array.toList_inj.1 e)))
theorem c_spec_ReadInt (s : ByteArray) (w : World) (hs : s.size <= 1048576) :
  Calls Tryz.prog 127 #[.string s] w fun e w' => e = .returned (.tuple #[.int .i64 (readV s), .bool (readOk s)]) /\ Below w.heap.size w w' := by
 by_cases hl : (19 : Int) < s.size
 ·have Hf := hid (read_none (readI_long (s := s) (by omega)))
  go_enter Tryz.func127, Tryz.ntmps127
  go_wp2_with fail
  go_ret2
  exact ⟨by rw [Hf.out.1, Hf.out.2]; rfl, Below.refl _ _⟩
 ·have hl2 : decide ((19 : Int) < s.size) = false := decide_eq_false hl
  have hs2 : s.size <= 19 := by omega
  clear hl hs
  go_enter Tryz.func127, Tryz.ntmps127
  go_wp2_with fail
  go_loopw [4, 5] (fun s4 s5 wr => ∃ (j : Nat) (a : Int), j <= s.size /\ s5 = .int .i64 j /\ s4 = .int .i64 a /\ 0 <= a /\ a <= 9223372036854775807 /\ a = (valL 0 (s.data.toList.take j) : Int) /\ Below w.heap.size w wr) (fun _ s5 _ => s.size - (intOf s5).toNat)
  case atStart => exact ⟨0, 0, Nat.zero_le _, rfl, rfl, by omega, by omega, by rw [List.take_zero, valL_nil]; rfl, bel⟩
  case round =>
   obtain ⟨j, a, hjl, rfl, rfl, ha0, ha1, hav, hbr⟩ := hrel
   have HA := hid hav
   have HBr := hid hbr
   clear hav hbr
   by_cases hlt : (j : Int) < s.size
   ·have hjj : j < s.size := by omega
    have hj0 : (0 : Int) <= j := by omega
    obtain ⟨b, hb⟩ : ∃ b : Nat, b = (s.get! j).toNat := ⟨_, rfl⟩
    have hx : (s[j]'hjj).toNat = b := by rw [hb]; exact get_byte s j hjj
    have HBy := hid hb
    have hb2 : (b : Int) < 256 := by have := (s.get! j).toNat_lt; omega
    clear hb
    by_cases e48 : (b : Int) < 48
    ·have Hf := hid (read_none (readI_bad (mem_get hjj) (show ¬ figB (s.get! j) by unfold figB; rw [<- HBy.out]; omega)))
     go_wp2_with fail
     go_ret2
     exact ⟨by rw [Hf.out.1, Hf.out.2]; rfl, HBr.out⟩
    ·have d48 : decide ((b : Int) < 48) = false := decide_eq_false e48
     by_cases e57 : (57 : Int) < b
     ·have Hf := hid (read_none (readI_bad (mem_get hjj) (show ¬ figB (s.get! j) by unfold figB; rw [<- HBy.out]; omega)))
      clear e48
      go_wp2_with fail
      go_ret2
      exact ⟨by rw [Hf.out.1, Hf.out.2]; rfl, HBr.out⟩
     ·have d57 : decide ((57 : Int) < b) = false := decide_eq_false e57
      obtain ⟨x, hxx⟩ : ∃ x : Int, x = (b : Int) - 48 := ⟨_, rfl⟩
      have hx0 : 0 <= x := by omega
      have hx9 : x <= 9 := by omega
      have HX := hid hxx
      have hxe : (b : Int) - 48 = x := hxx.symm
      have HV := hid (show (valL 0 (s.data.toList.take (j + 1)) : Int) = 10 * a + x by
       have h1 := valL_step hjj
       rw [h1, HA.out, hxx, HBy.out]
       have := HBy.out
       omega)
      clear e48 e57 hxx
      by_cases hov : (9223372036854775807 - x) / 10 < a
      ·have Hf := hid (read_none (readI_big (s := s) (j := j + 1) (by have := HV.out; omega)))
       have hov1 : decide ((9223372036854775807 - x) / 10 < a) = true := decide_eq_true hov
       have hq : (0 : Int) <= 9223372036854775807 - x := by omega
       clear hov
       go_wp2_with fail
       go_ret2
       exact ⟨by rw [Hf.out.1, Hf.out.2]; rfl, HBr.out⟩
      ·have hov1 : decide ((9223372036854775807 - x) / 10 < a) = false := decide_eq_false hov
       have hn1 : 10 * a + x <= 9223372036854775807 := by omega
       have hn0 : 0 <= 10 * a + x := by omega
       have hq : (0 : Int) <= 9223372036854775807 - x := by omega
       have hm : 10 * a <= 9223372036854775807 := by omega
       clear hov
       go_wp2_with fail
       go_roundw
       case rel => exact ⟨j + 1, 10 * a + x, by omega, by go_num, rfl, hn0, hn1, HV.out.symm, HBr.out⟩
       case measure => simp [intOf]; omega
   ·have hjl2 : j = s.size := by omega
    have HAA := hid (show a = (valL 0 s.data.toList : Int) by
     rw [HA.out, List.take_of_length_le (by rw [Array.length_toList, hjl2]; exact Nat.le_refl _)])
    have HE := hid (readI_end (s := s) (by have := HAA.out; omega))
    clear HA
    by_cases hd : decS a = s
    ·have Hf := hid (read_some (s := s) (u := valL 0 s.data.toList) (by rw [HE.out, <- HAA.out, if_pos hd]))
     have hdd := beqD_yes hd
     have HD := hid hd
     clear hd
     go_wp2_with fail
     refine (c_spec_Decimal a _ ⟨by omega, ha1⟩).mono ?_
     rintro e w1 ⟨rfl, hb⟩
     go_wp2_with fail
     go_ret2
     exact ⟨by rw [Hf.out.1, Hf.out.2, <- HAA.out]; rfl, HBr.out.trans (hb.mono HBr.out.size)⟩
    ·have Hf := hid (read_none (s := s) (by rw [HE.out, <- HAA.out, if_neg hd]))
     have hdd := beqD_no hd
     clear hd
     go_wp2_with fail
     refine (c_spec_Decimal a _ ⟨by omega, ha1⟩).mono ?_
     rintro e w1 ⟨rfl, hb⟩
     go_wp2_with fail
     go_ret2
     exact ⟨by rw [Hf.out.1, Hf.out.2]; rfl, HBr.out.trans (hb.mono HBr.out.size)⟩
end Go.Proofs.YtohcpifekcehjaaGreatDoor
