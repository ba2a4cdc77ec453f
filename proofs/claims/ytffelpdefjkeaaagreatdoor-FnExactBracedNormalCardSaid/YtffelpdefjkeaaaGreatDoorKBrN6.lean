/- Written by wip/tools/pack.py: the texts that FnExactBracedNormal needs, without what it does not need. No conditions. -/
import Derived.Test.YtffelpdefjkeaaaGreatDoorKBrN5
import Derived.Lib.AppendStr
import Derived.Laws.IdiomStrings
import Derived.Lib.BufferRead
import Derived.Test.YtffelpdefjkeaaaGreatDoorKBrN1
import Derived.Test.YtffelpdefjkeaaaGreatDoorKBrN4
import Derived.Lib.ItoaNum
import Derived.Lib.AtoiAllCases
namespace Go.Proofs.YtffelpdefjkeaaaGreatDoor
open Go.RowKit Go.Lib
/-- The place of a letter among b, f, n, r, t; -1. -/
def escI (b : Nat) : Int := if b = 98 then 0 else if b = 102 then 1 else if b = 110 then 2 else if b = 114 then 3 else if b = 116 then 4 else -1
set_option maxRecDepth 1000000 in
theorem idx_esc : ∀ i : Fin 256, Lib.indexByte [98, 102, 110, 114, 116] (UInt8.ofNat i.val) = escI i.val := by decide
theorem c_IndexEsc (b : Nat) (hb : b < 256) (w : World) : Calls Tryz.prog 65 #[.string { data := #[98, 102, 110, 114, 116] }, .int .u8 b] w fun e w' => e = .returned (.int .i64 (escI b)) ∧ w = w' := by
  have h := c_strings_IndexByte { data := #[98, 102, 110, 114, 116] } (UInt8.ofNat b) w
  have e1 : (UInt8.ofNat b).toNat = b := by rw [UInt8.toNat_ofNat']; exact Nat.mod_eq_of_lt hb
  rw [e1] at h
  exact h.mono (fun _ _ h => ⟨h.1.trans (congrArg (fun z => Ending.returned (Value.int .i64 z)) (idx_esc ⟨b, hb⟩)), h.2⟩)
theorem fourB_fits {s : ByteArray} {i : Nat} (h : 0 ≤ fourB s i) : i + 4 ≤ s.size := by
  unfold fourB at h
  split at h
  · assumption
  · omega
set_option maxHeartbeats 4000000 in
set_option maxRecDepth 20000 in
theorem c_impl_readEscape (s : ByteArray) (i : Nat) (w : World) (hs : s.size ≤ 1048576) (hi : i ≤ 1048577) (hV : CTab w) (hT : Tabs w) :
    Calls Tryz.prog 126 #[.string s, .int .i64 i] w fun e w' => e = .returned (.tuple #[.int .i64 (escB s i).1, .int .i64 (escB s i).2]) ∧ Below w.heap.size w w' := by
  have HVT := Lib.hid (And.intro hV hT)
  clear hV hT
  by_cases hlt : (i : Int) < s.size
  · have h0 : (0 : Int) ≤ i := by omega
    have h1 : decide ((s.size : Int) ≤ i) = false := decide_eq_false (by omega)
    have h2 : decide (s.size ≤ i) = false := decide_eq_false (by omega)
    have hii : i < s.size := by omega
    obtain ⟨b, hb⟩ : ∃ b : Nat, b = (s.get! i).toNat := ⟨_, rfl⟩
    have hx : (s[i]'hii).toNat = b := by rw [hb]; exact get_at s i hii
    have hb2 : (b : Int) < 256 := by have := (s.get! i).toNat_lt; omega
    have hby : byteI s i = b := by unfold byteI; rw [hb]
    clear hb
    have HE := Lib.hid (show escB s i = _ from if_pos hii)
    rw [hby] at HE
    have Hii := Lib.hid hii
    have HE0 := Lib.hid HE.out
    clear HE
    by_cases e34 : (b : Int) = 34
    · have Hf := Lib.hid (show escB s i = ((b : Int), (i : Int) + 1) by rw [HE0.out, if_pos (by omega)])
      obtain rfl : b = 34 := by omega
      clear e34
      go_enter Tryz.func126, Tryz.ntmps126
      go_wp2_with fail
      go_ret2
      exact ⟨by rw [Hf.out]; rfl, Below.refl _ _⟩
    · have f34 : ((b : Int) == 34) = false := beq_eq_false_iff_ne.2 e34
      by_cases e92 : (b : Int) = 92
      · have Hf := Lib.hid (show escB s i = ((b : Int), (i : Int) + 1) by rw [HE0.out, if_pos (by omega)])
        obtain rfl : b = 92 := by omega
        clear e92
        go_enter Tryz.func126, Tryz.ntmps126
        go_wp2_with fail
        go_ret2
        exact ⟨by rw [Hf.out]; rfl, Below.refl _ _⟩
      · have f92 : ((b : Int) == 92) = false := beq_eq_false_iff_ne.2 e92
        by_cases e47 : (b : Int) = 47
        · have Hf := Lib.hid (show escB s i = ((b : Int), (i : Int) + 1) by rw [HE0.out, if_pos (by omega)])
          obtain rfl : b = 47 := by omega
          clear e47
          go_enter Tryz.func126, Tryz.ntmps126
          go_wp2_with fail
          go_ret2
          exact ⟨by rw [Hf.out]; rfl, Below.refl _ _⟩
        · have f47 : ((b : Int) == 47) = false := beq_eq_false_iff_ne.2 e47
          by_cases e98 : (b : Int) = 98
          · have Hf := Lib.hid (show escB s i = (8, (i : Int) + 1) by rw [HE0.out, if_neg (by omega), if_pos e98])
            obtain rfl : b = 98 := by omega
            clear e98
            have hk : (({ data := #[8, 12, 10, 13, 9] } : ByteArray)[0]'(by decide)).toNat = 8 := rfl
            go_enter Tryz.func126, Tryz.ntmps126
            go_wp2_with fail
            refine (c_IndexEsc 98 (by omega) _).mono ?_
            rintro e w9 ⟨rfl, rfl⟩
            rw [show escI 98 = 0 from rfl]
            go_wp2_with fail
            go_ret2
            exact ⟨by rw [Hf.out]; rfl, Below.refl _ _⟩
          · have f98 : ((b : Int) == 98) = false := beq_eq_false_iff_ne.2 e98
            by_cases e102 : (b : Int) = 102
            · have Hf := Lib.hid (show escB s i = (12, (i : Int) + 1) by rw [HE0.out, if_neg (by omega), if_neg (by omega), if_pos e102])
              obtain rfl : b = 102 := by omega
              clear e102
              have hk : (({ data := #[8, 12, 10, 13, 9] } : ByteArray)[1]'(by decide)).toNat = 12 := rfl
              go_enter Tryz.func126, Tryz.ntmps126
              go_wp2_with fail
              refine (c_IndexEsc 102 (by omega) _).mono ?_
              rintro e w9 ⟨rfl, rfl⟩
              rw [show escI 102 = 1 from rfl]
              go_wp2_with fail
              go_ret2
              exact ⟨by rw [Hf.out]; rfl, Below.refl _ _⟩
            · have f102 : ((b : Int) == 102) = false := beq_eq_false_iff_ne.2 e102
              by_cases e110 : (b : Int) = 110
              · have Hf := Lib.hid (show escB s i = (10, (i : Int) + 1) by rw [HE0.out, if_neg (by omega), if_neg (by omega), if_neg (by omega), if_pos e110])
                obtain rfl : b = 110 := by omega
                clear e110
                have hk : (({ data := #[8, 12, 10, 13, 9] } : ByteArray)[2]'(by decide)).toNat = 10 := rfl
                go_enter Tryz.func126, Tryz.ntmps126
                go_wp2_with fail
                refine (c_IndexEsc 110 (by omega) _).mono ?_
                rintro e w9 ⟨rfl, rfl⟩
                rw [show escI 110 = 2 from rfl]
                go_wp2_with fail
                go_ret2
                exact ⟨by rw [Hf.out]; rfl, Below.refl _ _⟩
              · have f110 : ((b : Int) == 110) = false := beq_eq_false_iff_ne.2 e110
                by_cases e114 : (b : Int) = 114
                · have Hf := Lib.hid (show escB s i = (13, (i : Int) + 1) by rw [HE0.out, if_neg (by omega), if_neg (by omega), if_neg (by omega), if_neg (by omega), if_pos e114])
                  obtain rfl : b = 114 := by omega
                  clear e114
                  have hk : (({ data := #[8, 12, 10, 13, 9] } : ByteArray)[3]'(by decide)).toNat = 13 := rfl
                  go_enter Tryz.func126, Tryz.ntmps126
                  go_wp2_with fail
                  refine (c_IndexEsc 114 (by omega) _).mono ?_
                  rintro e w9 ⟨rfl, rfl⟩
                  rw [show escI 114 = 3 from rfl]
                  go_wp2_with fail
                  go_ret2
                  exact ⟨by rw [Hf.out]; rfl, Below.refl _ _⟩
                · have f114 : ((b : Int) == 114) = false := beq_eq_false_iff_ne.2 e114
                  by_cases e116 : (b : Int) = 116
                  · have Hf := Lib.hid (show escB s i = (9, (i : Int) + 1) by rw [HE0.out, if_neg (by omega), if_neg (by omega), if_neg (by omega), if_neg (by omega), if_neg (by omega), if_pos e116])
                    obtain rfl : b = 116 := by omega
                    clear e116
                    have hk : (({ data := #[8, 12, 10, 13, 9] } : ByteArray)[4]'(by decide)).toNat = 9 := rfl
                    go_enter Tryz.func126, Tryz.ntmps126
                    go_wp2_with fail
                    refine (c_IndexEsc 116 (by omega) _).mono ?_
                    rintro e w9 ⟨rfl, rfl⟩
                    rw [show escI 116 = 4 from rfl]
                    go_wp2_with fail
                    go_ret2
                    exact ⟨by rw [Hf.out]; rfl, Below.refl _ _⟩
                  · have f116 : ((b : Int) == 116) = false := beq_eq_false_iff_ne.2 e116
                    obtain ⟨p1, hp1⟩ : ∃ p, p = i + 1 := ⟨_, rfl⟩
                    have q1 : (i : Int) + 1 = p1 := by omega
                    have HP1 := Lib.hid hp1
                    obtain ⟨p5, hp5⟩ : ∃ p, p = i + 5 := ⟨_, rfl⟩
                    have q5 : (i : Int) + 5 = p5 := by omega
                    have HP5 := Lib.hid hp5
                    obtain ⟨p6, hp6⟩ : ∃ p, p = i + 6 := ⟨_, rfl⟩
                    have q6 : (i : Int) + 6 = p6 := by omega
                    have HP6 := Lib.hid hp6
                    obtain ⟨p7, hp7⟩ : ∃ p, p = i + 7 := ⟨_, rfl⟩
                    have q7 : (i : Int) + 7 = p7 := by omega
                    have HP7 := Lib.hid hp7
                    obtain ⟨p11, hp11⟩ : ∃ p, p = i + 11 := ⟨_, rfl⟩
                    have q11 : (i : Int) + 11 = p11 := by omega
                    have HP11 := Lib.hid hp11
                    have hpb : (p11 : Int) ≤ 1048588 := by omega
                    have hpc : (p7 : Int) ≤ 1048588 := by omega
                    have hpd : (p1 : Int) ≤ 1048588 := by omega
                    clear hp1 hp5 hp6 hp7 hp11
                    have HIX := Lib.hid (show escI b = -1 by unfold escI; rw [if_neg (by omega), if_neg (by omega), if_neg (by omega), if_neg (by omega), if_neg (by omega)])
                    by_cases e117 : (b : Int) = 117
                    · have HU := Lib.hid (show escB s i = _ by rw [HE0.out, if_neg (by omega), if_neg (by omega), if_neg (by omega), if_neg (by omega), if_neg (by omega), if_neg (by omega), if_pos e117])
                      obtain rfl : b = 117 := by omega
                      clear e117 HIX e34 e92 e47 e98 e102 e110 e114 e116 f34 f92 f47 f98 f102 f110 f114 f116
                      obtain ⟨n, hn⟩ : ∃ n, n = fourB s p1 := ⟨_, rfl⟩
                      have hnr := fourB_range s p1
                      rw [← hn] at hnr
                      obtain ⟨hn1, hn2⟩ := hnr
                      have HN := Lib.hid hn
                      clear hn
                      by_cases n0 : n < 0
                      · have Hf := Lib.hid (show escB s i = (0, -1) by rw [HU.out, ← HP1.out, ← HN.out]; exact if_pos (.inl n0))
                        have H4 := Lib.hid (four_no (show fourB s p1 < 0 by rw [← HN.out]; exact n0))
                        go_enter Tryz.func126, Tryz.ntmps126
                        go_wp2_with fail
                        refine (c_IndexEsc 117 (by omega) _).mono ?_
                        rintro e w9 ⟨rfl, rfl⟩
                        rw [show escI 117 = -1 from rfl]
                        go_wp2_with fail
                        refine (c_impl_fourDigits s p1 _ hs (by omega) HVT.out.1 HVT.out.2).mono ?_
                        rintro e w1 ⟨rfl, hb1⟩
                        have HB1 := Lib.hid hb1
                        clear hb1
                        rw [H4.out.1, H4.out.2]
                        go_wp2_with fail
                        go_ret2
                        exact ⟨by rw [Hf.out]; rfl, HB1.out⟩
                      · have d0 : decide (n < 0) = false := decide_eq_false n0
                        have hn0 : 0 ≤ n := by omega
                        have H4 := Lib.hid (four_yes HN.out.symm hn0)
                        rcases hB : inB n 56320 57343 with _ | _
                        · rcases hC : inB n 55296 56319 with _ | _
                          · have Hf := Lib.hid (show escB s i = (n, (p5 : Int)) by rw [HU.out, ← HP1.out, ← HN.out]; rw [← q5]; exact (if_neg (by rintro (h | h); exact n0 h; rw [hB] at h; exact absurd h (by decide))).trans (if_pos hC))
                            clear n0
                            go_enter Tryz.func126, Tryz.ntmps126
                            go_wp2_with fail
                            refine (c_IndexEsc 117 (by omega) _).mono ?_
                            rintro e w9 ⟨rfl, rfl⟩
                            rw [show escI 117 = -1 from rfl]
                            go_wp2_with fail
                            refine (c_impl_fourDigits s p1 _ hs (by omega) HVT.out.1 HVT.out.2).mono ?_
                            rintro e w1 ⟨rfl, hb1⟩
                            have HB1 := Lib.hid hb1
                            clear hb1
                            rw [H4.out.1, H4.out.2]
                            go_wp2_with (first | (go_at_call 113; refine (c_impl_within _ _ _ _).mono ?_; rintro e w' ⟨rfl, rfl⟩))
                            go_ret2
                            exact ⟨by rw [Hf.out]; rfl, HB1.out⟩
                          · have HV := Lib.hid (show escB s i = (if s.size < p7 ∨ byteI s p5 ≠ 92 ∨ byteI s p6 ≠ 117 then (0, -1) else if inB (fourB s p7) 56320 57343 = true then (65536 + 1024 * (n - 55296) + fourB s p7 - 56320, (p11 : Int)) else (0, -1)) by rw [HU.out, ← HP1.out, ← HN.out]; rw [← HP5.out, ← HP6.out, ← HP7.out, q11]; exact (if_neg (by rintro (h | h); exact n0 h; rw [hB] at h; exact absurd h (by decide))).trans (if_neg (by rw [hC]; decide)))
                            clear n0
                            have hnC : 55296 ≤ n ∧ n ≤ 56319 := by unfold inB at hC; simpa using hC
                            obtain ⟨hnC1, hnC2⟩ := hnC
                            obtain ⟨m, hm⟩ : ∃ m, m = fourB s p7 := ⟨_, rfl⟩
                            have hmr := fourB_range s p7
                            rw [← hm] at hmr
                            obtain ⟨hm1, hm2⟩ := hmr
                            have HM := Lib.hid hm
                            clear hm
                            by_cases m0 : m < 0
                            · have H7 := Lib.hid (four_no (show fourB s p7 < 0 by rw [← HM.out]; exact m0))
                              have Hf := Lib.hid (show escB s i = (0, -1) by rw [HV.out, ← HM.out]; split; rfl; exact if_neg (by unfold inB; rw [decide_eq_false (by omega)]; decide))
                              go_enter Tryz.func126, Tryz.ntmps126
                              go_wp2_with fail
                              refine (c_IndexEsc 117 (by omega) _).mono ?_
                              rintro e w9 ⟨rfl, rfl⟩
                              rw [show escI 117 = -1 from rfl]
                              go_wp2_with fail
                              refine (c_impl_fourDigits s p1 _ hs (by omega) HVT.out.1 HVT.out.2).mono ?_
                              rintro e w1 ⟨rfl, hb1⟩
                              have HB1 := Lib.hid hb1
                              clear hb1
                              rw [H4.out.1, H4.out.2]
                              go_wp2_with (first | (go_at_call 113; refine (c_impl_within _ _ _ _).mono ?_; rintro e w' ⟨rfl, rfl⟩))
                              refine (c_impl_fourDigits s p7 _ hs (by omega) (HVT.out.1.below HB1.out) (HVT.out.2.below HB1.out)).mono ?_
                              rintro e w2 ⟨rfl, hb2⟩
                              have HB2 := Lib.hid (HB1.out.trans (hb2.mono HB1.out.size))
                              clear hb2
                              rw [H7.out.1, H7.out.2]
                              go_wp2_with fail
                              go_ret2
                              exact ⟨by rw [Hf.out]; rfl, HB2.out⟩
                            · have hm0 : 0 ≤ m := by omega
                              have H7 := Lib.hid (four_yes HM.out.symm hm0)
                              have hfit := fourB_fits (show 0 ≤ fourB s p7 by rw [← HM.out]; exact hm0)
                              have g5 : p5 < s.size := by have := HP7.out; have := HP5.out; omega
                              have g6 : p6 < s.size := by have := HP7.out; have := HP6.out; omega
                              have g7 : ¬ s.size < p7 := by omega
                              have gi5 : (p5 : Int) < s.size := by omega
                              have gi6 : (p6 : Int) < s.size := by omega
                              obtain ⟨b5, hb5⟩ : ∃ b : Nat, b = (s.get! p5).toNat := ⟨_, rfl⟩
                              have hx5 : (s[p5]'g5).toNat = b5 := by rw [hb5]; exact get_at s p5 g5
                              obtain ⟨b6, hb6⟩ : ∃ b : Nat, b = (s.get! p6).toNat := ⟨_, rfl⟩
                              have hx6 : (s[p6]'g6).toNat = b6 := by rw [hb6]; exact get_at s p6 g6
                              have h5b : (b5 : Int) < 256 := by have := (s.get! p5).toNat_lt; omega
                              have h6b : (b6 : Int) < 256 := by have := (s.get! p6).toNat_lt; omega
                              have HB5 := Lib.hid (show byteI s p5 = b5 by unfold byteI; rw [hb5])
                              have HB6 := Lib.hid (show byteI s p6 = b6 by unfold byteI; rw [hb6])
                              have HD := Lib.hid g7
                              clear hb5 hb6 g7 hfit m0
                              by_cases e5 : (b5 : Int) = 92
                              · obtain rfl : b5 = 92 := by omega
                                clear e5
                                by_cases e6 : (b6 : Int) = 117
                                · obtain rfl : b6 = 117 := by omega
                                  clear e6
                                  have HW := Lib.hid (show escB s i = (if inB m 56320 57343 = true then (65536 + 1024 * (n - 55296) + m - 56320, (p11 : Int)) else (0, -1)) by rw [HV.out, ← HM.out]; exact if_neg (by rintro (h | h | h); exact HD.out h; exact h HB5.out; exact h HB6.out))
                                  rcases hG : inB m 56320 57343 with _ | _
                                  · have Hf := Lib.hid (show escB s i = (0, -1) by rw [HW.out]; exact if_neg (by rw [hG]; decide))
                                    go_enter Tryz.func126, Tryz.ntmps126
                                    go_wp2_with fail
                                    refine (c_IndexEsc 117 (by omega) _).mono ?_
                                    rintro e w9 ⟨rfl, rfl⟩
                                    rw [show escI 117 = -1 from rfl]
                                    go_wp2_with fail
                                    refine (c_impl_fourDigits s p1 _ hs (by omega) HVT.out.1 HVT.out.2).mono ?_
                                    rintro e w1 ⟨rfl, hb1⟩
                                    have HB1 := Lib.hid hb1
                                    clear hb1
                                    rw [H4.out.1, H4.out.2]
                                    go_wp2_with (first | (go_at_call 113; refine (c_impl_within _ _ _ _).mono ?_; rintro e w' ⟨rfl, rfl⟩))
                                    refine (c_impl_fourDigits s p7 _ hs (by omega) (HVT.out.1.below HB1.out) (HVT.out.2.below HB1.out)).mono ?_
                                    rintro e w2 ⟨rfl, hb2⟩
                                    have HB2 := Lib.hid (HB1.out.trans (hb2.mono HB1.out.size))
                                    clear hb2
                                    rw [H7.out.1, H7.out.2]
                                    go_wp2_with (first | (go_at_call 113; refine (c_impl_within _ _ _ _).mono ?_; rintro e w' ⟨rfl, rfl⟩))
                                    go_ret2
                                    exact ⟨by rw [Hf.out]; rfl, HB2.out⟩
                                  · have hmi : 56320 ≤ m ∧ m ≤ 57343 := by unfold inB at hG; simpa using hG
                                    have Hf := Lib.hid (show escB s i = (65536 + 1024 * (n - 55296) + (m - 56320), (p11 : Int)) by rw [HW.out, if_pos hG]; congr 1; omega)
                                    obtain ⟨hmi1, hmi2⟩ := hmi
                                    go_enter Tryz.func126, Tryz.ntmps126
                                    go_wp2_with fail
                                    refine (c_IndexEsc 117 (by omega) _).mono ?_
                                    rintro e w9 ⟨rfl, rfl⟩
                                    rw [show escI 117 = -1 from rfl]
                                    go_wp2_with fail
                                    refine (c_impl_fourDigits s p1 _ hs (by omega) HVT.out.1 HVT.out.2).mono ?_
                                    rintro e w1 ⟨rfl, hb1⟩
                                    have HB1 := Lib.hid hb1
                                    clear hb1
                                    rw [H4.out.1, H4.out.2]
                                    go_wp2_with (first | (go_at_call 113; refine (c_impl_within _ _ _ _).mono ?_; rintro e w' ⟨rfl, rfl⟩))
                                    refine (c_impl_fourDigits s p7 _ hs (by omega) (HVT.out.1.below HB1.out) (HVT.out.2.below HB1.out)).mono ?_
                                    rintro e w2 ⟨rfl, hb2⟩
                                    have HB2 := Lib.hid (HB1.out.trans (hb2.mono HB1.out.size))
                                    clear hb2
                                    rw [H7.out.1, H7.out.2]
                                    go_wp2_with (first | (go_at_call 113; refine (c_impl_within _ _ _ _).mono ?_; rintro e w' ⟨rfl, rfl⟩))
                                    go_ret2
                                    exact ⟨by rw [Hf.out]; rfl, HB2.out⟩
                                · have f6 : ((b6 : Int) == 117) = false := beq_eq_false_iff_ne.2 e6
                                  have n6 : ((b6 : Int) != 117) = true := bne_iff_ne.2 e6
                                  have Hf := Lib.hid (show escB s i = (0, -1) by rw [HV.out]; exact if_pos (.inr (.inr (by rw [HB6.out]; exact e6))))
                                  clear e6
                                  go_enter Tryz.func126, Tryz.ntmps126
                                  go_wp2_with fail
                                  refine (c_IndexEsc 117 (by omega) _).mono ?_
                                  rintro e w9 ⟨rfl, rfl⟩
                                  rw [show escI 117 = -1 from rfl]
                                  go_wp2_with fail
                                  refine (c_impl_fourDigits s p1 _ hs (by omega) HVT.out.1 HVT.out.2).mono ?_
                                  rintro e w1 ⟨rfl, hb1⟩
                                  have HB1 := Lib.hid hb1
                                  clear hb1
                                  rw [H4.out.1, H4.out.2]
                                  go_wp2_with (first | (go_at_call 113; refine (c_impl_within _ _ _ _).mono ?_; rintro e w' ⟨rfl, rfl⟩))
                                  refine (c_impl_fourDigits s p7 _ hs (by omega) (HVT.out.1.below HB1.out) (HVT.out.2.below HB1.out)).mono ?_
                                  rintro e w2 ⟨rfl, hb2⟩
                                  have HB2 := Lib.hid (HB1.out.trans (hb2.mono HB1.out.size))
                                  clear hb2
                                  rw [H7.out.1, H7.out.2]
                                  go_wp2_with fail
                                  go_ret2
                                  exact ⟨by rw [Hf.out]; rfl, HB2.out⟩
                              · have f5 : ((b5 : Int) == 92) = false := beq_eq_false_iff_ne.2 e5
                                have n5 : ((b5 : Int) != 92) = true := bne_iff_ne.2 e5
                                have Hf := Lib.hid (show escB s i = (0, -1) by rw [HV.out]; exact if_pos (.inr (.inl (by rw [HB5.out]; exact e5))))
                                clear e5
                                go_enter Tryz.func126, Tryz.ntmps126
                                go_wp2_with fail
                                refine (c_IndexEsc 117 (by omega) _).mono ?_
                                rintro e w9 ⟨rfl, rfl⟩
                                rw [show escI 117 = -1 from rfl]
                                go_wp2_with fail
                                refine (c_impl_fourDigits s p1 _ hs (by omega) HVT.out.1 HVT.out.2).mono ?_
                                rintro e w1 ⟨rfl, hb1⟩
                                have HB1 := Lib.hid hb1
                                clear hb1
                                rw [H4.out.1, H4.out.2]
                                go_wp2_with (first | (go_at_call 113; refine (c_impl_within _ _ _ _).mono ?_; rintro e w' ⟨rfl, rfl⟩))
                                refine (c_impl_fourDigits s p7 _ hs (by omega) (HVT.out.1.below HB1.out) (HVT.out.2.below HB1.out)).mono ?_
                                rintro e w2 ⟨rfl, hb2⟩
                                have HB2 := Lib.hid (HB1.out.trans (hb2.mono HB1.out.size))
                                clear hb2
                                rw [H7.out.1, H7.out.2]
                                go_wp2_with fail
                                go_ret2
                                exact ⟨by rw [Hf.out]; rfl, HB2.out⟩
                        · have Hf := Lib.hid (show escB s i = (0, -1) by rw [HU.out, ← HP1.out, ← HN.out]; exact if_pos (.inr hB))
                          clear n0
                          go_enter Tryz.func126, Tryz.ntmps126
                          go_wp2_with fail
                          refine (c_IndexEsc 117 (by omega) _).mono ?_
                          rintro e w9 ⟨rfl, rfl⟩
                          rw [show escI 117 = -1 from rfl]
                          go_wp2_with fail
                          refine (c_impl_fourDigits s p1 _ hs (by omega) HVT.out.1 HVT.out.2).mono ?_
                          rintro e w1 ⟨rfl, hb1⟩
                          have HB1 := Lib.hid hb1
                          clear hb1
                          rw [H4.out.1, H4.out.2]
                          go_wp2_with (first | (go_at_call 113; refine (c_impl_within _ _ _ _).mono ?_; rintro e w' ⟨rfl, rfl⟩))
                          go_ret2
                          exact ⟨by rw [Hf.out]; rfl, HB1.out⟩
                    · have Hf := Lib.hid (show escB s i = (0, -1) by rw [HE0.out, if_neg (by omega), if_neg (by omega), if_neg (by omega), if_neg (by omega), if_neg (by omega), if_neg (by omega), if_neg e117])
                      have f117 : ((b : Int) == 117) = false := beq_eq_false_iff_ne.2 e117
                      have n117 : ((b : Int) != 117) = true := bne_iff_ne.2 e117
                      clear e117 e34 e92 e47 e98 e102 e110 e114 e116
                      go_enter Tryz.func126, Tryz.ntmps126
                      go_wp2_with fail
                      refine (c_IndexEsc b (by omega) _).mono ?_
                      rintro e w9 ⟨rfl, rfl⟩
                      rw [show escI b = -1 from HIX.out]
                      go_wp2_with fail
                      refine (c_impl_fourDigits s p1 _ hs (by omega) HVT.out.1 HVT.out.2).mono ?_
                      rintro e w1 ⟨rfl, hb1⟩
                      have HB1 := Lib.hid hb1
                      clear hb1
                      go_wp2_with fail
                      go_ret2
                      exact ⟨by rw [Hf.out]; rfl, HB1.out⟩
  · have Hf := Lib.hid (show escB s i = (0, -1) by unfold escB; rw [if_neg (by omega)])
    go_enter Tryz.func126, Tryz.ntmps126
    go_wp2_with fail
    go_ret2
    exact ⟨by rw [Hf.out]; rfl, Below.refl _ _⟩
end Go.Proofs.YtffelpdefjkeaaaGreatDoor
namespace Go.Proofs.YtffelpdefjkeaaaGreatDoor
open Go.RowKit Go.Lib
set_option maxHeartbeats 1000000 in
theorem escB_next (s : ByteArray) (i : Nat) : ((escB s i).2 < 0 ∨ ((i : Int) < (escB s i).2 ∧ (escB s i).2 ≤ s.size)) ∧ 0 ≤ (escB s i).1 ∧ (escB s i).1 ≤ 1114111 := by
  have f1 := @fourB_fits s (i + 1)
  have f7 := @fourB_fits s (i + 7)
  have r1 := fourB_range s (i + 1)
  have r7 := fourB_range s (i + 7)
  have b0 := byteI_range s i
  obtain ⟨x, hx⟩ : ∃ x, x = escB s i := ⟨_, rfl⟩
  rw [← hx]
  unfold escB at hx
  by_cases c0 : i < s.size
  case neg => rw [if_neg c0] at hx; subst hx; simp only; omega
  rw [if_pos c0] at hx
  by_cases c1 : byteI s i = 34 ∨ byteI s i = 92 ∨ byteI s i = 47
  case pos => rw [if_pos c1] at hx; subst hx; simp only; omega
  rw [if_neg c1] at hx
  by_cases c2 : byteI s i = 98
  case pos => rw [if_pos c2] at hx; subst hx; simp only; omega
  rw [if_neg c2] at hx
  by_cases c3 : byteI s i = 102
  case pos => rw [if_pos c3] at hx; subst hx; simp only; omega
  rw [if_neg c3] at hx
  by_cases c4 : byteI s i = 110
  case pos => rw [if_pos c4] at hx; subst hx; simp only; omega
  rw [if_neg c4] at hx
  by_cases c5 : byteI s i = 114
  case pos => rw [if_pos c5] at hx; subst hx; simp only; omega
  rw [if_neg c5] at hx
  by_cases c6 : byteI s i = 116
  case pos => rw [if_pos c6] at hx; subst hx; simp only; omega
  rw [if_neg c6] at hx
  by_cases c7 : byteI s i = 117
  case neg => rw [if_neg c7] at hx; subst hx; simp only; omega
  rw [if_pos c7] at hx
  by_cases d1 : fourB s (i + 1) < 0 ∨ inB (fourB s (i + 1)) 56320 57343 = true
  case pos => rw [if_pos d1] at hx; subst hx; simp only; omega
  rw [if_neg d1] at hx
  have d0 := (not_or.1 d1).1
  have g1 := f1 (Int.not_lt.1 d0)
  by_cases d2 : inB (fourB s (i + 1)) 55296 56319 = false
  case pos => rw [if_pos d2] at hx; subst hx; simp only; omega
  rw [if_neg d2] at hx
  have e2 : 55296 ≤ fourB s (i + 1) ∧ fourB s (i + 1) ≤ 56319 := by unfold inB at d2; simpa using d2
  by_cases d3 : s.size < i + 7 ∨ byteI s (i + 5) ≠ 92 ∨ byteI s (i + 6) ≠ 117
  case pos => rw [if_pos d3] at hx; subst hx; simp only; omega
  rw [if_neg d3] at hx
  by_cases d4 : inB (fourB s (i + 7)) 56320 57343 = true
  case neg => rw [if_neg d4] at hx; subst hx; simp only; omega
  rw [if_pos d4] at hx
  have e4 : 56320 ≤ fourB s (i + 7) ∧ fourB s (i + 7) ≤ 57343 := by unfold inB at d4; simpa using d4
  have g7 := f7 (by omega)
  subst hx
  simp only
  omega
theorem runeB_next (s : ByteArray) (i : Nat) : ((runeB s i).2 < 0 ∨ ((i : Int) < (runeB s i).2 ∧ (runeB s i).2 ≤ s.size)) ∧ 0 ≤ (runeB s i).1 ∧ (runeB s i).1 ≤ 1114111 := by
  unfold runeB
  split
  · rename_i h
    have := decode_fits s i h
    split
    · simp only; omega
    · simp only; omega
  · simp only; omega
/-- One round: the rune at place j of a quoted text, and the place behind it; (0, -1). -/
def quotN (s : ByteArray) (j : Nat) : Int × Int :=
  if byteI s j = 92 then escB s (j + 1) else if (runeB s j).1 < 32 then (0, -1) else runeB s j
theorem quotN_next (s : ByteArray) (j : Nat) : ((quotN s j).2 < 0 ∨ ((j : Int) < (quotN s j).2 ∧ (quotN s j).2 ≤ s.size)) ∧ 0 ≤ (quotN s j).1 ∧ (quotN s j).1 ≤ 1114111 := by
  have h1 := escB_next s (j + 1)
  have h2 := runeB_next s j
  unfold quotN
  split
  · omega
  · split
    · simp only; omega
    · exact h2
def quotR (s : ByteArray) : Nat → Nat → List UInt8 → ByteArray × Int
  | 0, _, _ => (⟨#[]⟩, -1)
  | k + 1, j, acc => if j < s.size then (if byteI s j = 34 then (⟨acc.toArray⟩, (j : Int) + 1) else if (quotN s j).2 < 0 then (⟨#[]⟩, -1) else quotR s k (quotN s j).2.toNat (acc ++ (textB (quotN s j).1).data.toList)) else (⟨#[]⟩, -1)
theorem quotR_fuel (s : ByteArray) : ∀ (k l j : Nat) (acc : List UInt8), s.size - j ≤ k → s.size - j ≤ l → quotR s k j acc = quotR s l j acc
  | 0, 0, _, _, _, _ => rfl
  | 0, l + 1, j, acc, h, _ => by unfold quotR; rw [if_neg (by omega)]
  | k + 1, 0, j, acc, _, h => by unfold quotR; rw [if_neg (by omega)]
  | k + 1, l + 1, j, acc, h1, h2 => by
    unfold quotR
    split
    · split
      · rfl
      · split
        · rfl
        · have := (quotN_next s j).1
          exact quotR_fuel s k l _ _ (by omega) (by omega)
    · rfl
/-- The quoted text from place j on, acc gathered so far: its bytes, and the place behind its end. -/
def quotG (s : ByteArray) (j : Nat) (acc : List UInt8) : ByteArray × Int := quotR s (s.size - j) j acc
theorem quotG_end {s : ByteArray} {j : Nat} {acc : List UInt8} (h : ¬ j < s.size) : quotG s j acc = (⟨#[]⟩, -1) := by
  unfold quotG
  rw [show s.size - j = 0 by omega]
  rfl
theorem quotG_at {s : ByteArray} {j : Nat} {acc : List UInt8} (h : j < s.size) : quotG s j acc = if byteI s j = 34 then (⟨acc.toArray⟩, (j : Int) + 1) else if (quotN s j).2 < 0 then (⟨#[]⟩, -1) else quotG s (quotN s j).2.toNat (acc ++ (textB (quotN s j).1).data.toList) := by
  unfold quotG
  obtain ⟨k, hk⟩ : ∃ k, s.size - j = k + 1 := ⟨s.size - j - 1, by omega⟩
  rw [hk, quotR, if_pos h]
  split
  · rfl
  · split
    · rfl
    · have := (quotN_next s j).1
      exact quotR_fuel s _ _ _ _ (by omega) (by omega)
/-- The quoted text at place i; (empty, -1): there is none. -/
def quotB (s : ByteArray) (i : Nat) : ByteArray × Int := if i < s.size then (if byteI s i = 34 then quotG s (i + 1) [] else (⟨#[]⟩, -1)) else (⟨#[]⟩, -1)
end Go.Proofs.YtffelpdefjkeaaaGreatDoor
namespace Go.Proofs.YtffelpdefjkeaaaGreatDoor
open Go.RowKit Go.Lib
theorem textB_size (n : Int) : (textB n).size ≤ 4 := by
  rcases Int.lt_or_le n 0 with h | h
  · have : textB n = ⟨#[]⟩ := by
      unfold textB runeOkB
      rw [decide_eq_false (by omega)]
      rfl
    rw [this]
    decide
  · obtain ⟨m, rfl⟩ : ∃ m : Nat, n = m := ⟨n.toNat, by omega⟩
    have h1 := congrArg List.length (textB_list m)
    rw [List.length_map, Array.length_toList] at h1
    have h2 : (encN4 m).length ≤ 4 := by
      unfold encN4
      repeat' split
      all_goals simp
    rw [show (textB m).size = (textB m).data.size from rfl]
    omega
theorem own_string {w : World} {base n c : Nat} {A : Option Addr} {M : List UInt8} (hn : n = M.length)
    (h : w.ownsRow base 5 1 (.slice A n c) n (Lib.strCells ⟨M.toArray⟩)) :
    (convert 37 9 (.slice A n c)).run Tryz.prog w = .ok (.string ⟨M.toArray⟩) w := by
  subst hn
  rcases h.2 with ⟨h1, h2⟩ | ⟨g, cap, cur, h1, _⟩
  · obtain rfl : M = [] := List.eq_nil_of_length_eq_zero h2
    cases h1
    exact run_convert_nil_bytes w 37 9 5 0 Tryz.underlying37 Tryz.underlying5 Tryz.underlying9
  · have e1 : A = some ⟨g, 0, none⟩ := by cases h1; rfl
    subst e1
    exact run_convert_bytes_back w 37 9 5 ⟨g, 0, none⟩ c M Tryz.underlying37 Tryz.underlying5 Tryz.underlying9
      (fun j hj => h.cells rfl j _ (by simp [Lib.strCells, hj]))
theorem strCells_list (l : List UInt8) (t : ByteArray) : Lib.strCells ⟨l.toArray⟩ ++ Lib.strCells t = Lib.strCells ⟨(l ++ t.data.toList).toArray⟩ := by
  simp [Lib.strCells]
end Go.Proofs.YtffelpdefjkeaaaGreatDoor
namespace Go.Proofs.YtffelpdefjkeaaaGreatDoor
open Go.RowKit
structure SignD where
  kind : Int
  text : ByteArray
  num : Int
  at' : Int
/-- The kind of the sign at p; 0 behind the last one. -/
def kindAt (L : List SignD) (p : Nat) : Int := match L[p]? with | some x => x.kind | none => 0
/-- The place of the sign at p; the text's end behind the last one. -/
def placeAt (L : List SignD) (E : Int) (p : Nat) : Int := match L[p]? with | some x => x.at' | none => E
def badF (L : List SignD) (E : Int) (code : Int) (p : Nat) : Flt := ⟨code, placeAt L E p, ⟨#[]⟩⟩
def tNull : TreeD := ⟨1, false, 0, ⟨#[]⟩, [], []⟩
def tFlag (b : Bool) : TreeD := ⟨2, b, 0, ⟨#[]⟩, [], []⟩
def tInt (n : Int) : TreeD := ⟨3, false, n, ⟨#[]⟩, [], []⟩
def tText (s : ByteArray) : TreeD := ⟨4, false, 0, s, [], []⟩
def tList (l : List TreeD) : TreeD := ⟨5, false, 0, ⟨#[]⟩, [], l⟩
def tMap (ks : List ByteArray) (l : List TreeD) : TreeD := ⟨6, false, 0, ⟨#[]⟩, ks, l⟩
/-- How many keys ahead of key are less. -/
def posK (ks : List ByteArray) (key : ByteArray) : Nat := (ks.takeWhile fun k => lessS k key).length
def insL {D : Type} (l : List D) (i : Nat) (x : D) : List D := l.take i ++ x :: l.drop i
inductive Job where
  | value (deep : Nat)
  | list (deep : Nat) (acc : List TreeD)
  | pairs (deep : Nat) (ks : List ByteArray) (acc : List TreeD)
inductive Res where
  | bad (f : Flt)
  | good (t : TreeD) (p m : Nat)
/-- Reading with fuel: a job at the sign p, m values counted so far. -/
def readJ (L : List SignD) (E : Int) : Nat → Job → Nat → Nat → Res
  | 0, _, _, _ => .bad flt0
  | n + 1, .value d, p, m =>
    if ¬ (kindAt L p = 1 ∨ kindAt L p = 3 ∨ 7 ≤ kindAt L p) then .bad (badF L E 4 p)
    else if 8 < d then .bad (badF L E 6 p)
    else if 300 ≤ m then .bad (badF L E 7 p)
    else match L[p]? with
      | none => .bad flt0
      | some x =>
        if x.kind = 7 then (if 400 < x.text.size then .bad (badF L E 8 p) else .good (tText x.text) (p + 1) (m + 1))
        else if x.kind = 8 then .good (tInt x.num) (p + 1) (m + 1)
        else if x.kind = 11 then .good tNull (p + 1) (m + 1)
        else if x.kind = 3 then (if kindAt L (p + 1) = 4 then .good (tList []) (p + 2) (m + 1) else readJ L E n (.list d []) (p + 1) (m + 1))
        else if x.kind = 1 then (if kindAt L (p + 1) = 2 then .good (tMap [] []) (p + 2) (m + 1) else readJ L E n (.pairs d [] []) (p + 1) (m + 1))
        else .good (tFlag (x.kind == 9)) (p + 1) (m + 1)
  | n + 1, .list d acc, p, m => match readJ L E n (.value (d + 1)) p m with
    | .bad f => .bad f
    | .good t q m' =>
      if kindAt L q = 4 then .good (tList (acc ++ [t])) (q + 1) m'
      else if kindAt L q = 6 then readJ L E n (.list d (acc ++ [t])) (q + 1) m'
      else .bad (badF L E 4 q)
  | n + 1, .pairs d ks acc, p, m => match L[p]? with
    | none => .bad (badF L E 4 p)
    | some x =>
      if x.kind ≠ 7 then .bad (badF L E 4 p)
      else if 400 < x.text.size then .bad (badF L E 8 p)
      else if ks.contains x.text then .bad (badF L E 5 p)
      else if kindAt L (p + 1) ≠ 5 then .bad (badF L E 4 (p + 1))
      else match readJ L E n (.value (d + 1)) (p + 2) m with
        | .bad f => .bad f
        | .good t q m' =>
          if kindAt L q = 2 then .good (tMap (insL ks (posK ks x.text) x.text) (insL acc (posK ks x.text) t)) (q + 1) m'
          else if kindAt L q = 6 then readJ L E n (.pairs d (insL ks (posK ks x.text) x.text) (insL acc (posK ks x.text) t)) (q + 1) m'
          else .bad (badF L E 4 q)
/-- Reading all signs. -/
def readL (L : List SignD) (E : Int) : Flt × TreeD := match readJ L E (2 * L.length + 4) (.value 1) 0 0 with
  | .bad f => (f, ⟨0, false, 0, ⟨#[]⟩, [], []⟩)
  | .good t p _ => if p < L.length then (badF L E 4 p, ⟨0, false, 0, ⟨#[]⟩, [], []⟩) else (flt0, t)
end Go.Proofs.YtffelpdefjkeaaaGreatDoor
namespace Go.Proofs.YtffelpdefjkeaaaGreatDoor
open Go.RowKit
def decS (n : Int) : ByteArray := ⟨(Lib.itoa n).toArray⟩
theorem dec_len : ∀ (k u : Nat), u < 10 ^ (k + 1) → (Lib.decDigits u).length ≤ k + 1
  | 0, u, h => by
    rw [Lib.decDigits, dif_pos (by simpa using h)]
    simp
  | k + 1, u, h => by
    rw [Lib.decDigits]
    by_cases h10 : u < 10
    · rw [dif_pos h10]; simp
    · rw [dif_neg h10, List.length_append]
      have h2 : u / 10 < 10 ^ (k + 1) := by
        rw [Nat.div_lt_iff_lt_mul (by decide)]
        rw [Nat.pow_succ] at h
        exact h
      have := dec_len k (u / 10) h2
      simp
      omega
theorem decS_size (n : Int) (hn : -9223372036854775808 ≤ n ∧ n ≤ 9223372036854775807) : (decS n).size ≤ 20 := by
  show (Lib.itoa n).toArray.size ≤ 20
  rw [List.size_toArray]
  unfold Lib.itoa
  split
  · have := dec_len 18 n.natAbs (by omega)
    rw [List.length_cons]
    omega
  · have := dec_len 18 n.toNat (by omega)
    omega
theorem app_assoc (a b c : ByteArray) : a ++ b ++ c = a ++ (b ++ c) := ByteArray.append_assoc
theorem mkL_dec (u : Nat) (hu : 0 < u) (out : ByteArray) : mkL u out = ⟨(Lib.decDigits u).toArray⟩ ++ out := by
  induction u using Nat.strongRecOn generalizing out with
  | ind u ih =>
    rw [mkL_pos u out hu, Lib.decDigits]
    by_cases h : u < 10
    · rw [dif_pos h]
      have h0 : u / 10 = 0 := by omega
      rw [h0, mkL_zero]
      unfold digit
      rw [Nat.mod_eq_of_lt h]
    · rw [dif_neg h, ih (u / 10) (by omega) (by omega)]
      rw [← app_assoc]
      congr 1
theorem decS_zero : decS 0 = ⟨#[48]⟩ := by
  unfold decS Lib.itoa
  rw [if_neg (by decide)]
  unfold Lib.decDigits
  rfl
theorem decS_pos (u : Nat) (hu : 0 < u) : decS u = mkL u ⟨#[]⟩ := by
  rw [mkL_dec u hu]
  unfold decS Lib.itoa
  rw [if_neg (by omega)]
  apply ByteArray.ext
  simp
theorem decS_neg (u : Nat) (hu : 0 < u) : decS (-(u : Int)) = ⟨#[45]⟩ ++ mkL u ⟨#[]⟩ := by
  rw [mkL_dec u hu]
  unfold decS Lib.itoa
  rw [if_pos (by omega)]
  apply ByteArray.ext
  simp
theorem c_spec_l01Figure (r : Nat) (w : World) (hr : r < 10) :
    Calls Tryz.prog 119 #[.int .i64 (r : Nat)] w fun e w' => e = .returned (.int .u8 (48 + (r : Int))) ∧ w = w' := by
  have h1 : (r : Int) < 10 := by omega
  have h0 : (0 : Int) ≤ r := by omega
  go_enter Tryz.func119, Tryz.ntmps119
  go_wp2_with fail
  go_ret
  exact ⟨by first | rfl | (congr 2; omega), rfl⟩
theorem tmod_neg10 (j : Nat) : (-(j : Int)).tmod 10 = -((j % 10 : Nat) : Int) := by
  rw [Int.neg_tmod, Int.tmod_eq_emod_of_nonneg (by omega)]
  omega
theorem tdiv_neg10 (j : Nat) : (-(j : Int)).tdiv 10 = -((j / 10 : Nat) : Int) := by
  rw [Int.neg_tdiv, Int.tdiv_eq_ediv_of_nonneg (by omega)]
  omega
theorem figure_text (w : World) (j r : Nat) (hr : r = j % 10) : (convert 37 9 (.slice (some ⟨w.heap.size, 0, none⟩) 1 1)).run Tryz.prog (w.alloc (.cells #[.int .u8 (48 + (r : Int))] 5)) = .ok (.string (digit j)) (w.alloc (.cells #[.int .u8 (48 + (r : Int))] 5)) := by
  refine run_convert_bytes_back (P := Tryz.prog) _ 37 9 5 ⟨w.heap.size, 0, none⟩ 1 [UInt8.ofNat (48 + j % 10)] Tryz.underlying37 Tryz.underlying5 Tryz.underlying9 (fun i hi => ?_)
  obtain rfl : i = 0 := by simpa using hi
  have e : ((UInt8.ofNat (48 + j % 10)).toNat : Int) = 48 + (r : Int) := by
    rw [UInt8.toNat_ofNat']; omega
  have e2 : (⟨w.heap.size, 0, none⟩ : Addr).add 0 = ⟨w.heap.size, 0, none⟩ := rfl
  rw [e2, World.cell?_alloc_mark]
  simp only [List.getElem_cons_zero, e]
  rfl
set_option maxHeartbeats 1000000 in
set_option maxRecDepth 10000 in
theorem c_spec_Decimal (n : Int) (w : World) (hn : -9223372036854775808 ≤ n ∧ n ≤ 9223372036854775807) :
    Calls Tryz.prog 89 #[.int .i64 n] w fun e w' => e = .returned (.string (decS n)) ∧ Below w.heap.size w w' := by
  by_cases h0 : n = 0
  · subst h0
    have HZ := Lib.hid decS_zero
    go_enter Tryz.func89, Tryz.ntmps89
    go_wp2_with fail
    go_ret
    exact ⟨by rw [HZ.out]; rfl, Below.refl _ _⟩
  · by_cases hneg : n < 0
    · obtain ⟨u, rfl⟩ : ∃ u : Nat, n = -(u : Int) := ⟨n.natAbs, by omega⟩
      have hu : 0 < u := by omega
      have HD := Lib.hid (decS_neg u hu)
      obtain ⟨hn1, hn2⟩ := hn
      have h0b : (-(u : Int) == 0) = false := beq_eq_false_iff_ne.2 h0
      have hnb : decide (-(u : Int) < 0) = true := decide_eq_true hneg
      clear h0
      go_enter Tryz.func89, Tryz.ntmps89
      go_wp2_with fail
      go_loopw [0, 4] (fun s0 s4 wr => ∃ (j : Nat) (out : ByteArray), s0 = .int .i64 (-(j : Int)) ∧ s4 = .string out ∧ mkL j out = mkL u ⟨#[]⟩ ∧ out.size + j ≤ u ∧ (out.size = 0 ∨ out.size + j ≤ u / 10 + 1) ∧ Below w.heap.size w wr) (fun s0 _ _ => (intOf s0).natAbs)
      case atStart => exact ⟨u, ⟨#[]⟩, rfl, rfl, rfl, by show 0 + _ ≤ _; omega, .inl rfl, Below.refl _ _⟩
      case round =>
        obtain ⟨j, out, rfl, rfl, hm, hs, hs2, hbr⟩ := hrel
        have Hj := Lib.hid hm
        clear hm
        by_cases hj : 0 < j
        · have hj0 : (-(j : Int) != 0) = true := bne_iff_ne.2 (by omega)
          have hj1 : -9223372036854775808 ≤ -(j : Int) := by omega
          obtain ⟨r, hr⟩ : ∃ r, r = j % 10 := ⟨_, rfl⟩
          have h1 := tmod_neg10 j
          have h2 := tdiv_neg10 j
          rw [← hr] at h1
          have hr9 : r < 10 := by omega
          have hd1 : (digit j).size = 1 := rfl
          have Hn := Lib.hid (show mkL (j / 10) (digit j ++ out) = mkL u ⟨#[]⟩ by rw [← Hj.out, mkL_pos j out hj])
          have Hz := Lib.hid (show (digit j ++ out).size + j / 10 ≤ u ∧ ((digit j ++ out).size = 0 ∨ (digit j ++ out).size + j / 10 ≤ u / 10 + 1) by rw [ByteArray.size_append, hd1]; omega)
          have hcv := figure_text wr j r hr
          have hso : out.size ≤ 9223372036854775806 := by clear h1 h2; omega
          clear hr hs2
          by_cases hr0 : r = 0
          · subst hr0
            have hcv0 := hcv
            rw [show (48 + ((0 : Nat) : Int)) = 48 from rfl] at hcv0
            clear hcv
            go_wp2_with fail
            refine (c_spec_l01Figure 0 _ hr9).mono ?_
            rintro e w9 ⟨rfl, rfl⟩
            go_wp2_with fail
            go_roundw
            case rel => exact ⟨j / 10, digit j ++ out, by go_num, rfl, Hn.out, Hz.out.1, Hz.out.2, bel⟩
            case measure => simp [intOf]; omega
          · have hrn : -(r : Int) < 0 := by omega
            go_wp2_with fail
            refine (c_spec_l01Figure r _ hr9).mono ?_
            rintro e w9 ⟨rfl, rfl⟩
            go_wp2_with fail
            go_roundw
            case rel => exact ⟨j / 10, digit j ++ out, by go_num, rfl, Hn.out, Hz.out.1, Hz.out.2, bel⟩
            case measure => simp [intOf]; omega
        · obtain rfl : j = 0 := by omega
          have HO := Lib.hid (show decS (-(u : Int)) = ⟨#[45]⟩ ++ out by rw [HD.out, ← Hj.out, mkL_zero])
          have hso : out.size ≤ 9223372036854775806 := by omega
          go_wp2_with fail
          go_ret
          exact ⟨by rw [HO.out]; rfl, bel⟩
    · obtain ⟨u, rfl⟩ : ∃ u : Nat, n = (u : Int) := ⟨n.toNat, by omega⟩
      have hu : 0 < u := by omega
      have HD := Lib.hid (decS_pos u hu)
      obtain ⟨hn1, hn2⟩ := hn
      have h0b : ((u : Int) == 0) = false := beq_eq_false_iff_ne.2 h0
      have hnb : decide ((u : Int) < 0) = false := decide_eq_false hneg
      clear h0
      go_enter Tryz.func89, Tryz.ntmps89
      go_wp2_with fail
      go_loopw [0, 4] (fun s0 s4 wr => ∃ (j : Nat) (out : ByteArray), s0 = .int .i64 (j : Int) ∧ s4 = .string out ∧ mkL j out = mkL u ⟨#[]⟩ ∧ out.size + j ≤ u ∧ (out.size = 0 ∨ out.size + j ≤ u / 10 + 1) ∧ Below w.heap.size w wr) (fun s0 _ _ => (intOf s0).natAbs)
      case atStart => exact ⟨u, ⟨#[]⟩, rfl, rfl, rfl, by show 0 + _ ≤ _; omega, .inl rfl, Below.refl _ _⟩
      case round =>
        obtain ⟨j, out, rfl, rfl, hm, hs, hs2, hbr⟩ := hrel
        have Hj := Lib.hid hm
        clear hm
        by_cases hj : 0 < j
        · have hj0 : ((j : Int) != 0) = true := bne_iff_ne.2 (by omega)
          have hj2 : (0 : Int) ≤ j := by omega
          have hj3 : (j : Int) ≤ 9223372036854775807 := by omega
          have hr9 : j % 10 < 10 := by omega
          have hd1 : (digit j).size = 1 := rfl
          have Hn := Lib.hid (show mkL (j / 10) (digit j ++ out) = mkL u ⟨#[]⟩ by rw [← Hj.out, mkL_pos j out hj])
          have Hz := Lib.hid (show (digit j ++ out).size + j / 10 ≤ u ∧ ((digit j ++ out).size = 0 ∨ (digit j ++ out).size + j / 10 ≤ u / 10 + 1) by rw [ByteArray.size_append, hd1]; omega)
          have hcv := figure_text wr j (j % 10) rfl
          rw [show ((j % 10 : Nat) : Int) = (j : Int) % 10 from by omega] at hcv
          have hso : out.size ≤ 9223372036854775806 := by omega
          have hge : ¬ (j : Int) % 10 < 0 := by omega
          clear hs2
          go_wp2_with fail
          refine (c_spec_l01Figure (j % 10) _ hr9).mono ?_
          rintro e w9 ⟨rfl, rfl⟩
          go_wp2_with fail
          go_roundw
          case rel => exact ⟨j / 10, digit j ++ out, by go_num, rfl, Hn.out, Hz.out.1, Hz.out.2, bel⟩
          case measure => simp [intOf]; omega
        · obtain rfl : j = 0 := by omega
          have HO := Lib.hid (show decS (u : Int) = out by rw [HD.out, ← Hj.out, mkL_zero])
          go_wp2_with fail
          go_ret
          exact ⟨by rw [HO.out]; rfl, bel⟩
end Go.Proofs.YtffelpdefjkeaaaGreatDoor
namespace Go.Proofs.YtffelpdefjkeaaaGreatDoor
open Go.RowKit Go.Lib
def figB (c : UInt8) : Prop := 48 ≤ c.toNat ∧ c.toNat ≤ 57
def valL (acc : Nat) (l : List UInt8) : Nat := l.foldl (fun a c => a * 10 + (c.toNat - 48)) acc
theorem valL_nil (acc : Nat) : valL acc [] = acc := by unfold valL; rw [List.foldl_nil]
theorem valL_cons (acc : Nat) (c : UInt8) (r : List UInt8) : valL acc (c :: r) = valL (acc * 10 + (c.toNat - 48)) r := by unfold valL; rw [List.foldl_cons]
theorem valL_ge (l : List UInt8) (acc : Nat) : acc ≤ valL acc l := by
  induction l generalizing acc with
  | nil => rw [valL_nil]; exact Nat.le_refl _
  | cons c r ih =>
    have := ih (acc * 10 + (c.toNat - 48))
    rw [valL_cons]
    omega
theorem valL_app (l m : List UInt8) (acc : Nat) : valL acc (l ++ m) = valL (valL acc l) m := by unfold valL; rw [List.foldl_append]
theorem parse_figs (l : List UInt8) (acc : Nat) (hd : ∀ c ∈ l, figB c) (h : acc < 18446744073709551616) : parseUint10 acc l = if valL acc l < 18446744073709551616 then .ok (valL acc l) else .range := by
  induction l generalizing acc with
  | nil => rw [valL_nil, if_pos h, parseUint10]
  | cons c r ih =>
    have hc := hd c (by simp)
    unfold figB at hc
    have hge := valL_ge r (acc * 10 + (c.toNat - 48))
    rw [valL_cons, parseUint10, if_pos hc]
    by_cases h1 : 1844674407370955162 ≤ acc
    · rw [if_pos h1, if_neg (by omega)]
    · rw [if_neg h1]
      by_cases h2 : 18446744073709551616 ≤ acc * 10 + (c.toNat - 48)
      · rw [if_pos h2, if_neg (by omega)]
      · rw [if_neg h2]
        exact ih _ (fun x hx => hd x (by simp [hx])) (by omega)
theorem ofNat_fig {d : Nat} (h : d < 10) : (UInt8.ofNat (48 + d)).toNat = 48 + d := by
  rw [UInt8.toNat_ofNat']
  omega
theorem dec_figs (u : Nat) : ∀ c ∈ decDigits u, figB c := by
  induction u using Nat.strongRecOn with
  | ind u ih =>
    intro c hc
    rw [decDigits] at hc
    by_cases h : u < 10
    · rw [dif_pos h] at hc
      rw [List.mem_singleton] at hc
      subst hc
      unfold figB
      rw [ofNat_fig h]
      omega
    · rw [dif_neg h] at hc
      rcases List.mem_append.1 hc with hc | hc
      · exact ih (u / 10) (by omega) c hc
      · rw [List.mem_singleton] at hc
        subst hc
        unfold figB
        rw [ofNat_fig (Nat.mod_lt _ (by decide))]
        omega
theorem dec_val (u : Nat) : valL 0 (decDigits u) = u := by
  induction u using Nat.strongRecOn with
  | ind u ih =>
    rw [decDigits]
    by_cases h : u < 10
    · rw [dif_pos h]
      rw [valL_cons, valL_nil, ofNat_fig h]
      omega
    · rw [dif_neg h, valL_app, ih (u / 10) (by omega)]
      rw [valL_cons, valL_nil, ofNat_fig (Nat.mod_lt _ (by decide))]
      omega
theorem val_pos {c : UInt8} {r : List UInt8} (h : figB c) (h0 : c.toNat ≠ 48) : 1 ≤ valL 0 (c :: r) := by
  have := valL_ge r (0 * 10 + (c.toNat - 48))
  unfold figB at h
  rw [valL_cons]
  omega
/-- Figures without a needless 0 ahead are what is told of their number. -/
theorem dec_canon : ∀ (n : Nat) (l : List UInt8), l.length = n → l ≠ [] → (∀ c ∈ l, figB c) → (∀ c r, l = c :: r → r ≠ [] → c.toNat ≠ 48) → decDigits (valL 0 l) = l
  | 0, l, hn, h0, _, _ => absurd (List.eq_nil_of_length_eq_zero hn) h0
  | n + 1, l, hn, h0, hd, hz => by
    have hl := List.dropLast_concat_getLast h0
    obtain ⟨r, hr⟩ : ∃ r, r = l.dropLast := ⟨_, rfl⟩
    obtain ⟨c, hc⟩ : ∃ c, c = l.getLast h0 := ⟨_, rfl⟩
    rw [← hr, ← hc] at hl
    subst hl
    clear hr hc
    have hcf := hd c (by simp)
    unfold figB at hcf
    rw [valL_app, valL_cons, valL_nil]
    have hback : UInt8.ofNat (48 + (c.toNat - 48)) = c := by
      apply UInt8.toNat_inj.1
      rw [ofNat_fig (by omega)]
      omega
    rcases r with _ | ⟨x, r⟩
    · rw [valL_nil, decDigits, dif_pos (by omega)]
      simp only [List.nil_append]
      rw [show 0 * 10 + (c.toNat - 48) = c.toNat - 48 by omega, hback]
    · have hx := hz x (r ++ [c]) rfl (by simp)
      have hp := val_pos (r := r) (hd x (by simp)) hx
      have ih := dec_canon n (x :: r) (by simp at hn ⊢; omega) (by simp) (fun y hy => hd y (by simp at hy ⊢; rcases hy with h | h; exact .inl h; exact .inr (.inl h))) (fun y q e hq => by
        simp only [List.cons.injEq] at e
        obtain ⟨rfl, rfl⟩ := e
        exact hx)
      obtain ⟨v, hv⟩ : ∃ v, v = valL 0 (x :: r) := ⟨_, rfl⟩
      rw [← hv] at ih hp ⊢
      rw [decDigits, dif_neg (by omega), show (v * 10 + (c.toNat - 48)) / 10 = v by omega, show (v * 10 + (c.toNat - 48)) % 10 = c.toNat - 48 by omega, ih, hback]
/-- The number that a text tells in canonical figures. -/
def readI (s : ByteArray) : Option Nat := if valL 0 s.data.toList ≤ 9223372036854775807 ∧ decDigits (valL 0 s.data.toList) = s.data.toList then some (valL 0 s.data.toList) else none
theorem decS_nat (u : Nat) : decS (u : Int) = ⟨(decDigits u).toArray⟩ := by
  unfold decS itoa
  rw [if_neg (by omega)]
  rfl
theorem decS_list (u : Nat) : (decS (u : Int)).data.toList = decDigits u := by rw [decS_nat]
theorem readI_some {s : ByteArray} {u : Nat} (h : readI s = some u) : u ≤ 9223372036854775807 ∧ decS (u : Int) = s ∧ s.data.toList = decDigits u := by
  unfold readI at h
  split at h
  · rename_i hc
    injection h with h
    subst h
    exact ⟨hc.1, by rw [decS_nat, hc.2], hc.2.symm⟩
  · cases h
theorem readI_of {s : ByteArray} {u : Nat} (hu : u ≤ 9223372036854775807) (h : decS (u : Int) = s) : readI s = some u := by
  subst h
  unfold readI
  rw [decS_list, dec_val, if_pos ⟨hu, rfl⟩]
theorem readI_figs {s : ByteArray} {u : Nat} (h : readI s = some u) : ∀ c ∈ s.data.toList, figB c := by
  rw [(readI_some h).2.2]
  exact dec_figs u
theorem readI_len {s : ByteArray} {u : Nat} (h : readI s = some u) : s.size ≤ 19 ∧ 0 < s.size := by
  obtain ⟨h1, h2, h3⟩ := readI_some h
  have h4 := dec_len 18 u (by omega)
  have h5 : s.size = s.data.toList.length := by rw [Array.length_toList]; rfl
  rw [h5, h3]
  refine ⟨by omega, ?_⟩
  have := nDigits_pos u
  rw [decDigits_length]
  omega
end Go.Proofs.YtffelpdefjkeaaaGreatDoor
