/- Written by wip/tools/pack.py: the texts that FnBraced needs, without what it does not need. No conditions. -/
import Derived.Test.YtffelpdefjkeaaaGreatDoorKFnBraced4
import Derived.Lib.AppendStr
import Derived.Laws.IdiomStrings
import Derived.Lib.BufferRead
import Derived.Lib.MapLaws
namespace Go.Proofs.YtffelpdefjkeaaaGreatDoor
open Go.RowKit Go.Lib
/-- The place of a letter among b, f, n, r, t; -1. -/
def escI (b : Nat) : Int := if b = 98 then 0 else if b = 102 then 1 else if b = 110 then 2 else if b = 114 then 3 else if b = 116 then 4 else -1
set_option maxRecDepth 1000000 in
theorem idx_esc : ∀ i : Fin 256, Lib.indexByte [98, 102, 110, 114, 116] (UInt8.ofNat i.val) = escI i.val := by decide
theorem c_IndexEsc (b : Nat) (hb : b < 256) (w : World) : Calls Tryz.prog 65 #[.string { data := #[98, 102, 110, 114, 116] }, .int .u8 b] w fun e w' => e = .returned (.int .i64 (escI b)) ∧ w = w' := by
  have h := c_strings_IndexByte { data := #[98, 102, 110, 114, 116] } (UInt8.ofNat b) w
  have e1 : (UInt8.ofNat b).toNat = b := by rw [UInt8.toNat_ofNat']; exact Nat.mod_eq_of_lt hb
  rw [e1] at h
  exact h.mono (fun _ _ h => ⟨h.1.trans (congrArg (fun z => Ending.returned (Value.int .i64 z)) (idx_esc ⟨b, hb⟩)), h.2⟩)
theorem fourB_fits {s : ByteArray} {i : Nat} (h : 0 ≤ fourB s i) : i + 4 ≤ s.size := by
  unfold fourB at h
  split at h
  · assumption
  · omega
set_option maxHeartbeats 4000000 in
set_option maxRecDepth 20000 in
theorem c_impl_readEscape (s : ByteArray) (i : Nat) (w : World) (hs : s.size ≤ 1048576) (hi : i ≤ 1048577) (hV : CTab w) (hT : Tabs w) :
    Calls Tryz.prog 126 #[.string s, .int .i64 i] w fun e w' => e = .returned (.tuple #[.int .i64 (escB s i).1, .int .i64 (escB s i).2]) ∧ Below w.heap.size w w' := by
  have HVT := Lib.hid (And.intro hV hT)
  clear hV hT
  by_cases hlt : (i : Int) < s.size
  · have h0 : (0 : Int) ≤ i := by omega
    have h1 : decide ((s.size : Int) ≤ i) = false := decide_eq_false (by omega)
    have h2 : decide (s.size ≤ i) = false := decide_eq_false (by omega)
    have hii : i < s.size := by omega
    obtain ⟨b, hb⟩ : ∃ b : Nat, b = (s.get! i).toNat := ⟨_, rfl⟩
    have hx : (s[i]'hii).toNat = b := by rw [hb]; exact get_at s i hii
    have hb2 : (b : Int) < 256 := by have := (s.get! i).toNat_lt; omega
    have hby : byteI s i = b := by unfold byteI; rw [hb]
    clear hb
    have HE := Lib.hid (show escB s i = _ from if_pos hii)
    rw [hby] at HE
    have Hii := Lib.hid hii
    have HE0 := Lib.hid HE.out
    clear HE
    by_cases e34 : (b : Int) = 34
    · have Hf := Lib.hid (show escB s i = ((b : Int), (i : Int) + 1) by rw [HE0.out, if_pos (by omega)])
      obtain rfl : b = 34 := by omega
      clear e34
      go_enter Tryz.func126, Tryz.ntmps126
      go_wp2_with fail
      go_ret2
      exact ⟨by rw [Hf.out]; rfl, Below.refl _ _⟩
    · have f34 : ((b : Int) == 34) = false := beq_eq_false_iff_ne.2 e34
      by_cases e92 : (b : Int) = 92
      · have Hf := Lib.hid (show escB s i = ((b : Int), (i : Int) + 1) by rw [HE0.out, if_pos (by omega)])
        obtain rfl : b = 92 := by omega
        clear e92
        go_enter Tryz.func126, Tryz.ntmps126
        go_wp2_with fail
        go_ret2
        exact ⟨by rw [Hf.out]; rfl, Below.refl _ _⟩
      · have f92 : ((b : Int) == 92) = false := beq_eq_false_iff_ne.2 e92
        by_cases e47 : (b : Int) = 47
        · have Hf := Lib.hid (show escB s i = ((b : Int), (i : Int) + 1) by rw [HE0.out, if_pos (by omega)])
          obtain rfl : b = 47 := by omega
          clear e47
          go_enter Tryz.func126, Tryz.ntmps126
          go_wp2_with fail
          go_ret2
          exact ⟨by rw [Hf.out]; rfl, Below.refl _ _⟩
        · have f47 : ((b : Int) == 47) = false := beq_eq_false_iff_ne.2 e47
          by_cases e98 : (b : Int) = 98
          · have Hf := Lib.hid (show escB s i = (8, (i : Int) + 1) by rw [HE0.out, if_neg (by omega), if_pos e98])
            obtain rfl : b = 98 := by omega
            clear e98
            have hk : (({ data := #[8, 12, 10, 13, 9] } : ByteArray)[0]'(by decide)).toNat = 8 := rfl
            go_enter Tryz.func126, Tryz.ntmps126
            go_wp2_with fail
            refine (c_IndexEsc 98 (by omega) _).mono ?_
            rintro e w9 ⟨rfl, rfl⟩
            rw [show escI 98 = 0 from rfl]
            go_wp2_with fail
            go_ret2
            exact ⟨by rw [Hf.out]; rfl, Below.refl _ _⟩
          · have f98 : ((b : Int) == 98) = false := beq_eq_false_iff_ne.2 e98
            by_cases e102 : (b : Int) = 102
            · have Hf := Lib.hid (show escB s i = (12, (i : Int) + 1) by rw [HE0.out, if_neg (by omega), if_neg (by omega), if_pos e102])
              obtain rfl : b = 102 := by omega
              clear e102
              have hk : (({ data := #[8, 12, 10, 13, 9] } : ByteArray)[1]'(by decide)).toNat = 12 := rfl
              go_enter Tryz.func126, Tryz.ntmps126
              go_wp2_with fail
              refine (c_IndexEsc 102 (by omega) _).mono ?_
              rintro e w9 ⟨rfl, rfl⟩
              rw [show escI 102 = 1 from rfl]
              go_wp2_with fail
              go_ret2
              exact ⟨by rw [Hf.out]; rfl, Below.refl _ _⟩
            · have f102 : ((b : Int) == 102) = false := beq_eq_false_iff_ne.2 e102
              by_cases e110 : (b : Int) = 110
              · have Hf := Lib.hid (show escB s i = (10, (i : Int) + 1) by rw [HE0.out, if_neg (by omega), if_neg (by omega), if_neg (by omega), if_pos e110])
                obtain rfl : b = 110 := by omega
                clear e110
                have hk : (({ data := #[8, 12, 10, 13, 9] } : ByteArray)[2]'(by decide)).toNat = 10 := rfl
                go_enter Tryz.func126, Tryz.ntmps126
                go_wp2_with fail
                refine (c_IndexEsc 110 (by omega) _).mono ?_
                rintro e w9 ⟨rfl, rfl⟩
                rw [show escI 110 = 2 from rfl]
                go_wp2_with fail
                go_ret2
                exact ⟨by rw [Hf.out]; rfl, Below.refl _ _⟩
              · have f110 : ((b : Int) == 110) = false := beq_eq_false_iff_ne.2 e110
                by_cases e114 : (b : Int) = 114
                · have Hf := Lib.hid (show escB s i = (13, (i : Int) + 1) by rw [HE0.out, if_neg (by omega), if_neg (by omega), if_neg (by omega), if_neg (by omega), if_pos e114])
                  obtain rfl : b = 114 := by omega
                  clear e114
                  have hk : (({ data := #[8, 12, 10, 13, 9] } : ByteArray)[3]'(by decide)).toNat = 13 := rfl
                  go_enter Tryz.func126, Tryz.ntmps126
                  go_wp2_with fail
                  refine (c_IndexEsc 114 (by omega) _).mono ?_
                  rintro e w9 ⟨rfl, rfl⟩
                  rw [show escI 114 = 3 from rfl]
                  go_wp2_with fail
                  go_ret2
                  exact ⟨by rw [Hf.out]; rfl, Below.refl _ _⟩
                · have f114 : ((b : Int) == 114) = false := beq_eq_false_iff_ne.2 e114
                  by_cases e116 : (b : Int) = 116
                  · have Hf := Lib.hid (show escB s i = (9, (i : Int) + 1) by rw [HE0.out, if_neg (by omega), if_neg (by omega), if_neg (by omega), if_neg (by omega), if_neg (by omega), if_pos e116])
                    obtain rfl : b = 116 := by omega
                    clear e116
                    have hk : (({ data := #[8, 12, 10, 13, 9] } : ByteArray)[4]'(by decide)).toNat = 9 := rfl
                    go_enter Tryz.func126, Tryz.ntmps126
                    go_wp2_with fail
                    refine (c_IndexEsc 116 (by omega) _).mono ?_
                    rintro e w9 ⟨rfl, rfl⟩
                    rw [show escI 116 = 4 from rfl]
                    go_wp2_with fail
                    go_ret2
                    exact ⟨by rw [Hf.out]; rfl, Below.refl _ _⟩
                  · have f116 : ((b : Int) == 116) = false := beq_eq_false_iff_ne.2 e116
                    obtain ⟨p1, hp1⟩ : ∃ p, p = i + 1 := ⟨_, rfl⟩
                    have q1 : (i : Int) + 1 = p1 := by omega
                    have HP1 := Lib.hid hp1
                    obtain ⟨p5, hp5⟩ : ∃ p, p = i + 5 := ⟨_, rfl⟩
                    have q5 : (i : Int) + 5 = p5 := by omega
                    have HP5 := Lib.hid hp5
                    obtain ⟨p6, hp6⟩ : ∃ p, p = i + 6 := ⟨_, rfl⟩
                    have q6 : (i : Int) + 6 = p6 := by omega
                    have HP6 := Lib.hid hp6
                    obtain ⟨p7, hp7⟩ : ∃ p, p = i + 7 := ⟨_, rfl⟩
                    have q7 : (i : Int) + 7 = p7 := by omega
                    have HP7 := Lib.hid hp7
                    obtain ⟨p11, hp11⟩ : ∃ p, p = i + 11 := ⟨_, rfl⟩
                    have q11 : (i : Int) + 11 = p11 := by omega
                    have HP11 := Lib.hid hp11
                    have hpb : (p11 : Int) ≤ 1048588 := by omega
                    have hpc : (p7 : Int) ≤ 1048588 := by omega
                    have hpd : (p1 : Int) ≤ 1048588 := by omega
                    clear hp1 hp5 hp6 hp7 hp11
                    have HIX := Lib.hid (show escI b = -1 by unfold escI; rw [if_neg (by omega), if_neg (by omega), if_neg (by omega), if_neg (by omega), if_neg (by omega)])
                    by_cases e117 : (b : Int) = 117
                    · have HU := Lib.hid (show escB s i = _ by rw [HE0.out, if_neg (by omega), if_neg (by omega), if_neg (by omega), if_neg (by omega), if_neg (by omega), if_neg (by omega), if_pos e117])
                      obtain rfl : b = 117 := by omega
                      clear e117 HIX e34 e92 e47 e98 e102 e110 e114 e116 f34 f92 f47 f98 f102 f110 f114 f116
                      obtain ⟨n, hn⟩ : ∃ n, n = fourB s p1 := ⟨_, rfl⟩
                      have hnr := fourB_range s p1
                      rw [← hn] at hnr
                      obtain ⟨hn1, hn2⟩ := hnr
                      have HN := Lib.hid hn
                      clear hn
                      by_cases n0 : n < 0
                      · have Hf := Lib.hid (show escB s i = (0, -1) by rw [HU.out, ← HP1.out, ← HN.out]; exact if_pos (.inl n0))
                        have H4 := Lib.hid (four_no (show fourB s p1 < 0 by rw [← HN.out]; exact n0))
                        go_enter Tryz.func126, Tryz.ntmps126
                        go_wp2_with fail
                        refine (c_IndexEsc 117 (by omega) _).mono ?_
                        rintro e w9 ⟨rfl, rfl⟩
                        rw [show escI 117 = -1 from rfl]
                        go_wp2_with fail
                        refine (c_impl_fourDigits s p1 _ hs (by omega) HVT.out.1 HVT.out.2).mono ?_
                        rintro e w1 ⟨rfl, hb1⟩
                        have HB1 := Lib.hid hb1
                        clear hb1
                        rw [H4.out.1, H4.out.2]
                        go_wp2_with fail
                        go_ret2
                        exact ⟨by rw [Hf.out]; rfl, HB1.out⟩
                      · have d0 : decide (n < 0) = false := decide_eq_false n0
                        have hn0 : 0 ≤ n := by omega
                        have H4 := Lib.hid (four_yes HN.out.symm hn0)
                        rcases hB : inB n 56320 57343 with _ | _
                        · rcases hC : inB n 55296 56319 with _ | _
                          · have Hf := Lib.hid (show escB s i = (n, (p5 : Int)) by rw [HU.out, ← HP1.out, ← HN.out]; rw [← q5]; exact (if_neg (by rintro (h | h); exact n0 h; rw [hB] at h; exact absurd h (by decide))).trans (if_pos hC))
                            clear n0
                            go_enter Tryz.func126, Tryz.ntmps126
                            go_wp2_with fail
                            refine (c_IndexEsc 117 (by omega) _).mono ?_
                            rintro e w9 ⟨rfl, rfl⟩
                            rw [show escI 117 = -1 from rfl]
                            go_wp2_with fail
                            refine (c_impl_fourDigits s p1 _ hs (by omega) HVT.out.1 HVT.out.2).mono ?_
                            rintro e w1 ⟨rfl, hb1⟩
                            have HB1 := Lib.hid hb1
                            clear hb1
                            rw [H4.out.1, H4.out.2]
                            go_wp2_with (first | (go_at_call 113; refine (c_impl_within _ _ _ _).mono ?_; rintro e w' ⟨rfl, rfl⟩))
                            go_ret2
                            exact ⟨by rw [Hf.out]; rfl, HB1.out⟩
                          · have HV := Lib.hid (show escB s i = (if s.size < p7 ∨ byteI s p5 ≠ 92 ∨ byteI s p6 ≠ 117 then (0, -1) else if inB (fourB s p7) 56320 57343 = true then (65536 + 1024 * (n - 55296) + fourB s p7 - 56320, (p11 : Int)) else (0, -1)) by rw [HU.out, ← HP1.out, ← HN.out]; rw [← HP5.out, ← HP6.out, ← HP7.out, q11]; exact (if_neg (by rintro (h | h); exact n0 h; rw [hB] at h; exact absurd h (by decide))).trans (if_neg (by rw [hC]; decide)))
                            clear n0
                            have hnC : 55296 ≤ n ∧ n ≤ 56319 := by unfold inB at hC; simpa using hC
                            obtain ⟨hnC1, hnC2⟩ := hnC
                            obtain ⟨m, hm⟩ : ∃ m, m = fourB s p7 := ⟨_, rfl⟩
                            have hmr := fourB_range s p7
                            rw [← hm] at hmr
                            obtain ⟨hm1, hm2⟩ := hmr
                            have HM := Lib.hid hm
                            clear hm
                            by_cases m0 : m < 0
                            · have H7 := Lib.hid (four_no (show fourB s p7 < 0 by rw [← HM.out]; exact m0))
                              have Hf := Lib.hid (show escB s i = (0, -1) by rw [HV.out, ← HM.out]; split; rfl; exact if_neg (by unfold inB; rw [decide_eq_false (by omega)]; decide))
                              go_enter Tryz.func126, Tryz.ntmps126
                              go_wp2_with fail
                              refine (c_IndexEsc 117 (by omega) _).mono ?_
                              rintro e w9 ⟨rfl, rfl⟩
                              rw [show escI 117 = -1 from rfl]
                              go_wp2_with fail
                              refine (c_impl_fourDigits s p1 _ hs (by omega) HVT.out.1 HVT.out.2).mono ?_
                              rintro e w1 ⟨rfl, hb1⟩
                              have HB1 := Lib.hid hb1
                              clear hb1
                              rw [H4.out.1, H4.out.2]
                              go_wp2_with (first | (go_at_call 113; refine (c_impl_within _ _ _ _).mono ?_; rintro e w' ⟨rfl, rfl⟩))
                              refine (c_impl_fourDigits s p7 _ hs (by omega) (HVT.out.1.below HB1.out) (HVT.out.2.below HB1.out)).mono ?_
                              rintro e w2 ⟨rfl, hb2⟩
                              have HB2 := Lib.hid (HB1.out.trans (hb2.mono HB1.out.size))
                              clear hb2
                              rw [H7.out.1, H7.out.2]
                              go_wp2_with fail
                              go_ret2
                              exact ⟨by rw [Hf.out]; rfl, HB2.out⟩
                            · have hm0 : 0 ≤ m := by omega
                              have H7 := Lib.hid (four_yes HM.out.symm hm0)
                              have hfit := fourB_fits (show 0 ≤ fourB s p7 by rw [← HM.out]; exact hm0)
                              have g5 : p5 < s.size := by have := HP7.out; have := HP5.out; omega
                              have g6 : p6 < s.size := by have := HP7.out; have := HP6.out; omega
                              have g7 : ¬ s.size < p7 := by omega
                              have gi5 : (p5 : Int) < s.size := by omega
                              have gi6 : (p6 : Int) < s.size := by omega
                              obtain ⟨b5, hb5⟩ : ∃ b : Nat, b = (s.get! p5).toNat := ⟨_, rfl⟩
                              have hx5 : (s[p5]'g5).toNat = b5 := by rw [hb5]; exact get_at s p5 g5
                              obtain ⟨b6, hb6⟩ : ∃ b : Nat, b = (s.get! p6).toNat := ⟨_, rfl⟩
                              have hx6 : (s[p6]'g6).toNat = b6 := by rw [hb6]; exact get_at s p6 g6
                              have h5b : (b5 : Int) < 256 := by have := (s.get! p5).toNat_lt; omega
                              have h6b : (b6 : Int) < 256 := by have := (s.get! p6).toNat_lt; omega
                              have HB5 := Lib.hid (show byteI s p5 = b5 by unfold byteI; rw [hb5])
                              have HB6 := Lib.hid (show byteI s p6 = b6 by unfold byteI; rw [hb6])
                              have HD := Lib.hid g7
                              clear hb5 hb6 g7 hfit m0
                              by_cases e5 : (b5 : Int) = 92
                              · obtain rfl : b5 = 92 := by omega
                                clear e5
                                by_cases e6 : (b6 : Int) = 117
                                · obtain rfl : b6 = 117 := by omega
                                  clear e6
                                  have HW := Lib.hid (show escB s i = (if inB m 56320 57343 = true then (65536 + 1024 * (n - 55296) + m - 56320, (p11 : Int)) else (0, -1)) by rw [HV.out, ← HM.out]; exact if_neg (by rintro (h | h | h); exact HD.out h; exact h HB5.out; exact h HB6.out))
                                  rcases hG : inB m 56320 57343 with _ | _
                                  · have Hf := Lib.hid (show escB s i = (0, -1) by rw [HW.out]; exact if_neg (by rw [hG]; decide))
                                    go_enter Tryz.func126, Tryz.ntmps126
                                    go_wp2_with fail
                                    refine (c_IndexEsc 117 (by omega) _).mono ?_
                                    rintro e w9 ⟨rfl, rfl⟩
                                    rw [show escI 117 = -1 from rfl]
                                    go_wp2_with fail
                                    refine (c_impl_fourDigits s p1 _ hs (by omega) HVT.out.1 HVT.out.2).mono ?_
                                    rintro e w1 ⟨rfl, hb1⟩
                                    have HB1 := Lib.hid hb1
                                    clear hb1
                                    rw [H4.out.1, H4.out.2]
                                    go_wp2_with (first | (go_at_call 113; refine (c_impl_within _ _ _ _).mono ?_; rintro e w' ⟨rfl, rfl⟩))
                                    refine (c_impl_fourDigits s p7 _ hs (by omega) (HVT.out.1.below HB1.out) (HVT.out.2.below HB1.out)).mono ?_
                                    rintro e w2 ⟨rfl, hb2⟩
                                    have HB2 := Lib.hid (HB1.out.trans (hb2.mono HB1.out.size))
                                    clear hb2
                                    rw [H7.out.1, H7.out.2]
                                    go_wp2_with (first | (go_at_call 113; refine (c_impl_within _ _ _ _).mono ?_; rintro e w' ⟨rfl, rfl⟩))
                                    go_ret2
                                    exact ⟨by rw [Hf.out]; rfl, HB2.out⟩
                                  · have hmi : 56320 ≤ m ∧ m ≤ 57343 := by unfold inB at hG; simpa using hG
                                    have Hf := Lib.hid (show escB s i = (65536 + 1024 * (n - 55296) + (m - 56320), (p11 : Int)) by rw [HW.out, if_pos hG]; congr 1; omega)
                                    obtain ⟨hmi1, hmi2⟩ := hmi
                                    go_enter Tryz.func126, Tryz.ntmps126
                                    go_wp2_with fail
                                    refine (c_IndexEsc 117 (by omega) _).mono ?_
                                    rintro e w9 ⟨rfl, rfl⟩
                                    rw [show escI 117 = -1 from rfl]
                                    go_wp2_with fail
                                    refine (c_impl_fourDigits s p1 _ hs (by omega) HVT.out.1 HVT.out.2).mono ?_
                                    rintro e w1 ⟨rfl, hb1⟩
                                    have HB1 := Lib.hid hb1
                                    clear hb1
                                    rw [H4.out.1, H4.out.2]
                                    go_wp2_with (first | (go_at_call 113; refine (c_impl_within _ _ _ _).mono ?_; rintro e w' ⟨rfl, rfl⟩))
                                    refine (c_impl_fourDigits s p7 _ hs (by omega) (HVT.out.1.below HB1.out) (HVT.out.2.below HB1.out)).mono ?_
                                    rintro e w2 ⟨rfl, hb2⟩
                                    have HB2 := Lib.hid (HB1.out.trans (hb2.mono HB1.out.size))
                                    clear hb2
                                    rw [H7.out.1, H7.out.2]
                                    go_wp2_with (first | (go_at_call 113; refine (c_impl_within _ _ _ _).mono ?_; rintro e w' ⟨rfl, rfl⟩))
                                    go_ret2
                                    exact ⟨by rw [Hf.out]; rfl, HB2.out⟩
                                · have f6 : ((b6 : Int) == 117) = false := beq_eq_false_iff_ne.2 e6
                                  have n6 : ((b6 : Int) != 117) = true := bne_iff_ne.2 e6
                                  have Hf := Lib.hid (show escB s i = (0, -1) by rw [HV.out]; exact if_pos (.inr (.inr (by rw [HB6.out]; exact e6))))
                                  clear e6
                                  go_enter Tryz.func126, Tryz.ntmps126
                                  go_wp2_with fail
                                  refine (c_IndexEsc 117 (by omega) _).mono ?_
                                  rintro e w9 ⟨rfl, rfl⟩
                                  rw [show escI 117 = -1 from rfl]
                                  go_wp2_with fail
                                  refine (c_impl_fourDigits s p1 _ hs (by omega) HVT.out.1 HVT.out.2).mono ?_
                                  rintro e w1 ⟨rfl, hb1⟩
                                  have HB1 := Lib.hid hb1
                                  clear hb1
                                  rw [H4.out.1, H4.out.2]
                                  go_wp2_with (first | (go_at_call 113; refine (c_impl_within _ _ _ _).mono ?_; rintro e w' ⟨rfl, rfl⟩))
                                  refine (c_impl_fourDigits s p7 _ hs (by omega) (HVT.out.1.below HB1.out) (HVT.out.2.below HB1.out)).mono ?_
                                  rintro e w2 ⟨rfl, hb2⟩
                                  have HB2 := Lib.hid (HB1.out.trans (hb2.mono HB1.out.size))
                                  clear hb2
                                  rw [H7.out.1, H7.out.2]
                                  go_wp2_with fail
                                  go_ret2
                                  exact ⟨by rw [Hf.out]; rfl, HB2.out⟩
                              · have f5 : ((b5 : Int) == 92) = false := beq_eq_false_iff_ne.2 e5
                                have n5 : ((b5 : Int) != 92) = true := bne_iff_ne.2 e5
                                have Hf := Lib.hid (show escB s i = (0, -1) by rw [HV.out]; exact if_pos (.inr (.inl (by rw [HB5.out]; exact e5))))
                                clear e5
                                go_enter Tryz.func126, Tryz.ntmps126
                                go_wp2_with fail
                                refine (c_IndexEsc 117 (by omega) _).mono ?_
                                rintro e w9 ⟨rfl, rfl⟩
                                rw [show escI 117 = -1 from rfl]
                                go_wp2_with fail
                                refine (c_impl_fourDigits s p1 _ hs (by omega) HVT.out.1 HVT.out.2).mono ?_
                                rintro e w1 ⟨rfl, hb1⟩
                                have HB1 := Lib.hid hb1
                                clear hb1
                                rw [H4.out.1, H4.out.2]
                                go_wp2_with (first | (go_at_call 113; refine (c_impl_within _ _ _ _).mono ?_; rintro e w' ⟨rfl, rfl⟩))
                                refine (c_impl_fourDigits s p7 _ hs (by omega) (HVT.out.1.below HB1.out) (HVT.out.2.below HB1.out)).mono ?_
                                rintro e w2 ⟨rfl, hb2⟩
                                have HB2 := Lib.hid (HB1.out.trans (hb2.mono HB1.out.size))
                                clear hb2
                                rw [H7.out.1, H7.out.2]
                                go_wp2_with fail
                                go_ret2
                                exact ⟨by rw [Hf.out]; rfl, HB2.out⟩
                        · have Hf := Lib.hid (show escB s i = (0, -1) by rw [HU.out, ← HP1.out, ← HN.out]; exact if_pos (.inr hB))
                          clear n0
                          go_enter Tryz.func126, Tryz.ntmps126
                          go_wp2_with fail
                          refine (c_IndexEsc 117 (by omega) _).mono ?_
                          rintro e w9 ⟨rfl, rfl⟩
                          rw [show escI 117 = -1 from rfl]
                          go_wp2_with fail
                          refine (c_impl_fourDigits s p1 _ hs (by omega) HVT.out.1 HVT.out.2).mono ?_
                          rintro e w1 ⟨rfl, hb1⟩
                          have HB1 := Lib.hid hb1
                          clear hb1
                          rw [H4.out.1, H4.out.2]
                          go_wp2_with (first | (go_at_call 113; refine (c_impl_within _ _ _ _).mono ?_; rintro e w' ⟨rfl, rfl⟩))
                          go_ret2
                          exact ⟨by rw [Hf.out]; rfl, HB1.out⟩
                    · have Hf := Lib.hid (show escB s i = (0, -1) by rw [HE0.out, if_neg (by omega), if_neg (by omega), if_neg (by omega), if_neg (by omega), if_neg (by omega), if_neg (by omega), if_neg e117])
                      have f117 : ((b : Int) == 117) = false := beq_eq_false_iff_ne.2 e117
                      have n117 : ((b : Int) != 117) = true := bne_iff_ne.2 e117
                      clear e117 e34 e92 e47 e98 e102 e110 e114 e116
                      go_enter Tryz.func126, Tryz.ntmps126
                      go_wp2_with fail
                      refine (c_IndexEsc b (by omega) _).mono ?_
                      rintro e w9 ⟨rfl, rfl⟩
                      rw [show escI b = -1 from HIX.out]
                      go_wp2_with fail
                      refine (c_impl_fourDigits s p1 _ hs (by omega) HVT.out.1 HVT.out.2).mono ?_
                      rintro e w1 ⟨rfl, hb1⟩
                      have HB1 := Lib.hid hb1
                      clear hb1
                      go_wp2_with fail
                      go_ret2
                      exact ⟨by rw [Hf.out]; rfl, HB1.out⟩
  · have Hf := Lib.hid (show escB s i = (0, -1) by unfold escB; rw [if_neg (by omega)])
    go_enter Tryz.func126, Tryz.ntmps126
    go_wp2_with fail
    go_ret2
    exact ⟨by rw [Hf.out]; rfl, Below.refl _ _⟩
end Go.Proofs.YtffelpdefjkeaaaGreatDoor
namespace Go.Proofs.YtffelpdefjkeaaaGreatDoor
open Go.RowKit Go.Lib
set_option maxHeartbeats 1000000 in
theorem escB_next (s : ByteArray) (i : Nat) : ((escB s i).2 < 0 ∨ ((i : Int) < (escB s i).2 ∧ (escB s i).2 ≤ s.size)) ∧ 0 ≤ (escB s i).1 ∧ (escB s i).1 ≤ 1114111 := by
  have f1 := @fourB_fits s (i + 1)
  have f7 := @fourB_fits s (i + 7)
  have r1 := fourB_range s (i + 1)
  have r7 := fourB_range s (i + 7)
  have b0 := byteI_range s i
  obtain ⟨x, hx⟩ : ∃ x, x = escB s i := ⟨_, rfl⟩
  rw [← hx]
  unfold escB at hx
  by_cases c0 : i < s.size
  case neg => rw [if_neg c0] at hx; subst hx; simp only; omega
  rw [if_pos c0] at hx
  by_cases c1 : byteI s i = 34 ∨ byteI s i = 92 ∨ byteI s i = 47
  case pos => rw [if_pos c1] at hx; subst hx; simp only; omega
  rw [if_neg c1] at hx
  by_cases c2 : byteI s i = 98
  case pos => rw [if_pos c2] at hx; subst hx; simp only; omega
  rw [if_neg c2] at hx
  by_cases c3 : byteI s i = 102
  case pos => rw [if_pos c3] at hx; subst hx; simp only; omega
  rw [if_neg c3] at hx
  by_cases c4 : byteI s i = 110
  case pos => rw [if_pos c4] at hx; subst hx; simp only; omega
  rw [if_neg c4] at hx
  by_cases c5 : byteI s i = 114
  case pos => rw [if_pos c5] at hx; subst hx; simp only; omega
  rw [if_neg c5] at hx
  by_cases c6 : byteI s i = 116
  case pos => rw [if_pos c6] at hx; subst hx; simp only; omega
  rw [if_neg c6] at hx
  by_cases c7 : byteI s i = 117
  case neg => rw [if_neg c7] at hx; subst hx; simp only; omega
  rw [if_pos c7] at hx
  by_cases d1 : fourB s (i + 1) < 0 ∨ inB (fourB s (i + 1)) 56320 57343 = true
  case pos => rw [if_pos d1] at hx; subst hx; simp only; omega
  rw [if_neg d1] at hx
  have d0 := (not_or.1 d1).1
  have g1 := f1 (Int.not_lt.1 d0)
  by_cases d2 : inB (fourB s (i + 1)) 55296 56319 = false
  case pos => rw [if_pos d2] at hx; subst hx; simp only; omega
  rw [if_neg d2] at hx
  have e2 : 55296 ≤ fourB s (i + 1) ∧ fourB s (i + 1) ≤ 56319 := by unfold inB at d2; simpa using d2
  by_cases d3 : s.size < i + 7 ∨ byteI s (i + 5) ≠ 92 ∨ byteI s (i + 6) ≠ 117
  case pos => rw [if_pos d3] at hx; subst hx; simp only; omega
  rw [if_neg d3] at hx
  by_cases d4 : inB (fourB s (i + 7)) 56320 57343 = true
  case neg => rw [if_neg d4] at hx; subst hx; simp only; omega
  rw [if_pos d4] at hx
  have e4 : 56320 ≤ fourB s (i + 7) ∧ fourB s (i + 7) ≤ 57343 := by unfold inB at d4; simpa using d4
  have g7 := f7 (by omega)
  subst hx
  simp only
  omega
theorem runeB_next (s : ByteArray) (i : Nat) : ((runeB s i).2 < 0 ∨ ((i : Int) < (runeB s i).2 ∧ (runeB s i).2 ≤ s.size)) ∧ 0 ≤ (runeB s i).1 ∧ (runeB s i).1 ≤ 1114111 := by
  unfold runeB
  split
  · rename_i h
    have := decode_fits s i h
    split
    · simp only; omega
    · simp only; omega
  · simp only; omega
/-- One round: the rune at place j of a quoted text, and the place behind it; (0, -1). -/
def quotN (s : ByteArray) (j : Nat) : Int × Int :=
  if byteI s j = 92 then escB s (j + 1) else if (runeB s j).1 < 32 then (0, -1) else runeB s j
theorem quotN_next (s : ByteArray) (j : Nat) : ((quotN s j).2 < 0 ∨ ((j : Int) < (quotN s j).2 ∧ (quotN s j).2 ≤ s.size)) ∧ 0 ≤ (quotN s j).1 ∧ (quotN s j).1 ≤ 1114111 := by
  have h1 := escB_next s (j + 1)
  have h2 := runeB_next s j
  unfold quotN
  split
  · omega
  · split
    · simp only; omega
    · exact h2
def quotR (s : ByteArray) : Nat → Nat → List UInt8 → ByteArray × Int
  | 0, _, _ => (⟨#[]⟩, -1)
  | k + 1, j, acc => if j < s.size then (if byteI s j = 34 then (⟨acc.toArray⟩, (j : Int) + 1) else if (quotN s j).2 < 0 then (⟨#[]⟩, -1) else quotR s k (quotN s j).2.toNat (acc ++ (textB (quotN s j).1).data.toList)) else (⟨#[]⟩, -1)
theorem quotR_fuel (s : ByteArray) : ∀ (k l j : Nat) (acc : List UInt8), s.size - j ≤ k → s.size - j ≤ l → quotR s k j acc = quotR s l j acc
  | 0, 0, _, _, _, _ => rfl
  | 0, l + 1, j, acc, h, _ => by unfold quotR; rw [if_neg (by omega)]
  | k + 1, 0, j, acc, _, h => by unfold quotR; rw [if_neg (by omega)]
  | k + 1, l + 1, j, acc, h1, h2 => by
    unfold quotR
    split
    · split
      · rfl
      · split
        · rfl
        · have := (quotN_next s j).1
          exact quotR_fuel s k l _ _ (by omega) (by omega)
    · rfl
/-- The quoted text from place j on, acc gathered so far: its bytes, and the place behind its end. -/
def quotG (s : ByteArray) (j : Nat) (acc : List UInt8) : ByteArray × Int := quotR s (s.size - j) j acc
theorem quotG_end {s : ByteArray} {j : Nat} {acc : List UInt8} (h : ¬ j < s.size) : quotG s j acc = (⟨#[]⟩, -1) := by
  unfold quotG
  rw [show s.size - j = 0 by omega]
  rfl
theorem quotG_at {s : ByteArray} {j : Nat} {acc : List UInt8} (h : j < s.size) : quotG s j acc = if byteI s j = 34 then (⟨acc.toArray⟩, (j : Int) + 1) else if (quotN s j).2 < 0 then (⟨#[]⟩, -1) else quotG s (quotN s j).2.toNat (acc ++ (textB (quotN s j).1).data.toList) := by
  unfold quotG
  obtain ⟨k, hk⟩ : ∃ k, s.size - j = k + 1 := ⟨s.size - j - 1, by omega⟩
  rw [hk, quotR, if_pos h]
  split
  · rfl
  · split
    · rfl
    · have := (quotN_next s j).1
      exact quotR_fuel s _ _ _ _ (by omega) (by omega)
/-- The quoted text at place i; (empty, -1): there is none. -/
def quotB (s : ByteArray) (i : Nat) : ByteArray × Int := if i < s.size then (if byteI s i = 34 then quotG s (i + 1) [] else (⟨#[]⟩, -1)) else (⟨#[]⟩, -1)
end Go.Proofs.YtffelpdefjkeaaaGreatDoor
namespace Go.Proofs.YtffelpdefjkeaaaGreatDoor
open Go.RowKit Go.Lib
theorem textB_size (n : Int) : (textB n).size ≤ 4 := by
  rcases Int.lt_or_le n 0 with h | h
  · have : textB n = ⟨#[]⟩ := by
      unfold textB runeOkB
      rw [decide_eq_false (by omega)]
      rfl
    rw [this]
    decide
  · obtain ⟨m, rfl⟩ : ∃ m : Nat, n = m := ⟨n.toNat, by omega⟩
    have h1 := congrArg List.length (textB_list m)
    rw [List.length_map, Array.length_toList] at h1
    have h2 : (encN4 m).length ≤ 4 := by
      unfold encN4
      repeat' split
      all_goals simp
    rw [show (textB m).size = (textB m).data.size from rfl]
    omega
theorem own_string {w : World} {base n c : Nat} {A : Option Addr} {M : List UInt8} (hn : n = M.length)
    (h : w.ownsRow base 5 1 (.slice A n c) n (Lib.strCells ⟨M.toArray⟩)) :
    (convert 37 9 (.slice A n c)).run Tryz.prog w = .ok (.string ⟨M.toArray⟩) w := by
  subst hn
  rcases h.2 with ⟨h1, h2⟩ | ⟨g, cap, cur, h1, _⟩
  · obtain rfl : M = [] := List.eq_nil_of_length_eq_zero h2
    cases h1
    exact run_convert_nil_bytes w 37 9 5 0 Tryz.underlying37 Tryz.underlying5 Tryz.underlying9
  · have e1 : A = some ⟨g, 0, none⟩ := by cases h1; rfl
    subst e1
    exact run_convert_bytes_back w 37 9 5 ⟨g, 0, none⟩ c M Tryz.underlying37 Tryz.underlying5 Tryz.underlying9
      (fun j hj => h.cells rfl j _ (by simp [Lib.strCells, hj]))
theorem strCells_list (l : List UInt8) (t : ByteArray) : Lib.strCells ⟨l.toArray⟩ ++ Lib.strCells t = Lib.strCells ⟨(l ++ t.data.toList).toArray⟩ := by
  simp [Lib.strCells]
end Go.Proofs.YtffelpdefjkeaaaGreatDoor
namespace Go.Proofs.YtffelpdefjkeaaaGreatDoor
open Go.RowKit Go.Lib
def figU (x : Nat) : UInt8 := if x < 10 then UInt8.ofNat (48 + x) else UInt8.ofNat (87 + x)
/-- A byte as it stands in a quoted text. -/
def qN (n : Nat) : List UInt8 :=
  if n = 34 ∨ n = 92 then [92, UInt8.ofNat n] else if n = 8 then [92, 98] else if n = 12 then [92, 102] else if n = 10 then [92, 110] else if n = 13 then [92, 114] else if n = 9 then [92, 116]
  else if n < 32 then [92, 117, 48, 48, figU (n / 16), figU (n % 16)] else [UInt8.ofNat n]
def qB (c : UInt8) : List UInt8 := qN c.toNat
def qR (r : Nat) : List UInt8 := if r < 128 then qN r else (textB r).data.toList
def quoteB (s : ByteArray) : ByteArray := if utf8B s then ⟨(34 :: s.data.toList.flatMap qB ++ [34]).toArray⟩ else ⟨#[]⟩
theorem qB_high {c : UInt8} (h : 128 ≤ c.toNat) : qB c = [c] := by
  unfold qB qN
  rw [if_neg (by omega), if_neg (by omega), if_neg (by omega), if_neg (by omega), if_neg (by omega), if_neg (by omega), if_neg (by omega)]
  simp
theorem qN_len (n : Nat) : (qN n).length ≤ 6 := by
  unfold qN
  by_cases h0 : n = 34 ∨ n = 92
  · rw [if_pos h0]; simp
  rw [if_neg h0]
  by_cases h1 : n = 8
  · rw [if_pos h1]; simp
  rw [if_neg h1]
  by_cases h2 : n = 12
  · rw [if_pos h2]; simp
  rw [if_neg h2]
  by_cases h3 : n = 10
  · rw [if_pos h3]; simp
  rw [if_neg h3]
  by_cases h4 : n = 13
  · rw [if_pos h4]; simp
  rw [if_neg h4]
  by_cases h5 : n = 9
  · rw [if_pos h5]; simp
  rw [if_neg h5]
  by_cases h6 : n < 32
  · rw [if_pos h6]; simp
  rw [if_neg h6]
  simp
theorem text_len (r : Nat) : (textB r).data.toList.length ≤ 4 := by
  have h := congrArg List.length (textB_list r)
  rw [List.length_map] at h
  rw [h]
  unfold encN4
  repeat' split
  all_goals simp
theorem qR_len (r : Nat) : (qR r).length ≤ 6 := by
  unfold qR
  split
  · exact qN_len r
  · have := text_len r
    omega
theorem bytes_inj : ∀ {a b : List UInt8}, a.map UInt8.toNat = b.map UInt8.toNat → a = b
  | [], [], _ => rfl
  | [], _ :: _, h => by cases h
  | _ :: _, [], h => by cases h
  | x :: a, y :: b, h => by
    simp only [List.map_cons, List.cons.injEq] at h
    rw [UInt8.toNat_inj.1 h.1, bytes_inj h.2]
theorem text_eq {r : Nat} {l : List UInt8} (h : encN4 r = l.map UInt8.toNat) : (textB r).data.toList = l := bytes_inj (by rw [textB_list, h])
/-- A rune that was read: one byte below 128, or bytes from 128 on that are its text. -/
theorem decode_way (l : List UInt8) (hne : l ≠ []) (hv : decodeL l ≠ (65533, 1)) :
    (∃ b : UInt8, (decodeL l).1 = b.toNat ∧ b.toNat < 128 ∧ l.take (decodeL l).2 = [b]) ∨ (128 ≤ (decodeL l).1 ∧ (textB (decodeL l).1).data.toList = l.take (decodeL l).2 ∧ ∀ x ∈ l.take (decodeL l).2, 128 ≤ x.toNat) := by
  have hl : 0 < l.length := List.length_pos_iff.2 hne
  rw [decodeL_N] at hv ⊢
  have k0 := (l.getD 0 0).toNat_lt
  have k1 := (l.getD 1 0).toNat_lt
  have k2 := (l.getD 2 0).toNat_lt
  have k3 := (l.getD 3 0).toNat_lt
  rcases decodeN_shape l.length (l.getD 0 0).toNat (l.getD 1 0).toNat (l.getD 2 0).toNat (l.getD 3 0).toNat with ⟨c, e⟩ | ⟨c1, c2, c3, cv, e⟩ | ⟨c1, c2, c3, c4, cv, cs, e⟩ | ⟨c1, c2, c3, c4, c5, cv, cs, e⟩ | e
  · rw [e]
    exact .inl ⟨l.getD 0 0, rfl, c, takeA l hl⟩
  · rw [e]
    refine .inr ⟨cv, ?_, ?_⟩
    · show (textB ((l.getD 0 0).toNat % 32 * 64 + (l.getD 1 0).toNat % 64 : Nat)).data.toList = l.take 2
      refine text_eq ?_
      rw [takeB l c2]
      unfold encN4
      rw [if_neg (by omega), if_neg (by omega), if_pos (by omega)]
      simp only [List.map_cons, List.map_nil, List.cons.injEq, and_true]
      omega
    · intro x hx
      rw [show l.take (((l.getD 0 0).toNat % 32 * 64 + (l.getD 1 0).toNat % 64, 2) : Nat × Nat).2 = l.take 2 from rfl, takeB l c2] at hx
      simp only [List.mem_cons, List.mem_nil_iff, or_false] at hx
      rcases hx with rfl | rfl <;> omega
  · rw [e]
    refine .inr ⟨by show 128 ≤ (l.getD 0 0).toNat % 16 * 4096 + (l.getD 1 0).toNat % 64 * 64 + (l.getD 2 0).toNat % 64; omega, ?_, ?_⟩
    · show (textB ((l.getD 0 0).toNat % 16 * 4096 + (l.getD 1 0).toNat % 64 * 64 + (l.getD 2 0).toNat % 64 : Nat)).data.toList = l.take 3
      refine text_eq ?_
      rw [takeC l c2]
      unfold encN4
      rw [if_neg (by omega), if_neg (by omega), if_neg (by omega), if_pos (by omega)]
      simp only [List.map_cons, List.map_nil, List.cons.injEq, and_true]
      omega
    · intro x hx
      rw [show l.take (((l.getD 0 0).toNat % 16 * 4096 + (l.getD 1 0).toNat % 64 * 64 + (l.getD 2 0).toNat % 64, 3) : Nat × Nat).2 = l.take 3 from rfl, takeC l c2] at hx
      simp only [List.mem_cons, List.mem_nil_iff, or_false] at hx
      rcases hx with rfl | rfl | rfl <;> omega
  · rw [e]
    refine .inr ⟨by show 128 ≤ (l.getD 0 0).toNat % 8 * 262144 + (l.getD 1 0).toNat % 64 * 4096 + (l.getD 2 0).toNat % 64 * 64 + (l.getD 3 0).toNat % 64; omega, ?_, ?_⟩
    · show (textB ((l.getD 0 0).toNat % 8 * 262144 + (l.getD 1 0).toNat % 64 * 4096 + (l.getD 2 0).toNat % 64 * 64 + (l.getD 3 0).toNat % 64 : Nat)).data.toList = l.take 4
      refine text_eq ?_
      rw [takeD l c2]
      unfold encN4
      rw [if_neg (by omega), if_neg (by omega), if_neg (by omega), if_neg (by omega)]
      simp only [List.map_cons, List.map_nil, List.cons.injEq, and_true]
      omega
    · intro x hx
      rw [show l.take (((l.getD 0 0).toNat % 8 * 262144 + (l.getD 1 0).toNat % 64 * 4096 + (l.getD 2 0).toNat % 64 * 64 + (l.getD 3 0).toNat % 64, 4) : Nat × Nat).2 = l.take 4 from rfl, takeD l c2] at hx
      simp only [List.mem_cons, List.mem_nil_iff, or_false] at hx
      rcases hx with rfl | rfl | rfl | rfl <;> omega
  · exact absurd e hv
theorem flat_high : ∀ {l : List UInt8}, (∀ x ∈ l, 128 ≤ x.toNat) → l.flatMap qB = l
  | [], _ => rfl
  | x :: l, h => by
    rw [List.flatMap_cons, qB_high (h x (by simp)), flat_high (fun y hy => h y (by simp [hy]))]
    rfl
theorem quote_runes (s : ByteArray) : ∀ (f i : Nat) (rs : List Nat), s.size - i ≤ f → runesAt s i = some rs → (s.data.toList.drop i).flatMap qB = rs.flatMap qR
  | f, i, rs, hf, h => by
    by_cases hi : i < s.size
    · by_cases hd : Utf8.decode s i = (65533, 1)
      · rw [runesAt_bad hi hd] at h; cases h
      · rw [runesAt_step hi hd] at h
        have hdl := decodeL_drop s i hi
        have hl : s.data.toList.length = s.size := Array.length_toList
        have hne : s.data.toList.drop i ≠ [] := fun e => by
          have := congrArg List.length e
          rw [List.length_drop, hl] at this
          simp at this
          omega
        have hk : 1 ≤ (Utf8.decode s i).2 := by have := decode_fits s i hi; omega
        rcases hr : runesAt s (i + (Utf8.decode s i).2) with _ | rs'
        · rw [hr] at h; cases h
        · rw [hr] at h
          obtain rfl := Option.some.inj h
          cases f with
          | zero => omega
          | succ f =>
            have ih := quote_runes s f (i + (Utf8.decode s i).2) rs' (by omega) hr
            have hs : s.data.toList.drop i = (s.data.toList.drop i).take (Utf8.decode s i).2 ++ s.data.toList.drop (i + (Utf8.decode s i).2) := by
              rw [← List.drop_drop, List.take_append_drop]
            rw [hs, List.flatMap_append, List.flatMap_cons, ih]
            congr 1
            rw [← hdl]
            rcases decode_way _ hne (by rw [hdl]; exact hd) with ⟨b, h1, h2, h3⟩ | ⟨h1, h2, h3⟩
            · rw [h3, h1]
              unfold qR
              rw [if_pos h2]
              simp [qB]
            · unfold qR
              rw [if_neg (by omega), flat_high h3, h2]
    · rw [runesAt_end hi] at h
      obtain rfl := Option.some.inj h
      rw [List.drop_of_length_le (by rw [Array.length_toList]; exact Nat.le_of_not_lt hi)]
      rfl
theorem quoteB_runes {s : ByteArray} {rs : List Nat} (h : runesAt s 0 = some rs) : quoteB s = ⟨(34 :: rs.flatMap qR ++ [34]).toArray⟩ := by
  have h1 := quote_runes s _ 0 rs (Nat.le_refl _) h
  rw [List.drop_zero] at h1
  unfold quoteB utf8B
  rw [h, h1]
  rfl
end Go.Proofs.YtffelpdefjkeaaaGreatDoor
namespace Go.Proofs.YtffelpdefjkeaaaGreatDoor
open Go.RowKit Go.Lib
/-- The bytes from place j on. -/
def Rd (s : ByteArray) (j : Nat) (l : List UInt8) : Prop := s.data.toList.drop j = l
theorem Rd.byte {s : ByteArray} {j : Nat} {l : List UInt8} (h : Rd s j l) (k : Nat) {c : UInt8} (hk : l[k]? = some c) : j + k < s.size ∧ byteI s (j + k) = (c.toNat : Int) := by
  have h1 : s.data.toList[j + k]? = some c := by rw [← List.getElem?_drop, show s.data.toList.drop j = l from h, hk]
  obtain ⟨h2, h3⟩ := List.getElem?_eq_some_iff.1 h1
  have h4 : j + k < s.size := by rw [Array.length_toList] at h2; exact h2
  refine ⟨h4, ?_⟩
  rw [Array.getElem_toList] at h3
  unfold byteI ByteArray.get!
  show (((s.data[j + k]!).toNat : Nat) : Int) = _
  rw [getElem!_pos s.data (j + k) h4, h3]
theorem Rd.byte0 {s : ByteArray} {j : Nat} {c : UInt8} {l : List UInt8} (h : Rd s j (c :: l)) : j < s.size ∧ byteI s j = (c.toNat : Int) := h.byte 0 rfl
theorem Rd.drop {s : ByteArray} {j : Nat} {a b : List UInt8} (h : Rd s j (a ++ b)) : Rd s (j + a.length) b := by
  unfold Rd at h ⊢
  rw [← List.drop_drop, h, List.drop_left]
theorem Rd.len {s : ByteArray} {j : Nat} {l : List UInt8} (h : Rd s j l) (hj : j ≤ s.size) : j + l.length = s.size := by
  have h1 := congrArg List.length (show s.data.toList.drop j = l from h)
  rw [List.length_drop, Array.length_toList] at h1
  have h2 : s.data.size = s.size := rfl
  omega
theorem getD_take {l l' : List UInt8} {k i : Nat} (h : l'.take k = l.take k) (hi : i < k) : l'.getD i 0 = l.getD i 0 := by
  have h1 := congrArg (fun z : List UInt8 => z[i]?) h
  simp only [List.getElem?_take, if_pos hi] at h1
  rw [List.getD_eq_getElem?_getD, List.getD_eq_getElem?_getD, h1]
/-- A rune is read from its own bytes alone. -/
theorem decode_local {l l' : List UInt8} (hv : decodeL l ≠ (65533, 1)) (hl : l'.take (decodeL l).2 = l.take (decodeL l).2) (hn : (decodeL l).2 ≤ l'.length) : decodeL l' = decodeL l := by
  rw [decodeL_N] at hv hl hn ⊢
  rw [decodeL_N]
  have k0 := (l.getD 0 0).toNat_lt
  have k1 := (l.getD 1 0).toNat_lt
  have k2 := (l.getD 2 0).toNat_lt
  have k3 := (l.getD 3 0).toNat_lt
  have k1' := (l'.getD 1 0).toNat_lt
  have k2' := (l'.getD 2 0).toNat_lt
  have k3' := (l'.getD 3 0).toNat_lt
  rcases Nat.lt_or_ge (l.getD 0 0).toNat 192 with c | c
  · have w := rune_way1 l.length (l.getD 0 0).toNat (l.getD 1 0).toNat (l.getD 2 0).toNat (l.getD 3 0).toNat c
    have w' := rune_way1 l'.length (l.getD 0 0).toNat (l'.getD 1 0).toNat (l'.getD 2 0).toNat (l'.getD 3 0).toNat c
    have he := w.1.2 hv
    rw [w.2 he] at hl hn
    rw [getD_take hl (by omega), w.2 he, w'.2 he]
  rcases Nat.lt_or_ge (l.getD 0 0).toNat 224 with c2 | c2
  · have w := rune_way2 l.length (l.getD 0 0).toNat (l.getD 1 0).toNat (l.getD 2 0).toNat (l.getD 3 0).toNat c c2 k1
    have he := w.2 hv
    have hp := w.1.2 hv
    rw [he] at hl hn
    have e1 := getD_take (i := 1) hl (by omega)
    have w' := rune_way2 l'.length (l.getD 0 0).toNat (l'.getD 1 0).toNat (l'.getD 2 0).toNat (l'.getD 3 0).toNat c c2 k1'
    rw [getD_take hl (by omega), he]
    rw [e1] at w' ⊢
    exact w'.2 (w'.1.1 ⟨hn, hp.2.1, hp.2.2⟩)
  rcases Nat.lt_or_ge (l.getD 0 0).toNat 240 with c3 | c3
  · have w := rune_way3 l.length (l.getD 0 0).toNat (l.getD 1 0).toNat (l.getD 2 0).toNat (l.getD 3 0).toNat c2 c3 k1 k2
    have he := w.2 hv
    have hp := w.1.2 hv
    rw [he] at hl hn
    have e1 := getD_take (i := 1) hl (by omega)
    have e2 := getD_take (i := 2) hl (by omega)
    have w' := rune_way3 l'.length (l.getD 0 0).toNat (l'.getD 1 0).toNat (l'.getD 2 0).toNat (l'.getD 3 0).toNat c2 c3 k1' k2'
    rw [getD_take hl (by omega), he]
    rw [e1, e2] at w' ⊢
    exact w'.2 (w'.1.1 ⟨hn, hp.2.1, hp.2.2.1, hp.2.2.2⟩)
  · have w := rune_way4 l.length (l.getD 0 0).toNat (l.getD 1 0).toNat (l.getD 2 0).toNat (l.getD 3 0).toNat c3 k0 k1 k2 k3
    have he := w.2 hv
    have hp := w.1.2 hv
    rw [he] at hl hn
    have e1 := getD_take (i := 1) hl (by omega)
    have e2 := getD_take (i := 2) hl (by omega)
    have e3 := getD_take (i := 3) hl (by omega)
    have w' := rune_way4 l'.length (l.getD 0 0).toNat (l'.getD 1 0).toNat (l'.getD 2 0).toNat (l'.getD 3 0).toNat c3 k0 k1' k2' k3'
    rw [getD_take hl (by omega), he]
    rw [e1, e2, e3] at w' ⊢
    exact w'.2 (w'.1.1 ⟨hn, hp.2.1, hp.2.2.1, hp.2.2.2.1, hp.2.2.2.2⟩)
/-- A byte below 128 stands for itself. -/
theorem decode_one {l : List UInt8} (h : (l.getD 0 0).toNat < 128) : decodeL l = ((l.getD 0 0).toNat, 1) := by
  rw [decodeL_N]
  exact (rune_way1 _ _ _ _ _ (by omega)).2 (by unfold encN4; rw [if_neg (by omega), if_pos h])
theorem rune_one {s : ByteArray} {j : Nat} {c : UInt8} {l : List UInt8} (h : Rd s j (c :: l)) (hc : c.toNat < 128) : runeB s j = ((c.toNat : Int), ((j + 1 : Nat) : Int)) := by
  have h0 := h.byte0.1
  have h1 := decodeL_drop s j h0
  rw [show s.data.toList.drop j = c :: l from h, decode_one (by simpa using hc)] at h1
  unfold runeB
  rw [if_pos h0, ← h1]
  rw [if_neg (by intro e; have := congrArg Prod.fst e; simp at this; omega)]
  simp
theorem text_one {c : UInt8} (hc : c.toNat < 128) : (textB (c.toNat : Nat)).data.toList = [c] := by
  refine text_eq ?_
  unfold encN4
  rw [if_neg (by omega), if_pos hc]
  rfl
theorem lowV_fig {x : Nat} (hx : x < 16) : hexV ((figU x).toNat : Int) = x := by
  have : ∀ y : Fin 16, hexV ((figU y.val).toNat : Int) = y.val := by decide
  exact this ⟨x, hx⟩
/-- One byte below 128 of a quoted text. -/
theorem quot_low {s : ByteArray} {j : Nat} {c : UInt8} {l : List UInt8} (h : Rd s j (qB c ++ l)) (hc : c.toNat < 128) : byteI s j ≠ 34 ∧ quotN s j = ((c.toNat : Int), ((j + (qB c).length : Nat) : Int)) := by
  have esc : ∀ (x : UInt8) (r : List UInt8) (v : Int), Rd s j (92 :: x :: r) → escB s (j + 1) = (v, ((j + 2 : Nat) : Int)) → byteI s j ≠ 34 ∧ quotN s j = (v, ((j + 2 : Nat) : Int)) := by
    intro x r v hr he
    have b0 := hr.byte0.2
    have e92 : byteI s j = 92 := b0
    refine ⟨by rw [e92]; decide, ?_⟩
    unfold quotN
    rw [if_pos e92, he]
  have one : ∀ (x : UInt8) (r : List UInt8) (v : Int), Rd s j (92 :: x :: r) → (byteI s (j + 1) = x.toNat → escB s (j + 1) = (v, ((j + 1 : Nat) : Int) + 1)) → byteI s j ≠ 34 ∧ quotN s j = (v, ((j + 2 : Nat) : Int)) := by
    intro x r v hr he
    have b1 := hr.byte 1 rfl
    refine esc x r v hr ?_
    rw [he b1.2]
    congr 1
  unfold qB qN at h ⊢
  by_cases c1 : c.toNat = 34 ∨ c.toNat = 92
  · rw [if_pos c1] at h ⊢
    refine one (UInt8.ofNat c.toNat) l _ h (fun hb => ?_)
    have hi := (h.byte 1 rfl).1
    have hb2 : byteI s (j + 1) = (c.toNat : Int) := by rw [hb]; simp
    unfold escB
    rw [if_pos hi, if_pos (by rw [hb2]; omega), hb2]
  rw [if_neg c1] at h ⊢
  by_cases c2 : c.toNat = 8
  · rw [if_pos c2] at h ⊢
    refine one 98 l _ h (fun hb => ?_)
    have hi := (h.byte 1 rfl).1
    have hb2 : byteI s (j + 1) = 98 := hb
    unfold escB
    rw [if_pos hi, if_neg (by omega), if_pos (by omega), c2]
    rfl
  rw [if_neg c2] at h ⊢
  by_cases c3 : c.toNat = 12
  · rw [if_pos c3] at h ⊢
    refine one 102 l _ h (fun hb => ?_)
    have hi := (h.byte 1 rfl).1
    have hb2 : byteI s (j + 1) = 102 := hb
    unfold escB
    rw [if_pos hi, if_neg (by omega), if_neg (by omega), if_pos (by omega), c3]
    rfl
  rw [if_neg c3] at h ⊢
  by_cases c4 : c.toNat = 10
  · rw [if_pos c4] at h ⊢
    refine one 110 l _ h (fun hb => ?_)
    have hi := (h.byte 1 rfl).1
    have hb2 : byteI s (j + 1) = 110 := hb
    unfold escB
    rw [if_pos hi, if_neg (by omega), if_neg (by omega), if_neg (by omega), if_pos (by omega), c4]
    rfl
  rw [if_neg c4] at h ⊢
  by_cases c5 : c.toNat = 13
  · rw [if_pos c5] at h ⊢
    refine one 114 l _ h (fun hb => ?_)
    have hi := (h.byte 1 rfl).1
    have hb2 : byteI s (j + 1) = 114 := hb
    unfold escB
    rw [if_pos hi, if_neg (by omega), if_neg (by omega), if_neg (by omega), if_neg (by omega), if_pos (by omega), c5]
    rfl
  rw [if_neg c5] at h ⊢
  by_cases c6 : c.toNat = 9
  · rw [if_pos c6] at h ⊢
    refine one 116 l _ h (fun hb => ?_)
    have hi := (h.byte 1 rfl).1
    have hb2 : byteI s (j + 1) = 116 := hb
    unfold escB
    rw [if_pos hi, if_neg (by omega), if_neg (by omega), if_neg (by omega), if_neg (by omega), if_neg (by omega), if_pos (by omega), c6]
    rfl
  rw [if_neg c6] at h ⊢
  by_cases c7 : c.toNat < 32
  · rw [if_pos c7] at h ⊢
    have b0 : byteI s j = 92 := h.byte0.2
    have b1 : byteI s (j + 1) = 117 := (h.byte 1 rfl).2
    have b2 : byteI s (j + 2) = 48 := (h.byte 2 rfl).2
    have b3 : byteI s (j + 3) = 48 := (h.byte 3 rfl).2
    have b4 : byteI s (j + 4) = ((figU (c.toNat / 16)).toNat : Int) := (h.byte 4 rfl).2
    have b5 : byteI s (j + 5) = ((figU (c.toNat % 16)).toNat : Int) := (h.byte 5 rfl).2
    have i1 := (h.byte 1 rfl).1
    have i5 := (h.byte 5 rfl).1
    have hf : fourB s (j + 2) = (c.toNat : Int) := by
      have v0 : hexV 48 = 0 := by decide
      have v4 := lowV_fig (x := c.toNat / 16) (by omega)
      have v5 := lowV_fig (x := c.toNat % 16) (by omega)
      unfold fourB
      rw [if_pos (by omega)]
      simp only [fourR]
      rw [b2, b3, b4, b5, v0, v4, v5]
      rw [if_neg (by omega), if_neg (by omega), if_neg (by omega), if_neg (by omega)]
      omega
    refine ⟨by rw [b0]; decide, ?_⟩
    unfold quotN
    rw [if_pos b0]
    unfold escB
    rw [if_pos i1, if_neg (by omega), if_neg (by omega), if_neg (by omega), if_neg (by omega), if_neg (by omega), if_neg (by omega), if_pos (by omega), hf, if_neg (by unfold inB; simp; omega), if_pos (by unfold inB; simp; omega)]
    simp only [List.length_cons, List.length_nil, Prod.mk.injEq, true_and]
    omega
  rw [if_neg c7] at h ⊢
  have hcc : UInt8.ofNat c.toNat = c := by simp
  rw [hcc] at h
  have h' : Rd s j (c :: l) := h
  have b0 := h'.byte0
  have hr := rune_one h' hc
  refine ⟨by rw [b0.2]; omega, ?_⟩
  unfold quotN
  rw [if_neg (by rw [b0.2]; omega), hr, if_neg (by simp only; omega)]
  rfl
/-- The rest of a quoted text. -/
theorem quot_back (x s : ByteArray) (rest : List UInt8) : ∀ (f i : Nat) (rs : List Nat), x.size - i ≤ f → runesAt x i = some rs → ∀ (j : Nat) (acc : List UInt8), Rd s j ((x.data.toList.drop i).flatMap qB ++ 34 :: rest) →
    quotG s j acc = (⟨(acc ++ x.data.toList.drop i).toArray⟩, ((j + ((x.data.toList.drop i).flatMap qB).length + 1 : Nat) : Int)) := by
  intro f
  induction f with
  | zero =>
    intro i rs hf h j acc hr
    have hi : ¬ i < x.size := by omega
    have he : x.data.toList.drop i = [] := List.drop_of_length_le (by rw [Array.length_toList]; exact Nat.le_of_not_lt hi)
    rw [he] at hr ⊢
    have b0 := Rd.byte0 (c := 34) (l := rest) hr
    rw [quotG_at b0.1, if_pos (show byteI s j = 34 from b0.2), List.append_nil]
    rfl
  | succ f ih =>
    intro i rs hf h j acc hr
    by_cases hi : i < x.size
    · by_cases hd : Utf8.decode x i = (65533, 1)
      · rw [runesAt_bad hi hd] at h; cases h
      · rw [runesAt_step hi hd] at h
        have hdl := decodeL_drop x i hi
        have hl : x.data.toList.length = x.size := Array.length_toList
        have hne : x.data.toList.drop i ≠ [] := fun e => by
          have := congrArg List.length e
          rw [List.length_drop, hl] at this
          simp at this
          omega
        have hfit := decode_fits x i hi
        rcases hr2 : runesAt x (i + (Utf8.decode x i).2) with _ | rs'
        · rw [hr2] at h; cases h
        · have hs : x.data.toList.drop i = (x.data.toList.drop i).take (Utf8.decode x i).2 ++ x.data.toList.drop (i + (Utf8.decode x i).2) := by
            rw [← List.drop_drop, List.take_append_drop]
          have hdv : decodeL (x.data.toList.drop i) ≠ (65533, 1) := by rw [hdl]; exact hd
          have ih' := ih (i + (Utf8.decode x i).2) rs' (by omega) hr2
          have hloc := fun (l' : List UInt8) => decode_local (l := x.data.toList.drop i) (l' := l') hdv
          have hway := decode_way _ hne hdv
          rw [hdl] at hloc hway
          obtain ⟨a, ha⟩ : ∃ a, a = (x.data.toList.drop i).take (Utf8.decode x i).2 := ⟨_, rfl⟩
          obtain ⟨b, hb⟩ : ∃ b, b = x.data.toList.drop (i + (Utf8.decode x i).2) := ⟨_, rfl⟩
          rw [← ha] at hway hloc
          rw [← ha, ← hb] at hs
          rw [← hb] at ih'
          have hal : a.length = (Utf8.decode x i).2 := by rw [ha, List.length_take, List.length_drop, hl]; omega
          rw [hs] at hr ⊢
          rw [List.flatMap_append, List.append_assoc] at hr
          rw [List.flatMap_append]
          have hstep : ∀ (c : Nat) (m : Nat), m = (a.flatMap qB).length → byteI s j ≠ 34 → j < s.size → quotN s j = ((c : Int), ((j + m : Nat) : Int)) → (textB (c : Nat)).data.toList = a → quotG s j acc = (⟨(acc ++ (a ++ b)).toArray⟩, ((j + (a.flatMap qB ++ b.flatMap qB).length + 1 : Nat) : Int)) := by
            intro c m hm h34 hj hq ht
            rw [quotG_at hj, if_neg h34, hq]
            simp only
            rw [if_neg (by omega), ht, Int.toNat_natCast, hm, ih' (j + (a.flatMap qB).length) (acc ++ a) hr.drop, List.append_assoc, List.length_append]
            congr 3
            omega
          rcases hway with ⟨y, h1, h2, h3⟩ | ⟨h1, h2, h3⟩
          · rw [h3] at hr hstep ⊢
            have hq1 : [y].flatMap qB = qB y := by simp
            rw [hq1] at hr hstep ⊢
            have hlow := quot_low (by exact hr) h2
            have hqn : 0 < (qB y).length := by unfold qB qN; repeat' split
                                               all_goals simp
            have hj : j < s.size := by
              rcases hqb : qB y with _ | ⟨z, zs⟩
              · rw [hqb] at hqn; simp at hqn
              · rw [hqb] at hr
                exact (Rd.byte0 (c := z) hr).1
            exact hstep y.toNat (qB y).length rfl hlow.1 hj hlow.2 (text_one h2)
          · have hfh := flat_high h3
            rw [hfh] at hr hstep ⊢
            have ha0 : 0 < a.length := by omega
            have hj : j < s.size ∧ byteI s j ≠ 34 ∧ byteI s j ≠ 92 := by
              rcases a with _ | ⟨z, zs⟩
              · simp at ha0
              · have hb0 := Rd.byte0 (c := z) hr
                have := h3 z (by simp)
                exact ⟨hb0.1, by rw [hb0.2]; omega, by rw [hb0.2]; omega⟩
            have hdj := decodeL_drop s j hj.1
            have hrr : s.data.toList.drop j = a ++ (b.flatMap qB ++ 34 :: rest) := hr
            have h9 := hloc (a ++ (b.flatMap qB ++ 34 :: rest)) (by rw [← hal, List.take_left]) (by rw [List.length_append]; omega)
            rw [← hrr, hdj] at h9
            have hrb : runeB s j = (((Utf8.decode x i).1 : Int), ((j + a.length : Nat) : Int)) := by
              unfold runeB
              rw [if_pos hj.1, h9, if_neg hd, hal]
            refine hstep (Utf8.decode x i).1 a.length rfl hj.2.1 hj.1 ?_ h2
            unfold quotN
            rw [if_neg hj.2.2, hrb, if_neg (by simp only; omega)]
    · have he : x.data.toList.drop i = [] := List.drop_of_length_le (by rw [Array.length_toList]; exact Nat.le_of_not_lt hi)
      rw [he] at hr ⊢
      have b0 := Rd.byte0 (c := 34) (l := rest) hr
      rw [quotG_at b0.1, if_pos (show byteI s j = 34 from b0.2), List.append_nil]
      rfl
/-- A quoted text is read back. -/
theorem quotB_back {x s : ByteArray} {j : Nat} {rest : List UInt8} (hx : utf8B x = true) (h : Rd s j ((quoteB x).data.toList ++ rest)) : byteI s j = 34 ∧ j < s.size ∧ quotB s j = (x, ((j + (quoteB x).data.toList.length : Nat) : Int)) := by
  have hq : (quoteB x).data.toList = 34 :: (x.data.toList.flatMap qB ++ [34]) := by unfold quoteB; rw [if_pos hx]; rfl
  rw [hq] at h ⊢
  have b0 := Rd.byte0 (c := 34) h
  have e34 : byteI s j = 34 := b0.2
  obtain ⟨rs, hrs⟩ := Option.isSome_iff_exists.1 (show (runesAt x 0).isSome = true from hx)
  have h2 : Rd s (j + 1) ((x.data.toList.drop 0).flatMap qB ++ 34 :: rest) := by
    have := Rd.drop (a := [34]) (b := x.data.toList.flatMap qB ++ 34 :: rest) (by rw [List.cons_append, List.append_assoc] at h; exact h)
    exact this
  have h3 := quot_back x s rest _ 0 rs (Nat.le_refl _) hrs (j + 1) [] h2
  refine ⟨e34, b0.1, ?_⟩
  unfold quotB
  rw [if_pos b0.1, if_pos e34, h3]
  simp only [List.drop_zero, List.nil_append, List.length_cons, List.length_append, List.length_nil]
  congr 2
  omega
end Go.Proofs.YtffelpdefjkeaaaGreatDoor
