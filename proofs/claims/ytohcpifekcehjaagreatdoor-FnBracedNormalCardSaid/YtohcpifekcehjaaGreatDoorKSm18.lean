/- Steps to FnBracedNormal. No conditions. -/
import Derived.Test.YtohcpifekcehjaaGreatDoorKSm4
import Derived.Deep.CutBlock
import Derived.Deep.CutRange
import Derived.Test.YtohcpifekcehjaaGreatDoorKSm5
import Derived.Test.YtohcpifekcehjaaGreatDoorKSm1
import Derived.Test.YtohcpifekcehjaaGreatDoorKSm17
import Derived.Test.YtohcpifekcehjaaGreatDoorKSm12
set_option maxHeartbeats 16000000
set_option maxRecDepth 20000
namespace Go.Proofs.YtohcpifekcehjaaGreatDoor
open Go.RowKit Go.Lib
theorem lit_list : (⟨#[57, 50, 50, 51, 51, 55, 50, 48, 51, 54, 56, 53, 52, 55, 55, 53, 56, 48, 56]⟩ : ByteArray).toList = [57, 50, 50, 51, 51, 55, 50, 48, 51, 54, 56, 53, 52, 55, 55, 53, 56, 48, 56] := by simp [ByteArray.toList_eq]
theorem whole_read {s : ByteArray} {a e : Nat} {neg : Bool} (he : e = digE s a) (has : a <= s.size) (h : ¬ (e = a ∨ (byteI s a = 48 /\ a + 1 < e) ∨ (e < s.size /\ (byteI s e = 46 ∨ byteI s e = 101 ∨ byteI s e = 69)))) :
  (neg = true /\ s.extract a e = ⟨#[57, 50, 50, 51, 51, 55, 50, 48, 51, 54, 56, 53, 52, 55, 55, 53, 56, 48, 56]⟩ /\ wholeA s neg a = (-9223372036854775808, (e : Int))) ∨
  ((neg = false ∨ s.extract a e ≠ ⟨#[57, 50, 50, 51, 51, 55, 50, 48, 51, 54, 56, 53, 52, 55, 55, 53, 56, 48, 56]⟩) /\
   ((∃ u : Nat, u <= 9223372036854775807 /\ readI (s.extract a e) = some u /\ wholeA s neg a = (if neg = true then -(u : Int) else u, (e : Int))) ∨ (readI (s.extract a e) = none /\ wholeA s neg a = (0, -1)))) := by
 subst he
 have hae := digE_le s a
 have hes := hae.2 has
 have hne : a < digE s a := by have := hae.1; have := not_or.1 h; omega
 have hf : ∀ t, a <= t -> t < digE s a -> figI (byteI s t) = true := fun t h1 h2 => (digE_figs h1 h2).1
 have hz : ¬ (byteI s a = 48 /\ a + 1 < digE s a) := fun hh => h (.inr (.inl hh))
 have hmin := is_min hne hes hf hz
 have hr := readI_part hne hes hf hz
 unfold wholeA
 rw [if_neg h]
 cases neg with
 | true =>
  rw [if_pos rfl]
  by_cases hm : numB s a (digE s a) = 9223372036854775808
  ·exact .inl ⟨rfl, hmin.2 hm, by rw [hm, if_pos (by decide)]; rfl⟩
  ·refine .inr ⟨.inr (fun hh => hm (hmin.1 hh)), ?_⟩
   by_cases hv : numB s a (digE s a) <= 9223372036854775807
   ·rw [if_pos hv] at hr
    exact .inl ⟨_, hv, hr, by rw [if_pos (by omega)]; rfl⟩
   ·rw [if_neg hv] at hr
    exact .inr ⟨hr, by rw [if_neg (by omega)]⟩
 | false =>
  rw [if_neg (by decide)]
  refine .inr ⟨.inl rfl, ?_⟩
  by_cases hv : numB s a (digE s a) <= 9223372036854775807
  ·rw [if_pos hv] at hr
   exact .inl ⟨_, hv, hr, by rw [if_pos hv]; rfl⟩
  ·rw [if_neg hv] at hr
   exact .inr ⟨hr, by rw [if_neg hv]⟩
theorem c_spec_ReadWhole (s : ByteArray) (i : Nat) (w : World) (hs : s.size <= 1048576) (hi : i <= 1048576) :
  Calls Tryz.prog 194 #[.string s, .int .i64 i] w fun e w' => e = .returned (.tuple #[.int .i64 (wholeB s i).1, .int .i64 (wholeB s i).2]) /\ Below w.heap.size w w' := by
 by_cases hlt : (i : Int) < s.size
 ·have hii : i < s.size := by omega
  have h0 : inB (i : Int) 0 ((s.size : Int) - 1) = true := decide_eq_true (by omega)
  have hz0 : (0 : Int) <= i := by omega
  obtain ⟨b, hb⟩ : ∃ b : Nat, b = (s.get! i).toNat := ⟨_, rfl⟩
  have hx : (s[i]'hii).toNat = b := by rw [hb]; exact get_byte s i hii
  have hby : byteI s i = b := by unfold byteI; rw [hb]
  obtain ⟨a, ha⟩ : ∃ a, a = if byteI s i = 45 then i + 1 else i := ⟨_, rfl⟩
  obtain ⟨neg, hneg⟩ : ∃ neg : Bool, neg = decide (byteI s i = 45) := ⟨_, rfl⟩
  have hWB : wholeB s i = wholeA s neg a := by rw [hneg]; exact wholeB_at hii ha
  have hnb : ((b : Int) == 45) = neg := by rw [hneg, hby]; rw [Bool.eq_iff_iff]; simp
  have hcs : (neg = true /\ (i : Int) + 1 = a) ∨ (neg = false /\ a = i) := by
   by_cases h45 : byteI s i = 45
   ·rw [if_pos h45] at ha; exact .inl ⟨by rw [hneg]; exact decide_eq_true h45, by omega⟩
   ·rw [if_neg h45] at ha; exact .inr ⟨by rw [hneg]; exact decide_eq_false h45, ha⟩
  have HWB := hid hWB
  have HCs := hid hcs
  have hia : i <= a /\ a <= i + 1 := by rw [ha]; split <;> omega
  obtain ⟨e0, he0⟩ : ∃ e0, e0 = digE s a := ⟨_, rfl⟩
  have hE0 := digE_le s a
  rw [<- he0] at hE0
  have hae : a <= e0 := hE0.1
  have hes : e0 <= s.size := hE0.2 (by omega)
  have HE0 := hid he0
  obtain ⟨hia1, hia2⟩ := hia
  clear hb hby ha he0 hE0 hneg hWB hcs
  go_enter Tryz.func194, Tryz.ntmps194
  go_upto_if 23 with (first | (go_at_call 115; refine (c_spec_l01In _ _ _ _).mono ?_; rintro e w' ⟨rfl, rfl⟩))
  go_cut [7] from 23 to 25 (fun s7 wx => s7 = .int .i64 a /\ wx = w)
  case first =>
   rcases HCs.out with ⟨rfl, haa⟩ | ⟨rfl, haa⟩
   ·go_wp2_with fail
    go_meet
    exact ⟨rfl, rfl⟩
   ·have HAA := hid haa
    clear haa
    go_wp2_with fail
    go_meet
    exact ⟨by rw [HAA.out], rfl⟩
  case rest =>
   obtain ⟨rfl, rfl⟩ := hcut
   go_upto_block 0 with fail
   go_cut [8] from 27 to 44 (fun s8 wx => s8 = .int .i64 e0 /\ wx = wc)
   case first =>
    go_wp2_with fail
    go_loopw [8] (fun s8 wr => ∃ j : Nat, a <= j /\ j <= e0 /\ s8 = .int .i64 j /\ digE s j = e0 /\ wr = wc) (fun s8 _ => s.size - (intOf s8).toNat)
    case atStart => exact ⟨a, Nat.le_refl _, hae, rfl, HE0.out.symm, rfl⟩
    case round =>
     obtain ⟨j, haj, hje, rfl, hdj, rfl⟩ := hrel
     have HJ := hid hdj
     clear hdj
     by_cases hjl : (j : Int) < s.size
     ·have hjj : j < s.size := by omega
      have hj0 : (0 : Int) <= j := by omega
      obtain ⟨c, hc⟩ : ∃ c : Nat, c = (s.get! j).toNat := ⟨_, rfl⟩
      have hxj : (s[j]'hjj).toNat = c := by rw [hc]; exact get_byte s j hjj
      have hbj : byteI s j = c := by unfold byteI; rw [hc]
      have HC := hid hbj
      have HD := hid (HJ.out.symm.trans (digE_at hjj))
      clear hc hbj
      by_cases f1 : (48 : Int) <= c
      ·by_cases f2 : (c : Int) <= 57
       ·have HF := hid (show digE s (j + 1) = e0 by have h9 := HD.out; rw [HC.out, if_pos (by unfold figI; rw [decide_eq_true f1, decide_eq_true f2]; rfl)] at h9; exact h9.symm)
        have hle := (digE_le s (j + 1)).1
        rw [HF.out] at hle
        go_wp2_with fail
        go_roundw
        case rel => exact ⟨j + 1, by omega, hle, by go_num, HF.out, by first | rfl | exact True.intro⟩
        case measure => simp [intOf]; omega
       ·have HF := hid (show e0 = j by have h9 := HD.out; rw [HC.out, if_neg (by unfold figI; rw [decide_eq_false f2, Bool.and_false]; decide)] at h9; exact h9)
        have d2 : decide ((c : Int) <= 57) = false := decide_eq_false f2
        have d3 : decide (c <= 57) = false := decide_eq_false (by omega)
        clear f2
        go_wp2_with fail
        go_meet
        exact ⟨by rw [HF.out], rfl⟩
      ·have HF := hid (show e0 = j by have h9 := HD.out; rw [HC.out, if_neg (by unfold figI; rw [decide_eq_false f1, Bool.false_and]; decide)] at h9; exact h9)
       have d2 : decide ((48 : Int) <= c) = false := decide_eq_false f1
       have d3 : decide (48 <= c) = false := decide_eq_false (by omega)
       clear f1
       go_wp2_with fail
       go_meet
       exact ⟨by rw [HF.out], rfl⟩
     ·have HF := hid (show e0 = j by rw [<- HJ.out]; exact digE_end (by omega))
      go_wp2_with fail
      go_meet
      exact ⟨by rw [HF.out], rfl⟩
   case rest =>
    obtain ⟨rfl, rfl⟩ := hcut
    obtain ⟨F, hF⟩ : ∃ F, F = s.extract a e0 := ⟨_, rfl⟩
    have hFs : F.size = e0 - a := by rw [hF, ByteArray.size_extract]; omega
    have HF := hid hF
    have hFe : s.extract a e0 = F := hF.symm
    have haeI : (a : Int) <= e0 := by omega
    have hesI : (e0 : Int) <= s.size := by omega
    clear hF
    by_cases c1 : e0 = a
    ·have HQ := hid (show wholeB s i = (0, -1) from HWB.out.trans (wholeA_no (.inl (by rw [<- HE0.out]; omega))))
     have hm1 := toList_empty (s := F) (by omega)
     clear c1
     go_wp2_with fail
     go_ret2
     exact ⟨by rw [HQ.out]; rfl, Below.refl _ _⟩
    ·have hm1 := toList_some (s := F) (by omega)
     have hlt2 : a < e0 := by omega
     have ham : a < s.size := by omega
     have hFp : 0 < F.size := by omega
     have hFpI : (0 : Int) < F.size := by omega
     obtain ⟨ca, hca⟩ : ∃ c : Nat, c = (s.get! a).toNat := ⟨_, rfl⟩
     have hx0 : (F[0]'hFp).toNat = ca := by
      have h9 := extract_get s a e0 0 hes (by omega)
      rw [hca, get_byte F 0 hFp]
      have h8 : F.data.toList[0]? = some (F.get! 0) := by
       have h7 : 0 < F.data.toList.length := by rw [Array.length_toList]; exact hFp
       rw [List.getElem?_eq_getElem h7, Array.getElem_toList]
       show some (F.data[0]) = some (F.data[0]!)
       rw [getElem!_pos F.data 0 hFp]
      rw [HF.out] at h8 ⊢
      rw [h9] at h8
      injection h8 with h8
      rw [<- h8]
      rfl
     have HCa := hid (show byteI s a = ca by unfold byteI; rw [hca])
     have hFsI : (F.size : Int) = e0 - a := by omega
     have HFs := hid hFsI
     clear hca c1 hFsI
     obtain ⟨fz, hfz⟩ : ∃ fz : Nat, fz = F.size := ⟨_, rfl⟩
     by_cases c2 : ca = 48 /\ a + 1 < e0
     ·have HQ := hid (show wholeB s i = (0, -1) from HWB.out.trans (wholeA_no (.inr (.inl ⟨by rw [HCa.out]; omega, by rw [<- HE0.out]; omega⟩))))
      obtain ⟨rfl, c22⟩ := c2
      have hf1 : (1 : Int) < F.size := by omega
      clear hFs hfz
      go_wp2_with fail
      go_ret2
      exact ⟨by rw [HQ.out]; rfl, Below.refl _ _⟩
     ·have tail : ∀ P : Prop, (decide (1 < F.size) = false -> decide ((1 : Int) < F.size) = false -> P) -> ((1 : Int) < F.size -> ((ca : Int) == 48) = false -> P) -> P := by
       intro P k1 k2
       by_cases c : 1 < F.size
       ·exact k2 (by omega) (beq_eq_false_iff_ne.2 (fun h => c2 ⟨by omega, by omega⟩))
       ·exact k1 (decide_eq_false c) (decide_eq_false (by omega))
      have HC2 := hid c2
      have HFz := hid hFs
      clear c2 hFs hfz
      by_cases c3 : (e0 : Int) < s.size
      ·have hej : e0 < s.size := by omega
       have he0 : (0 : Int) <= e0 := by omega
       obtain ⟨ce, hce⟩ : ∃ c : Nat, c = (s.get! e0).toNat := ⟨_, rfl⟩
       have hxe : (s[e0]'hej).toNat = ce := by rw [hce]; exact get_byte s e0 hej
       have HCe := hid (show byteI s e0 = ce by unfold byteI; rw [hce])
       clear hce
       by_cases c4 : ce = 46 ∨ ce = 101 ∨ ce = 69
       ·have HQ := hid (show wholeB s i = (0, -1) from HWB.out.trans (wholeA_no (.inr (.inr ⟨by rw [<- HE0.out]; exact hej, by rw [<- HE0.out, HCe.out]; omega⟩))))
        rcases c4 with rfl | rfl | rfl
        all_goals
         refine tail _ (fun t1 t2 => ?_) (fun t1 t2 => ?_)
         all_goals
          clear tail
          go_wp2_with fail
          all_goals
           go_ret2
           exact ⟨by rw [HQ.out]; rfl, Below.refl _ _⟩
       ·have hRE := hid (whole_read (s := s) (a := a) (e := e0) (neg := neg) HE0.out (by omega) (by
         rw [HCa.out, HCe.out]
         rintro (h | h | h)
         ·omega
         ·exact HC2.out ⟨by omega, h.2⟩
         ·omega))
        have g1 : ((ce : Int) == 46) = false := beq_eq_false_iff_ne.2 (by omega)
        have g2 : ((ce : Int) == 101) = false := beq_eq_false_iff_ne.2 (by omega)
        have g3 : ((ce : Int) == 69) = false := beq_eq_false_iff_ne.2 (by omega)
        clear c4
        refine tail _ (fun t1 t2 => ?_) (fun t1 t2 => ?_)
        all_goals
         clear tail
         rcases hRE.out with ⟨rfl, hl, hv⟩ | ⟨hl, hr⟩
         ·have HQ := hid (HWB.out.trans hv)
          rw [hFe] at hl
          have hl1 := beqD_yes hl
          have hl2 : (F.toList == [57, 50, 50, 51, 51, 55, 50, 48, 51, 54, 56, 53, 52, 55, 55, 53, 56, 48, 56]) = true := by rw [hl, lit_list]; rfl
          clear hl hv hRE
          go_wp2_with fail
          go_ret2
          exact ⟨by rw [HQ.out]; rfl, Below.refl _ _⟩
         ·rw [hFe] at hl hr
          have htest : (neg && (F.toList == [57, 50, 50, 51, 51, 55, 50, 48, 51, 54, 56, 53, 52, 55, 55, 53, 56, 48, 56])) = false := by
           rcases hl with rfl | h
           ·rfl
           ·rw [<- lit_list, beqD_no h, Bool.and_false]
          have HTe := hid htest
          have two : ∀ P : Prop, (neg = false -> P) -> (neg = true -> (F.toList == [57, 50, 50, 51, 51, 55, 50, 48, 51, 54, 56, 53, 52, 55, 55, 53, 56, 48, 56]) = false -> P) -> P := by
           intro P k1 k2
           rcases hn : neg with _ | _
           ·exact k1 hn
           ·refine k2 hn ?_
            have h9 := HTe.out
            rw [hn, Bool.true_and] at h9
            exact h9
          clear htest hl hRE
          rcases hr with ⟨u, hu, hr, hv⟩ | ⟨hr, hv⟩
          ·have HQ := hid (HWB.out.trans hv)
           have HRd := hid (read_some hr)
           have huI : (u : Int) <= 9223372036854775807 := by omega
           have hu0 : (0 : Int) <= u := by omega
           clear hr hv
           refine two _ (fun n1 => ?_) (fun n1 n2 => ?_)
           all_goals
            clear two
            subst n1
            go_wp2_with fail
            refine (c_spec_ReadInt F _ (by have := HFz.out; omega)).mono ?_
            rintro e w9 ⟨rfl, hb9⟩
            rw [HRd.out.1, HRd.out.2]
            go_wp2_with fail
            go_ret2
            exact ⟨by rw [HQ.out]; rfl, bel⟩
          ·have HQ := hid (HWB.out.trans hv)
           have HRd := hid (read_none hr)
           clear hr hv
           refine two _ (fun n1 => ?_) (fun n1 n2 => ?_)
           all_goals
            clear two
            subst n1
            go_wp2_with fail
            refine (c_spec_ReadInt F _ (by have := HFz.out; omega)).mono ?_
            rintro e w9 ⟨rfl, hb9⟩
            rw [HRd.out.1, HRd.out.2]
            go_wp2_with fail
            go_ret2
            exact ⟨by rw [HQ.out]; rfl, bel⟩
      ·have heq : e0 = s.size := by omega
       have hRE := hid (whole_read (s := s) (a := a) (e := e0) (neg := neg) HE0.out (by omega) (by
        rw [HCa.out]
        rintro (h | h | h)
        ·omega
        ·exact HC2.out ⟨by omega, h.2⟩
        ·omega))
       have hsz3 : decide ((e0 : Int) < s.size) = false := decide_eq_false c3
       have hsz4 : decide (e0 < s.size) = false := decide_eq_false (by omega)
       clear heq c3
       refine tail _ (fun t1 t2 => ?_) (fun t1 t2 => ?_)
       all_goals
        clear tail
        rcases hRE.out with ⟨rfl, hl, hv⟩ | ⟨hl, hr⟩
        ·have HQ := hid (HWB.out.trans hv)
         rw [hFe] at hl
         have hl1 := beqD_yes hl
         have hl2 : (F.toList == [57, 50, 50, 51, 51, 55, 50, 48, 51, 54, 56, 53, 52, 55, 55, 53, 56, 48, 56]) = true := by rw [hl, lit_list]; rfl
         clear hl hv hRE
         go_wp2_with fail
         go_ret2
         exact ⟨by rw [HQ.out]; rfl, Below.refl _ _⟩
        ·rw [hFe] at hl hr
         have htest : (neg && (F.toList == [57, 50, 50, 51, 51, 55, 50, 48, 51, 54, 56, 53, 52, 55, 55, 53, 56, 48, 56])) = false := by
          rcases hl with rfl | h
          ·rfl
          ·rw [<- lit_list, beqD_no h, Bool.and_false]
         have HTe := hid htest
         have two : ∀ P : Prop, (neg = false -> P) -> (neg = true -> (F.toList == [57, 50, 50, 51, 51, 55, 50, 48, 51, 54, 56, 53, 52, 55, 55, 53, 56, 48, 56]) = false -> P) -> P := by
          intro P k1 k2
          rcases hn : neg with _ | _
          ·exact k1 hn
          ·refine k2 hn ?_
           have h9 := HTe.out
           rw [hn, Bool.true_and] at h9
           exact h9
         clear htest hl hRE
         rcases hr with ⟨u, hu, hr, hv⟩ | ⟨hr, hv⟩
         ·have HQ := hid (HWB.out.trans hv)
          have HRd := hid (read_some hr)
          have huI : (u : Int) <= 9223372036854775807 := by omega
          have hu0 : (0 : Int) <= u := by omega
          clear hr hv
          refine two _ (fun n1 => ?_) (fun n1 n2 => ?_)
          all_goals
           clear two
           subst n1
           go_wp2_with fail
           refine (c_spec_ReadInt F _ (by have := HFz.out; omega)).mono ?_
           rintro e w9 ⟨rfl, hb9⟩
           rw [HRd.out.1, HRd.out.2]
           go_wp2_with fail
           go_ret2
           exact ⟨by rw [HQ.out]; rfl, bel⟩
         ·have HQ := hid (HWB.out.trans hv)
          have HRd := hid (read_none hr)
          clear hr hv
          refine two _ (fun n1 => ?_) (fun n1 n2 => ?_)
          all_goals
           clear two
           subst n1
           go_wp2_with fail
           refine (c_spec_ReadInt F _ (by have := HFz.out; omega)).mono ?_
           rintro e w9 ⟨rfl, hb9⟩
           rw [HRd.out.1, HRd.out.2]
           go_wp2_with fail
           go_ret2
           exact ⟨by rw [HQ.out]; rfl, bel⟩
 ·have HQ := hid (show wholeB s i = (0, -1) by unfold wholeB; rw [if_neg (by omega)])
  have h0 : inB (i : Int) 0 ((s.size : Int) - 1) = false := decide_eq_false (by omega)
  go_enter Tryz.func194, Tryz.ntmps194
  go_wp2_with (first | (go_at_call 115; refine (c_spec_l01In _ _ _ _).mono ?_; rintro e w' ⟨rfl, rfl⟩))
  go_ret2
  exact ⟨by rw [HQ.out]; rfl, Below.refl _ _⟩
theorem wholeB_none {s : ByteArray} {i : Nat} (h : ¬ (byteI s i = 45 ∨ figI (byteI s i) = true)) : wholeB s i = (0, -1) := by
 unfold wholeB
 split
 ·rw [if_neg (fun e => h (.inl e))]
  refine wholeA_no (.inl ?_)
  rename_i hi
  rw [digE_at hi, if_neg (fun e => h (.inr e))]
 ·rfl
theorem sign_rest {s : ByteArray} {i : Nat} (h : i < s.size) (hm : markI (byteI s i) = 0) (hq : byteI s i ≠ 34) (h1 : wordB s i wT = false) (h2 : wordB s i wF = false) (h3 : wordB s i wN = false) : signB s i = if (wholeB s i).2 < 0 then (sign0, -1) else (⟨8, ⟨#[]⟩, (wholeB s i).1, i⟩, (wholeB s i).2) := by
 by_cases hn : byteI s i = 45 ∨ figI (byteI s i) = true
 ·exact sign_num h hm hq hn
 ·rw [sign_word h hm hq hn, h1, h2, h3, wholeB_none hn]
  rfl
theorem sign_hit {s : ByteArray} {i : Nat} {b : Int} (hb : byteI s i = b) (hb3 : b = 116 ∨ b = 102 ∨ b = 110) : markI (byteI s i) = 0 /\ byteI s i ≠ 34 /\ ¬ (byteI s i = 45 ∨ figI (byteI s i) = true) := by
 rw [hb]
 rcases hb3 with rfl | rfl | rfl <;> decide
theorem mark_at (b : Int) (k : Nat) (hk : k < 6) : markI b = (k : Int) + 1 ↔ b = (if k = 0 then 123 else if k = 1 then 125 else if k = 2 then 91 else if k = 3 then 93 else if k = 4 then 58 else 44) := by
 unfold markI
 rcases (show k = 0 ∨ k = 1 ∨ k = 2 ∨ k = 3 ∨ k = 4 ∨ k = 5 by omega) with rfl | rfl | rfl | rfl | rfl | rfl <;> simp <;> (repeat' split) <;> omega
theorem c_spec_SignAt (s : ByteArray) (i : Nat) (w : World) (hs : s.size <= 1048576) (hi : i <= 1048576) :
  Calls Tryz.prog 137 #[.string s, .int .i64 i] w fun e w' => e = .returned (.tuple #[.agg (signC (signB s i).1), .int .i64 (signB s i).2]) /\ Below w.heap.size w w' := by
 by_cases hlt : (i : Int) < s.size
 ·have hii : i < s.size := by omega
  have h0 : inB (i : Int) 0 ((s.size : Int) - 1) = true := decide_eq_true (by omega)
  have hz0 : (0 : Int) <= i := by omega
  obtain ⟨b, hb⟩ : ∃ b : Nat, b = (s.get! i).toNat := ⟨_, rfl⟩
  have hx : (s[i]'hii).toNat = b := by rw [hb]; exact get_byte s i hii
  have hby : byteI s i = b := by unfold byteI; rw [hb]
  have hb2 : b < 256 := by have := (s.get! i).toNat_lt; omega
  obtain ⟨m, hm⟩ : ∃ m, m = markI b := ⟨_, rfl⟩
  have hmr := markI_range b
  rw [<- hm] at hmr
  obtain ⟨hm0, hm6⟩ := hmr
  have HBy := hid hby
  have HM := hid hm
  clear hb hby hm
  go_enter Tryz.func137, Tryz.ntmps137
  go_wp2_with (first | (go_at_call 115; refine (c_spec_l01In _ _ _ _).mono ?_; rintro e w' ⟨rfl, rfl⟩))
  go_loopw [7] (fun s7 wr => ∃ k : Nat, k <= 6 /\ s7 = .int .i64 k /\ (m = 0 ∨ (k : Int) < m) /\ wr.heap[w.heap.size]? = some (.cells #[.int .i64 0, .string ⟨#[]⟩, .int .i64 0, .int .i64 0] 92 (0, 0)) /\ Below w.heap.size w wr) (fun s7 _ => 6 - (intOf s7).toNat)
  case atStart => exact ⟨0, by omega, rfl, by omega, heap_at (by simp), bel⟩
  case round =>
   obtain ⟨k, hk, rfl, hmk, hr4, hbr⟩ := hrel
   have HR4 := hid hr4
   have HBr := hid hbr
   have HMk := hid hmk
   have hbw : Below w.heap.size w wr := hbr
   clear hr4 hmk hbr
   by_cases hk6 : (k : Int) < 6
   ·have hk6n : k < 6 := by omega
    have hma := mark_at (b : Int) k hk6n
    rw [<- HM.out] at hma
    have HMa := hid hma
    clear hma
    obtain ⟨x0, x1, x2, x3, xf⟩ := row4 HR4.out
    have l4 := row_lt HR4.out
    by_cases hit : m = (k : Int) + 1
    ·have HF := hid (show signB s i = (⟨(k : Int) + 1, ⟨#[]⟩, 0, i⟩, (i : Int) + 1) by
      have h9 := sign_mark hii (by rw [HBy.out, <- HM.out]; omega)
      rw [HBy.out, <- HM.out, hit] at h9
      exact h9)
     have hbv := HMa.out.1 hit
     clear hit HMa
     rcases (show k = 0 ∨ k = 1 ∨ k = 2 ∨ k = 3 ∨ k = 4 ∨ k = 5 by omega) with rfl | rfl | rfl | rfl | rfl | rfl
     ·obtain rfl : b = 123 := by (have h9 : (b : Int) = 123 := by simpa using hbv); omega
      clear hbv
      go_wp2_with fail
      refine wp_region_det 7 (by kernel_rfl) (by kernel_rfl) (by decide) ?_
      iterate 7 refine ds ?_
      intro wq hbwq
      (try simp only [Act.put, List.setIfInBounds_toArray, List.set_cons_zero, List.set_cons_succ])
      (try simp only [List.drop_succ_cons, List.drop_nil])
      have Z4 := (hbwq.block w.heap.size l4).trans HR4.out
      obtain ⟨y0, y1, y2, y3, yf⟩ := row4 Z4
      have l5 := row_lt Z4
      have hB9 := HBr.out.trans (hbwq.mono HBr.out.size)
      clear Z4
      go_wp2_with fail
      exact bodyPost_ret (v := .tuple #[.agg #[.int .i64 1, .string ⟨#[]⟩, .int .i64 0, .int .i64 i], .int .i64 ((i : Int) + 1)]) (by simp only [results, Tryz.results137]; go_simp) rfl ⟨by rw [HF.out]; rfl, hB9.trans (Aside.below (S := fun b => b = w.heap.size) (a := wq) asd hB9.size (fun i hi => by omega))⟩
     ·obtain rfl : b = 125 := by (have h9 : (b : Int) = 125 := by simpa using hbv); omega
      clear hbv
      go_wp2_with fail
      refine wp_region_det 7 (by kernel_rfl) (by kernel_rfl) (by decide) ?_
      iterate 7 refine ds ?_
      intro wq hbwq
      (try simp only [Act.put, List.setIfInBounds_toArray, List.set_cons_zero, List.set_cons_succ])
      (try simp only [List.drop_succ_cons, List.drop_nil])
      have Z4 := (hbwq.block w.heap.size l4).trans HR4.out
      obtain ⟨y0, y1, y2, y3, yf⟩ := row4 Z4
      have l5 := row_lt Z4
      have hB9 := HBr.out.trans (hbwq.mono HBr.out.size)
      clear Z4
      go_wp2_with fail
      exact bodyPost_ret (v := .tuple #[.agg #[.int .i64 2, .string ⟨#[]⟩, .int .i64 0, .int .i64 i], .int .i64 ((i : Int) + 1)]) (by simp only [results, Tryz.results137]; go_simp) rfl ⟨by rw [HF.out]; rfl, hB9.trans (Aside.below (S := fun b => b = w.heap.size) (a := wq) asd hB9.size (fun i hi => by omega))⟩
     ·obtain rfl : b = 91 := by (have h9 : (b : Int) = 91 := by simpa using hbv); omega
      clear hbv
      go_wp2_with fail
      refine wp_region_det 7 (by kernel_rfl) (by kernel_rfl) (by decide) ?_
      iterate 7 refine ds ?_
      intro wq hbwq
      (try simp only [Act.put, List.setIfInBounds_toArray, List.set_cons_zero, List.set_cons_succ])
      (try simp only [List.drop_succ_cons, List.drop_nil])
      have Z4 := (hbwq.block w.heap.size l4).trans HR4.out
      obtain ⟨y0, y1, y2, y3, yf⟩ := row4 Z4
      have l5 := row_lt Z4
      have hB9 := HBr.out.trans (hbwq.mono HBr.out.size)
      clear Z4
      go_wp2_with fail
      exact bodyPost_ret (v := .tuple #[.agg #[.int .i64 3, .string ⟨#[]⟩, .int .i64 0, .int .i64 i], .int .i64 ((i : Int) + 1)]) (by simp only [results, Tryz.results137]; go_simp) rfl ⟨by rw [HF.out]; rfl, hB9.trans (Aside.below (S := fun b => b = w.heap.size) (a := wq) asd hB9.size (fun i hi => by omega))⟩
     ·obtain rfl : b = 93 := by (have h9 : (b : Int) = 93 := by simpa using hbv); omega
      clear hbv
      go_wp2_with fail
      refine wp_region_det 7 (by kernel_rfl) (by kernel_rfl) (by decide) ?_
      iterate 7 refine ds ?_
      intro wq hbwq
      (try simp only [Act.put, List.setIfInBounds_toArray, List.set_cons_zero, List.set_cons_succ])
      (try simp only [List.drop_succ_cons, List.drop_nil])
      have Z4 := (hbwq.block w.heap.size l4).trans HR4.out
      obtain ⟨y0, y1, y2, y3, yf⟩ := row4 Z4
      have l5 := row_lt Z4
      have hB9 := HBr.out.trans (hbwq.mono HBr.out.size)
      clear Z4
      go_wp2_with fail
      exact bodyPost_ret (v := .tuple #[.agg #[.int .i64 4, .string ⟨#[]⟩, .int .i64 0, .int .i64 i], .int .i64 ((i : Int) + 1)]) (by simp only [results, Tryz.results137]; go_simp) rfl ⟨by rw [HF.out]; rfl, hB9.trans (Aside.below (S := fun b => b = w.heap.size) (a := wq) asd hB9.size (fun i hi => by omega))⟩
     ·obtain rfl : b = 58 := by (have h9 : (b : Int) = 58 := by simpa using hbv); omega
      clear hbv
      go_wp2_with fail
      refine wp_region_det 7 (by kernel_rfl) (by kernel_rfl) (by decide) ?_
      iterate 7 refine ds ?_
      intro wq hbwq
      (try simp only [Act.put, List.setIfInBounds_toArray, List.set_cons_zero, List.set_cons_succ])
      (try simp only [List.drop_succ_cons, List.drop_nil])
      have Z4 := (hbwq.block w.heap.size l4).trans HR4.out
      obtain ⟨y0, y1, y2, y3, yf⟩ := row4 Z4
      have l5 := row_lt Z4
      have hB9 := HBr.out.trans (hbwq.mono HBr.out.size)
      clear Z4
      go_wp2_with fail
      exact bodyPost_ret (v := .tuple #[.agg #[.int .i64 5, .string ⟨#[]⟩, .int .i64 0, .int .i64 i], .int .i64 ((i : Int) + 1)]) (by simp only [results, Tryz.results137]; go_simp) rfl ⟨by rw [HF.out]; rfl, hB9.trans (Aside.below (S := fun b => b = w.heap.size) (a := wq) asd hB9.size (fun i hi => by omega))⟩
     ·obtain rfl : b = 44 := by (have h9 : (b : Int) = 44 := by simpa using hbv); omega
      clear hbv
      go_wp2_with fail
      refine wp_region_det 7 (by kernel_rfl) (by kernel_rfl) (by decide) ?_
      iterate 7 refine ds ?_
      intro wq hbwq
      (try simp only [Act.put, List.setIfInBounds_toArray, List.set_cons_zero, List.set_cons_succ])
      (try simp only [List.drop_succ_cons, List.drop_nil])
      have Z4 := (hbwq.block w.heap.size l4).trans HR4.out
      obtain ⟨y0, y1, y2, y3, yf⟩ := row4 Z4
      have l5 := row_lt Z4
      have hB9 := HBr.out.trans (hbwq.mono HBr.out.size)
      clear Z4
      go_wp2_with fail
      exact bodyPost_ret (v := .tuple #[.agg #[.int .i64 6, .string ⟨#[]⟩, .int .i64 0, .int .i64 i], .int .i64 ((i : Int) + 1)]) (by simp only [results, Tryz.results137]; go_simp) rfl ⟨by rw [HF.out]; rfl, hB9.trans (Aside.below (S := fun b => b = w.heap.size) (a := wq) asd hB9.size (fun i hi => by omega))⟩
    ·have hbv : ¬ (b : Int) = (if k = 0 then 123 else if k = 1 then 125 else if k = 2 then 91 else if k = 3 then 93 else if k = 4 then 58 else 44) := fun e => hit (HMa.out.2 e)
     have hnx : m = 0 ∨ (k : Int) + 1 < m := by have := HMk.out; omega
     have HNx := hid hnx
     clear hit HMa hnx
     rcases (show k = 0 ∨ k = 1 ∨ k = 2 ∨ k = 3 ∨ k = 4 ∨ k = 5 by omega) with rfl | rfl | rfl | rfl | rfl | rfl
     ·have hv : ¬ (b : Int) = 123 := by simpa using hbv
      have hv2 : ((123 : Int) == b) = false := beq_eq_false_iff_ne.2 (fun e => hv e.symm)
      have hv3 : ((b : Int) == 123) = false := beq_eq_false_iff_ne.2 hv
      have hk : ((⟨#[123, 125, 91, 93, 58, 44]⟩ : ByteArray)[0]'(by decide)).toNat = 123 := rfl
      clear hbv hv
      go_wp2_with fail
      refine wp_region_det 7 (by kernel_rfl) (by kernel_rfl) (by decide) ?_
      iterate 7 refine ds ?_
      intro wq hbwq
      (try simp only [Act.put, List.setIfInBounds_toArray, List.set_cons_zero, List.set_cons_succ])
      (try simp only [List.drop_succ_cons, List.drop_nil])
      have hB9 := HBr.out.trans (hbwq.mono HBr.out.size)
      have Z4 := hid ((hbwq.block w.heap.size l4).trans HR4.out)
      go_wp2_with fail
      go_roundw
      case rel => exact ⟨1, by omega, rfl, by have := HNx.out; omega, Z4.out, hB9⟩
      case measure => simp [intOf]
     ·have hv : ¬ (b : Int) = 125 := by simpa using hbv
      have hv2 : ((125 : Int) == b) = false := beq_eq_false_iff_ne.2 (fun e => hv e.symm)
      have hv3 : ((b : Int) == 125) = false := beq_eq_false_iff_ne.2 hv
      have hk : ((⟨#[123, 125, 91, 93, 58, 44]⟩ : ByteArray)[1]'(by decide)).toNat = 125 := rfl
      clear hbv hv
      go_wp2_with fail
      refine wp_region_det 7 (by kernel_rfl) (by kernel_rfl) (by decide) ?_
      iterate 7 refine ds ?_
      intro wq hbwq
      (try simp only [Act.put, List.setIfInBounds_toArray, List.set_cons_zero, List.set_cons_succ])
      (try simp only [List.drop_succ_cons, List.drop_nil])
      have hB9 := HBr.out.trans (hbwq.mono HBr.out.size)
      have Z4 := hid ((hbwq.block w.heap.size l4).trans HR4.out)
      go_wp2_with fail
      go_roundw
      case rel => exact ⟨2, by omega, rfl, by have := HNx.out; omega, Z4.out, hB9⟩
      case measure => simp [intOf]
     ·have hv : ¬ (b : Int) = 91 := by simpa using hbv
      have hv2 : ((91 : Int) == b) = false := beq_eq_false_iff_ne.2 (fun e => hv e.symm)
      have hv3 : ((b : Int) == 91) = false := beq_eq_false_iff_ne.2 hv
      have hk : ((⟨#[123, 125, 91, 93, 58, 44]⟩ : ByteArray)[2]'(by decide)).toNat = 91 := rfl
      clear hbv hv
      go_wp2_with fail
      refine wp_region_det 7 (by kernel_rfl) (by kernel_rfl) (by decide) ?_
      iterate 7 refine ds ?_
      intro wq hbwq
      (try simp only [Act.put, List.setIfInBounds_toArray, List.set_cons_zero, List.set_cons_succ])
      (try simp only [List.drop_succ_cons, List.drop_nil])
      have hB9 := HBr.out.trans (hbwq.mono HBr.out.size)
      have Z4 := hid ((hbwq.block w.heap.size l4).trans HR4.out)
      go_wp2_with fail
      go_roundw
      case rel => exact ⟨3, by omega, rfl, by have := HNx.out; omega, Z4.out, hB9⟩
      case measure => simp [intOf]
     ·have hv : ¬ (b : Int) = 93 := by simpa using hbv
      have hv2 : ((93 : Int) == b) = false := beq_eq_false_iff_ne.2 (fun e => hv e.symm)
      have hv3 : ((b : Int) == 93) = false := beq_eq_false_iff_ne.2 hv
      have hk : ((⟨#[123, 125, 91, 93, 58, 44]⟩ : ByteArray)[3]'(by decide)).toNat = 93 := rfl
      clear hbv hv
      go_wp2_with fail
      refine wp_region_det 7 (by kernel_rfl) (by kernel_rfl) (by decide) ?_
      iterate 7 refine ds ?_
      intro wq hbwq
      (try simp only [Act.put, List.setIfInBounds_toArray, List.set_cons_zero, List.set_cons_succ])
      (try simp only [List.drop_succ_cons, List.drop_nil])
      have hB9 := HBr.out.trans (hbwq.mono HBr.out.size)
      have Z4 := hid ((hbwq.block w.heap.size l4).trans HR4.out)
      go_wp2_with fail
      go_roundw
      case rel => exact ⟨4, by omega, rfl, by have := HNx.out; omega, Z4.out, hB9⟩
      case measure => simp [intOf]
     ·have hv : ¬ (b : Int) = 58 := by simpa using hbv
      have hv2 : ((58 : Int) == b) = false := beq_eq_false_iff_ne.2 (fun e => hv e.symm)
      have hv3 : ((b : Int) == 58) = false := beq_eq_false_iff_ne.2 hv
      have hk : ((⟨#[123, 125, 91, 93, 58, 44]⟩ : ByteArray)[4]'(by decide)).toNat = 58 := rfl
      clear hbv hv
      go_wp2_with fail
      refine wp_region_det 7 (by kernel_rfl) (by kernel_rfl) (by decide) ?_
      iterate 7 refine ds ?_
      intro wq hbwq
      (try simp only [Act.put, List.setIfInBounds_toArray, List.set_cons_zero, List.set_cons_succ])
      (try simp only [List.drop_succ_cons, List.drop_nil])
      have hB9 := HBr.out.trans (hbwq.mono HBr.out.size)
      have Z4 := hid ((hbwq.block w.heap.size l4).trans HR4.out)
      go_wp2_with fail
      go_roundw
      case rel => exact ⟨5, by omega, rfl, by have := HNx.out; omega, Z4.out, hB9⟩
      case measure => simp [intOf]
     ·have hv : ¬ (b : Int) = 44 := by simpa using hbv
      have hv2 : ((44 : Int) == b) = false := beq_eq_false_iff_ne.2 (fun e => hv e.symm)
      have hv3 : ((b : Int) == 44) = false := beq_eq_false_iff_ne.2 hv
      have hk : ((⟨#[123, 125, 91, 93, 58, 44]⟩ : ByteArray)[5]'(by decide)).toNat = 44 := rfl
      clear hbv hv
      go_wp2_with fail
      refine wp_region_det 7 (by kernel_rfl) (by kernel_rfl) (by decide) ?_
      iterate 7 refine ds ?_
      intro wq hbwq
      (try simp only [Act.put, List.setIfInBounds_toArray, List.set_cons_zero, List.set_cons_succ])
      (try simp only [List.drop_succ_cons, List.drop_nil])
      have hB9 := HBr.out.trans (hbwq.mono HBr.out.size)
      have Z4 := hid ((hbwq.block w.heap.size l4).trans HR4.out)
      go_wp2_with fail
      go_roundw
      case rel => exact ⟨6, by omega, rfl, by have := HNx.out; omega, Z4.out, hB9⟩
      case measure => simp [intOf]
   ·have HM0 := hid (show markI (byteI s i) = 0 by rw [HBy.out, <- HM.out]; have := HMk.out; omega)
    have l4 := row_lt HR4.out
    clear HMk
    go_wp2_with fail
    go_loopw [9] (fun s9 wv => ∃ k : Nat, k <= 3 /\ s9 = .int .i64 k /\ (1 <= k -> wordB s i wT = false) /\ (2 <= k -> wordB s i wF = false) /\ (3 <= k -> wordB s i wN = false) /\ wv.heap[w.heap.size]? = some (.cells #[.int .i64 0, .string ⟨#[]⟩, .int .i64 0, .int .i64 0] 92 (0, 0)) /\ wv.heap[wr.heap.size]? = some (.cells #[.string ⟨#[116, 114, 117, 101]⟩, .string ⟨#[102, 97, 108, 115, 101]⟩, .string ⟨#[110, 117, 108, 108]⟩] 9 (0, 0)) /\ Below wr.heap.size wr wv) (fun s9 _ => 3 - (intOf s9).toNat)
    case atStart => exact ⟨0, by omega, rfl, fun h => by omega, fun h => by omega, fun h => by omega, (Below.heap_alloc _ _ _ l4).trans HR4.out, heap_at (by simp), bel⟩
    case round =>
     obtain ⟨k, hk3, rfl, hw1, hw2, hw3, hz4, hzw, hbv⟩ := hrel
     have HW := hid (And.intro hw1 (And.intro hw2 hw3))
     have HZ4 := hid hz4
     have HZw := hid hzw
     have HBv := hid hbv
     have hbww := HBr.out.trans (hbv.mono HBr.out.size)
     have HBW := hid hbww
     obtain ⟨x0, x1, x2, x3, xf⟩ := row4 hz4
     obtain ⟨z0, z1, z2, zf⟩ := row3 hzw
     have l5 := row_lt hz4
     have l6 := row_lt hzw
     clear hw1 hw2 hw3 hz4 hzw hbv hbww
     by_cases hk4 : (k : Int) < 3
     ·rcases (show k = 0 ∨ k = 1 ∨ k = 2 by omega) with rfl | rfl | rfl
      ·rcases hwb : wordB s i wT with _ | _
       ·have HWb := hid hwb
        clear hwb
        go_wp2_with fail
        refine (c_l09Word s ⟨#[116, 114, 117, 101]⟩ i _ hs hi (by decide) (by decide)).mono ?_
        rintro e w9 ⟨rfl, rfl⟩
        rw [show wordB s i (⟨#[116, 114, 117, 101]⟩ : ByteArray).data.toList = false from HWb.out]
        go_wp2_with fail
        go_roundw
        case rel => exact ⟨1, by omega, rfl, fun _ => (by first | exact HWb.out | trivial), fun h => by omega, fun h => by omega, HZ4.out, HZw.out, HBv.out⟩
        case measure => simp [intOf]
       ·have HF := hid (show signB s i = (⟨9, ⟨#[]⟩, 0, i⟩, (i : Int) + 4) by
         have h9 := (word_first hwb).2
         obtain ⟨a1, a2, a3⟩ := sign_hit (s := s) (i := i) (b := 116) h9 (by omega)
         rw [sign_word hii a1 a2 a3, if_pos hwb])
        have hft := word_fits (by decide) hwb
        have hfi : (i : Int) + 4 <= s.size := by simp [wT] at hft; omega
        have HWb := hid hwb
        clear hwb hft
        go_wp2_with fail
        refine (c_l09Word s ⟨#[116, 114, 117, 101]⟩ i _ hs hi (by decide) (by decide)).mono ?_
        rintro e w9 ⟨rfl, rfl⟩
        rw [show wordB s i (⟨#[116, 114, 117, 101]⟩ : ByteArray).data.toList = true from HWb.out]
        go_wp2_with fail
        go_region_law (fail)
        all_goals
         (try go_wp2_with fail)
         have hw1 : IntKind.i64.wrap 9 = 9 := by rw [IntKind.wrap_i64]; omega
         have hw2 : IntKind.i64.wrap ((i : Int) + 4) = (i : Int) + 4 := by rw [IntKind.wrap_i64]; omega
         exact bodyPost_ret (v := .tuple #[.agg #[.int .i64 9, .string ⟨#[]⟩, .int .i64 0, .int .i64 i], .int .i64 ((i : Int) + 4)]) (by simp only [results, Tryz.results137]; go_simp) rfl ⟨by rw [HF.out]; rfl, (by have hbx := HBW.out; exact bel)⟩
      ·rcases hwb : wordB s i wF with _ | _
       ·have HWb := hid hwb
        clear hwb
        go_wp2_with fail
        refine (c_l09Word s ⟨#[102, 97, 108, 115, 101]⟩ i _ hs hi (by decide) (by decide)).mono ?_
        rintro e w9 ⟨rfl, rfl⟩
        rw [show wordB s i (⟨#[102, 97, 108, 115, 101]⟩ : ByteArray).data.toList = false from HWb.out]
        go_wp2_with fail
        go_roundw
        case rel => exact ⟨2, by omega, rfl, fun _ => HW.out.1 (by omega), fun _ => (by first | exact HWb.out | trivial), fun h => by omega, HZ4.out, HZw.out, HBv.out⟩
        case measure => simp [intOf]
       ·have HF := hid (show signB s i = (⟨10, ⟨#[]⟩, 0, i⟩, (i : Int) + 5) by
         have h9 := (word_first hwb).2
         obtain ⟨a1, a2, a3⟩ := sign_hit (s := s) (i := i) (b := 102) h9 (by omega)
         rw [sign_word hii a1 a2 a3, HW.out.1 (by omega), if_neg (by decide), if_pos hwb])
        have hft := word_fits (by decide) hwb
        have hfi : (i : Int) + 5 <= s.size := by simp [wF] at hft; omega
        have HWb := hid hwb
        clear hwb hft
        go_wp2_with fail
        refine (c_l09Word s ⟨#[102, 97, 108, 115, 101]⟩ i _ hs hi (by decide) (by decide)).mono ?_
        rintro e w9 ⟨rfl, rfl⟩
        rw [show wordB s i (⟨#[102, 97, 108, 115, 101]⟩ : ByteArray).data.toList = true from HWb.out]
        go_wp2_with fail
        go_region_law (fail)
        all_goals
         (try go_wp2_with fail)
         have hw1 : IntKind.i64.wrap 10 = 10 := by rw [IntKind.wrap_i64]; omega
         have hw2 : IntKind.i64.wrap ((i : Int) + 5) = (i : Int) + 5 := by rw [IntKind.wrap_i64]; omega
         exact bodyPost_ret (v := .tuple #[.agg #[.int .i64 10, .string ⟨#[]⟩, .int .i64 0, .int .i64 i], .int .i64 ((i : Int) + 5)]) (by simp only [results, Tryz.results137]; go_simp) rfl ⟨by rw [HF.out]; rfl, (by have hbx := HBW.out; exact bel)⟩
      ·rcases hwb : wordB s i wN with _ | _
       ·have HWb := hid hwb
        clear hwb
        go_wp2_with fail
        refine (c_l09Word s ⟨#[110, 117, 108, 108]⟩ i _ hs hi (by decide) (by decide)).mono ?_
        rintro e w9 ⟨rfl, rfl⟩
        rw [show wordB s i (⟨#[110, 117, 108, 108]⟩ : ByteArray).data.toList = false from HWb.out]
        go_wp2_with fail
        go_roundw
        case rel => exact ⟨3, by omega, rfl, fun _ => HW.out.1 (by omega), fun _ => HW.out.2.1 (by omega), fun _ => (by first | exact HWb.out | trivial), HZ4.out, HZw.out, HBv.out⟩
        case measure => simp [intOf]
       ·have HF := hid (show signB s i = (⟨11, ⟨#[]⟩, 0, i⟩, (i : Int) + 4) by
         have h9 := (word_first hwb).2
         obtain ⟨a1, a2, a3⟩ := sign_hit (s := s) (i := i) (b := 110) h9 (by omega)
         rw [sign_word hii a1 a2 a3, HW.out.1 (by omega), if_neg (by decide), HW.out.2.1 (by omega), if_neg (by decide), if_pos hwb])
        have hft := word_fits (by decide) hwb
        have hfi : (i : Int) + 4 <= s.size := by simp [wN] at hft; omega
        have HWb := hid hwb
        clear hwb hft
        go_wp2_with fail
        refine (c_l09Word s ⟨#[110, 117, 108, 108]⟩ i _ hs hi (by decide) (by decide)).mono ?_
        rintro e w9 ⟨rfl, rfl⟩
        rw [show wordB s i (⟨#[110, 117, 108, 108]⟩ : ByteArray).data.toList = true from HWb.out]
        go_wp2_with fail
        go_region_law (fail)
        all_goals
         (try go_wp2_with fail)
         have hw1 : IntKind.i64.wrap 11 = 11 := by rw [IntKind.wrap_i64]; omega
         have hw2 : IntKind.i64.wrap ((i : Int) + 4) = (i : Int) + 4 := by rw [IntKind.wrap_i64]; omega
         exact bodyPost_ret (v := .tuple #[.agg #[.int .i64 11, .string ⟨#[]⟩, .int .i64 0, .int .i64 i], .int .i64 ((i : Int) + 4)]) (by simp only [results, Tryz.results137]; go_simp) rfl ⟨by rw [HF.out]; rfl, (by have hbx := HBW.out; exact bel)⟩
     ·obtain rfl : k = 3 := by omega
      have h9w := HW.out
      by_cases c34 : (b : Int) = 34
      ·have HS2 := hid (sign_quot hii (show byteI s i = 34 by rw [HBy.out]; exact c34))
       have d34 : ((b : Int) == 34) = true := beq_iff_eq.2 c34
       clear c34
       obtain ⟨q, hq⟩ : ∃ q, q = (quotB s i).2 := ⟨_, rfl⟩
       obtain ⟨t, ht⟩ : ∃ t, t = (quotB s i).1 := ⟨_, rfl⟩
       rw [<- hq, <- ht] at HS2
       have HQT := hid (And.intro ht hq)
       clear hq ht h9w
       by_cases q0 : q < 0
       ·have HF := hid (show signB s i = (sign0, -1) by rw [HS2.out, if_pos q0])
        go_wp2_with fail
        refine (c_spec_ReadQuoted s i _ hs hi).mono ?_
        rintro e w1 ⟨rfl, hb1⟩
        rw [<- HQT.out.1, <- HQT.out.2]
        have Z4 := (hb1.block w.heap.size l5).trans HZ4.out
        obtain ⟨y0, y1, y2, y3, yf⟩ := row4 Z4
        have l7 := row_lt Z4
        have hB9 := HBW.out.trans (hb1.mono HBW.out.size)
        clear Z4
        go_wp2_with fail
        exact bodyPost_ret (v := .tuple #[.agg #[.int .i64 0, .string ⟨#[]⟩, .int .i64 0, .int .i64 0], .int .i64 (-1)]) (by simp only [results, Tryz.results137]; go_simp) rfl ⟨by rw [HF.out]; rfl, hB9.trans (Aside.below (S := fun b => b = w.heap.size) (a := w1) asd hB9.size (fun i hi => by omega))⟩
       ·have HF := hid (show signB s i = (⟨7, t, 0, i⟩, q) by rw [HS2.out, if_neg q0])
        have q1 : decide (q < 0) = false := decide_eq_false q0
        have q2 : 0 <= q := by omega
        clear q0
        go_wp2_with fail
        refine (c_spec_ReadQuoted s i _ hs hi).mono ?_
        rintro e w1 ⟨rfl, hb1⟩
        rw [<- HQT.out.1, <- HQT.out.2]
        have Z4 := (hb1.block w.heap.size l5).trans HZ4.out
        obtain ⟨y0, y1, y2, y3, yf⟩ := row4 Z4
        have l7 := row_lt Z4
        have hB9 := HBW.out.trans (hb1.mono HBW.out.size)
        clear Z4
        go_wp2_with fail
        exact bodyPost_ret (v := .tuple #[.agg #[.int .i64 7, .string t, .int .i64 0, .int .i64 i], .int .i64 q]) (by simp only [results, Tryz.results137]; go_simp) rfl ⟨by rw [HF.out]; rfl, hB9.trans (Aside.below (S := fun b => b = w.heap.size) (a := w1) asd hB9.size (fun i hi => by omega))⟩
      ·have HS2 := hid (sign_rest hii HM0.out (show byteI s i ≠ 34 by rw [HBy.out]; exact c34) (h9w.1 (by omega)) (h9w.2.1 (by omega)) (h9w.2.2 (by omega)))
       have d34 : ((b : Int) == 34) = false := beq_eq_false_iff_ne.2 c34
       clear c34
       obtain ⟨q, hq⟩ : ∃ q, q = (wholeB s i).2 := ⟨_, rfl⟩
       obtain ⟨t, ht⟩ : ∃ t, t = (wholeB s i).1 := ⟨_, rfl⟩
       rw [<- hq, <- ht] at HS2
       have HQT := hid (And.intro ht hq)
       have hqn := wholeB_next s i
       rw [<- hq, <- ht] at hqn
       have HQN := hid hqn
       clear hqn
       clear hq ht h9w
       by_cases q0 : q < 0
       ·have HF := hid (show signB s i = (sign0, -1) by rw [HS2.out, if_pos q0])
        go_wp2_with fail
        refine (c_spec_ReadWhole s i _ hs hi).mono ?_
        rintro e w1 ⟨rfl, hb1⟩
        rw [<- HQT.out.1, <- HQT.out.2]
        have Z4 := (hb1.block w.heap.size l5).trans HZ4.out
        obtain ⟨y0, y1, y2, y3, yf⟩ := row4 Z4
        have l7 := row_lt Z4
        have hB9 := HBW.out.trans (hb1.mono HBW.out.size)
        clear Z4
        go_wp2_with fail
        exact bodyPost_ret (v := .tuple #[.agg #[.int .i64 0, .string ⟨#[]⟩, .int .i64 0, .int .i64 0], .int .i64 (-1)]) (by simp only [results, Tryz.results137]; go_simp) rfl ⟨by rw [HF.out]; rfl, hB9.trans (Aside.below (S := fun b => b = w.heap.size) (a := w1) asd hB9.size (fun i hi => by omega))⟩
       ·have HF := hid (show signB s i = (⟨8, ⟨#[]⟩, t, i⟩, q) by rw [HS2.out, if_neg q0])
        have q1 : decide (q < 0) = false := decide_eq_false q0
        have q2 : 0 <= q := by omega
        clear q0
        go_wp2_with fail
        refine (c_spec_ReadWhole s i _ hs hi).mono ?_
        rintro e w1 ⟨rfl, hb1⟩
        rw [<- HQT.out.1, <- HQT.out.2]
        have Z4 := (hb1.block w.heap.size l5).trans HZ4.out
        obtain ⟨y0, y1, y2, y3, yf⟩ := row4 Z4
        have l7 := row_lt Z4
        have hB9 := HBW.out.trans (hb1.mono HBW.out.size)
        clear Z4
        go_wp2_with fail
        exact bodyPost_ret (v := .tuple #[.agg #[.int .i64 8, .string ⟨#[]⟩, .int .i64 t, .int .i64 i], .int .i64 q]) (by simp only [results, Tryz.results137]; go_simp) rfl ⟨by rw [HF.out]; rfl, hB9.trans (Aside.below (S := fun b => b = w.heap.size) (a := w1) asd hB9.size (fun i hi => by omega))⟩
 ·have HQ := hid (show signB s i = (sign0, -1) by unfold signB; rw [if_neg (by omega)])
  have h0 : inB (i : Int) 0 ((s.size : Int) - 1) = false := decide_eq_false (by omega)
  go_enter Tryz.func137, Tryz.ntmps137
  go_wp2_with (first | (go_at_call 115; refine (c_spec_l01In _ _ _ _).mono ?_; rintro e w' ⟨rfl, rfl⟩))
  exact bodyPost_ret (v := .tuple #[.agg #[.int .i64 0, .string ⟨#[]⟩, .int .i64 0, .int .i64 0], .int .i64 (-1)]) (by simp only [results, Tryz.results137]; go_simp) rfl ⟨by rw [HQ.out]; rfl, bel⟩
theorem row_aside {B : Nat} {w w' : World} {L : List SignD} {v : Value} (h : SignsE (B + 1) w L v) (hF : Aside (fun b => b = B) w w') : SignsE B w' L v :=
 (h.less (Nat.le_succ _)).carry (fun q hq => hF.block q (World.ownsRow.lt h q hq).2 (by have := (World.ownsRow.lt h q hq).1; omega))
theorem signsF_long {s : ByteArray} (h : 20000 < s.size) : signsF s = ([], ⟨1, 0, ⟨#[]⟩⟩) := by
 have e : textF s = ⟨1, 0, ⟨#[]⟩⟩ := by unfold textF; rw [if_pos h]
 unfold signsF
 rw [e, if_neg (by decide)]
theorem signsF_bad {s : ByteArray} (h : ¬ 20000 < s.size) (hb : 0 <= badAt s 0) : signsF s = ([], ⟨2, badAt s 0, ⟨#[]⟩⟩) := by
 have e : textF s = ⟨2, badAt s 0, ⟨#[]⟩⟩ := by unfold textF; rw [if_neg h, if_pos hb]
 unfold signsF
 rw [e, if_neg (by simp)]
theorem signsF_go {s : ByteArray} (h : ¬ 20000 < s.size) (hb : ¬ 0 <= badAt s 0) : signsF s = signsG s 0 [] := by
 have e : textF s = flt0 := by unfold textF; rw [if_neg h, if_neg hb]
 unfold signsF
 rw [e]
 exact if_pos rfl
theorem c_spec_SignsOf (s : ByteArray) (w : World) (hs : s.size <= 1048576) :
  Calls Tryz.prog 75 #[.string s] w fun e w' => ∃ (A : Option Addr) (c : Nat), e = .returned (.tuple #[.slice A (signsF s).1.length c, .agg (fltC (signsF s).2)]) /\ SignsE w.heap.size w' (signsF s).1 (.slice A (signsF s).1.length c) /\ Below w.heap.size w w' := by
 obtain ⟨i0, hi, hz0, hz1, hz2⟩ := info_parts (show (Tryz.prog.info? 92).map (fun i => (i.zero, i.size, i.bytes)) = some (some (.agg #[.int .i64 0, .string ⟨#[]⟩, .int .i64 0, .int .i64 0]), 4, 40) from by kernel_rfl)
 by_cases hl : (20000 : Int) < s.size
 ·have HF := hid (show signsF s = ([], ⟨1, 0, ⟨#[]⟩⟩) from signsF_long (by omega))
  go_enter Tryz.func75, Tryz.ntmps75
  go_wp2_with fail
  exact bodyPost_ret (v := .tuple #[.slice (some ⟨w.heap.size + 1, 0, none⟩) 0 0, .agg #[.int .i64 1, .int .i64 0, .string ⟨#[]⟩]]) (by simp only [results, Tryz.results75]; go_simp) rfl ⟨some ⟨w.heap.size + 1, 0, none⟩, 0, by rw [HF.out]; rfl, by rw [HF.out]; exact own_empty (by simp) (by simp), bel⟩
 ·have hl2 : s.size <= 20000 := by omega
  have hl3 : decide ((20000 : Int) < s.size) = false := decide_eq_false hl
  clear hl
  obtain ⟨y, hy⟩ : ∃ y, y = badAt s 0 := ⟨_, rfl⟩
  have HY := hid hy
  by_cases y0 : 0 <= y
  ·have HF := hid (show signsF s = ([], ⟨2, y, ⟨#[]⟩⟩) by rw [hy]; exact signsF_bad (by omega) (by rw [<- hy]; exact y0))
   clear hy
   go_enter Tryz.func75, Tryz.ntmps75
   go_wp2_with fail
   refine (c_l09Runes s _ hs).mono ?_
   rintro e w1 ⟨rfl, hb⟩
   rw [<- HY.out]
   have hbox : w1.heap[w.heap.size]? = some (.cells #[.int .i64 0, .int .i64 0, .string ⟨#[]⟩] 23 (0, 0)) := (hb.block w.heap.size (by simp; omega)).trans ((Below.heap_alloc _ _ _ (by simp)).trans (heap_at (by simp)))
   have l1 := row_lt hbox
   have hB1 : Below w.heap.size w w1 := bel
   have HNo := hid (RowE.below (show SignsE (w.heap.size + 1) ((w.alloc (.cells #[.int .i64 0, .int .i64 0, .string ⟨#[]⟩] 23)).alloc (.cells #[] 92)) [] (.slice (some ⟨w.heap.size + 1, 0, none⟩) 0 0) from own_empty (by simp) (by simp)) hb)
   obtain ⟨a0, a1, a2, af⟩ := row3 hbox
   clear hbox
   go_wp2_with fail
   exact bodyPost_ret (v := .tuple #[.slice (some ⟨w.heap.size + 1, 0, none⟩) 0 0, .agg #[.int .i64 2, .int .i64 y, .string ⟨#[]⟩]]) (by simp only [results, Tryz.results75]; go_simp) rfl ⟨some ⟨w.heap.size + 1, 0, none⟩, 0, by rw [HF.out]; rfl, by rw [HF.out]; exact row_aside HNo.out asd, bel⟩
  ·have HF := hid (show signsF s = signsG s 0 [] from signsF_go (by omega) (by rw [<- hy]; exact y0))
   have y1 : decide (0 <= y) = false := decide_eq_false y0
   clear hy y0
   go_enter Tryz.func75, Tryz.ntmps75
   go_wp2_with fail
   refine (c_l09Runes s _ hs).mono ?_
   rintro e w1 ⟨rfl, hb⟩
   rw [<- HY.out]
   have hbox : w1.heap[w.heap.size]? = some (.cells #[.int .i64 0, .int .i64 0, .string ⟨#[]⟩] 23 (0, 0)) := (hb.block w.heap.size (by simp; omega)).trans ((Below.heap_alloc _ _ _ (by simp)).trans (heap_at (by simp)))
   have l1 := row_lt hbox
   have HBox1 := hid hbox
   have hB1 : Below w.heap.size w w1 := bel
   have HNo1 := hid (RowE.below (show SignsE (w.heap.size + 1) ((w.alloc (.cells #[.int .i64 0, .int .i64 0, .string ⟨#[]⟩] 23)).alloc (.cells #[] 92)) [] (.slice (some ⟨w.heap.size + 1, 0, none⟩) 0 0) from own_empty (by simp) (by simp)) hb)
   have lno1 := (World.ownsRow.lt HNo1.out (w.heap.size + 1) rfl).2
   clear hbox
   go_wp2_with fail
   go_loopw [6, 7] (fun s5 s6 wr => ∃ (i n : Nat) (L : List SignD) (A : Option Addr) (c : Nat), i <= s.size /\ s6 = .int .i64 i /\ n = L.length /\ s5 = .slice A n c /\ n <= i /\ signsF s = signsG s i L /\ SignsE (w.heap.size + 2) wr L (.slice A n c) /\ SignsE (w.heap.size + 1) wr [] (.slice (some ⟨w.heap.size + 1, 0, none⟩) 0 0) /\ wr.heap[w.heap.size]? = some (.cells #[.int .i64 0, .int .i64 0, .string ⟨#[]⟩] 23 (0, 0)) /\ Below w.heap.size w wr) (fun _ s6 _ => s.size - (Lib.intOf s6).toNat)
   case atStart => exact ⟨0, 0, [], _, _, by omega, rfl, rfl, rfl, by omega, HF.out, own_empty (by first | rfl | simp) (by first | omega | (simp; omega)), HNo1.out.below bel, ((bel : Below w1.heap.size w1 _).block w.heap.size l1).trans HBox1.out, bel⟩
   case round =>
    obtain ⟨i, n, L, A, c, hil, rfl, hn, rfl, hni, hq, hR, hNo, hbox, hbr⟩ := hrel
    have HR := hid hR
    have HG := hid hq
    have HBox := hid hbox
    have HBr := hid hbr
    have HNo := hid hNo
    have HN := hid hn
    have lb := row_lt hbox
    clear hR hq hbox hn hNo
    by_cases hlt : (i : Int) < s.size
    ·have hii : i < s.size := by omega
     have h1 : decide ((s.size : Int) <= i) = false := decide_eq_false (by omega)
     have h2 : decide (s.size <= i) = false := decide_eq_false (by omega)
     have h3 : decide ((i : Int) < 0) = false := decide_eq_false (by omega)
     have hzi : (0 : Int) <= i := by omega
     obtain ⟨b, hb⟩ : ∃ b : Nat, b = (s.get! i).toNat := ⟨_, rfl⟩
     have hx : (s[i]'hii).toNat = b := by rw [hb]; exact get_byte s i hii
     have hby : byteI s i = b := by unfold byteI; rw [hb]
     have hb2 : b < 256 := by have := (s.get! i).toNat_lt; omega
     have HBy := hid hby
     clear hb hby
     by_cases hbl : blankI (b : Int) = true
     ·have HE := hid (show signsF s = signsG s (i + 1) L by rw [HG.out, signsG_blank hii (by rw [HBy.out]; exact hbl)])
      have h4 : b = 32 ∨ b = 9 ∨ b = 10 ∨ b = 13 := by unfold blankI at hbl; rw [decide_eq_true_iff] at hbl; omega
      clear hbl HBy
      rcases h4 with rfl | rfl | rfl | rfl
      all_goals
       go_wp2_with fail
       go_roundw
       case rel => exact ⟨i + 1, n, L, A, c, by omega, by go_num, HN.out, rfl, by omega, HE.out, HR.out, HNo.out, HBox.out, HBr.out⟩
       case measure => simp [Lib.intOf]; omega
     ·have hnb : ¬ blankI (byteI s i) = true := by rw [HBy.out]; exact hbl
      have h4 : ¬ (b : Int) = 32 /\ ¬ (b : Int) = 9 /\ ¬ (b : Int) = 10 /\ ¬ (b : Int) = 13 := by unfold blankI at hbl; rw [decide_eq_true_iff] at hbl; omega
      obtain ⟨m1, m2, m3, m4⟩ := h4
      have n1 : ((b : Int) == 32) = false := beq_eq_false_iff_ne.2 m1
      have n2 : ((b : Int) == 9) = false := beq_eq_false_iff_ne.2 m2
      have n3 : ((b : Int) == 10) = false := beq_eq_false_iff_ne.2 m3
      have n4 : ((b : Int) == 13) = false := beq_eq_false_iff_ne.2 m4
      clear hbl HBy m1 m2 m3 m4
      obtain ⟨x, hxx⟩ : ∃ x, x = (signB s i).1 := ⟨_, rfl⟩
      obtain ⟨q, hqq⟩ : ∃ q, q = (signB s i).2 := ⟨_, rfl⟩
      have hqn := signB_next s i
      rw [<- hqq] at hqn
      obtain ⟨xk, xt, xn, xp⟩ := x
      have HXQ := hid (And.intro hxx hqq)
      by_cases q0 : q < 0
      ·have HE := hid (show signsF s = ([], ⟨3, i, ⟨#[]⟩⟩) by rw [HG.out, signsG_bad hii hnb (by rw [<- hqq]; exact q0)])
       clear hxx hqq hqn hnb
       go_wp2_with fail
       refine (c_spec_SignAt s i _ hs (by omega)).mono ?_
       rintro e w2 ⟨rfl, hb2'⟩
       rw [<- HXQ.out.1, <- HXQ.out.2]
       simp only [signC]
       have B2 : Below w.heap.size w w2 := HBr.out.trans (hb2'.mono HBr.out.size)
       have hbox2 := (hb2'.block _ lb).trans HBox.out
       obtain ⟨a0, a1, a2, af⟩ := row3 hbox2
       have l2 := row_lt hbox2
       clear hbox2
       have HNo2 := hid (HNo.out.below hb2')
       go_wp2_with fail
       exact bodyPost_ret (v := .tuple #[.slice (some ⟨w.heap.size + 1, 0, none⟩) 0 0, .agg #[.int .i64 3, .int .i64 i, .string ⟨#[]⟩]]) (by simp only [results, Tryz.results75]; go_simp) rfl ⟨some ⟨w.heap.size + 1, 0, none⟩, 0, by rw [HE.out]; rfl, by rw [HE.out]; exact row_aside HNo2.out asd, bel⟩
      ·have HE := hid (show signsF s = signsG s q.toNat (L ++ [⟨xk, xt, xn, xp⟩]) by rw [HG.out, signsG_sign hii hnb (by rw [<- hqq]; exact q0), hxx, hqq])
       obtain ⟨p, rfl⟩ : ∃ p : Nat, q = p := ⟨q.toNat, by omega⟩
       have d0 : decide ((p : Int) < 0) = false := decide_eq_false q0
       have hip : i < p := by omega
       have hps : p <= s.size := by omega
       rw [Int.toNat_natCast] at HE
       clear hxx hqq hqn hnb q0
       go_wp2_with fail
       refine (c_spec_SignAt s i _ hs (by omega)).mono ?_
       rintro e w2 ⟨rfl, hb2'⟩
       rw [<- HXQ.out.1, <- HXQ.out.2]
       simp only [signC]
       have B2 : Below w.heap.size w w2 := HBr.out.trans (hb2'.mono HBr.out.size)
       have lno := (World.ownsRow.lt HNo.out (w.heap.size + 1) rfl).2
       have l2 : w.heap.size + 1 < w2.heap.size := Nat.lt_of_lt_of_le lno hb2'.size
       have hR2 := HR.out.below hb2'
       have HR2 := hid hR2
       clear hR2
       go_wp2_with (at_builtin; go_loud (refine wpList_append_rows (C := C_Sg) rfl (.tmp 59) (.tmp 61) 80 rfl (w.heap.size + 2) 92 i0 (.agg #[.int .i64 0, .string ⟨#[]⟩, .int .i64 0, .int .i64 0]) 4 40 Tryz.underlying80 hi hz0 hz1 hz2 rfl (by decide) encSg_len encSg_one encSg_C _ n L rfl HN.out.symm (HR2.out.below bel) [⟨xk, xt, xn, xp⟩] (some ⟨_, 0, none⟩) 1 1 _ _ rfl rfl (sl_oneG encSg_len _ _ rfl 92 _ rfl (by simp)) (by unfold maxLen; omega) (by omega) (by simp; omega) ?_))
       intro v' w3 hR3 hg3 ha3
       obtain ⟨A3, c3, rfl⟩ := hR3.form
       have hb3 : Below (w.heap.size + 2) w2 w3 := Below.grown ((bel : Below w2.heap.size w2 _).mono l2) hg3 (by simp; omega) (fun q hq => (World.ownsRow.lt HR2.out q hq).1)
       have Hb3 := hid hb3
       have HR3 := hid hR3
       have hln : (L ++ [(⟨xk, xt, xn, xp⟩ : SignD)]).length = n + 1 := by rw [List.length_append, <- HN.out]; rfl
       have HL := hid hln
       clear hR3 hg3 ha3 hb3 hln
       go_wp2_with fail
       go_roundw
       case rel => exact ⟨p, n + 1, L ++ [⟨xk, xt, xn, xp⟩], A3, c3, hps, rfl, HL.out.symm, by rw [HL.out], by omega, HE.out, by rw [<- HL.out]; exact HR3.out, (HNo.out.below hb2').carry (fun q hq => Hb3.out.block q (by simp [Value.ownBlock] at hq; omega)), ((Hb3.out.block w.heap.size (by omega)).trans (hb2'.block _ lb)).trans HBox.out, B2.trans (Hb3.out.mono (by omega))⟩
       case measure => simp [Lib.intOf]; omega
    ·have HE := hid (show signsF s = (L, flt0) by rw [HG.out, signsG_end (by omega)])
     obtain ⟨a0, a1, a2, af⟩ := row3 HBox.out
     go_wp2_with fail
     exact bodyPost_ret (v := .tuple #[.slice A n c, .agg #[.int .i64 0, .int .i64 0, .string ⟨#[]⟩]]) (by simp only [results, Tryz.results75]; go_simp) rfl ⟨A, c, by rw [HE.out, HN.out]; rfl, by
      rw [HE.out]
      show SignsE _ _ L (.slice A L.length c)
      rw [<- HN.out]
      exact row_aside (HR.out.less (Nat.le_succ _)) asd, bel⟩
theorem all_rdS (L : List SignD) (E : Int) (b : Nat) (hL : SgOk L) : ∀ n, T_valS L E b n := by
 intro n
 induction n using Nat.strongRecOn with
 | ind n ih =>
  cases n with
  | zero =>
   intro d p m w _ _ _ _ hn _
   simp [needJ] at hn
  | succ n => exact of_valS L E b n hL (of_listS L E b n hL (fun k hk => ih k (by omega))) (of_pairsS L E b n hL (fun k hk => ih k (by omega)))
theorem c_rdbs_sign (s : ByteArray) (w : World) (hs : s.size <= 1048576) (hf : (signsF s).2.code ≠ 0) :
  Calls Tryz.prog 35 #[.string s] w (ReadE (readB s) w) := by
 obtain ⟨r, hr⟩ : ∃ r, r = readB s := ⟨_, rfl⟩
 rw [<- hr]
 have HSg := hid (signsF_ok s)
 have HSg2 := hid (c_spec_SignsOf s)
 rw [readB_sign hf] at hr
 obtain ⟨L, hL⟩ : ∃ L, L = (signsF s).1 := ⟨_, rfl⟩
 obtain ⟨F, hF⟩ : ∃ F, F = (signsF s).2 := ⟨_, rfl⟩
 rw [<- hL] at HSg HSg2
 rw [<- hF] at HSg2
 have HR := hid (show r = (F, treeZ) by rw [hr, hF])
 have hfc : F.code ≠ 0 := by rw [hF]; exact hf
 clear hf
 clear hr hL hF
 obtain ⟨fc, fa, fp⟩ := F
 go_enter Tryz.func35, Tryz.ntmps35
 go_wp2_with fail
 refine (HSg2.out _ hs).mono ?_
 rintro e w1 ⟨A, c, rfl, hrow, hb1⟩
 have hrf : fltC ⟨fc, fa, fp⟩ = #[.int .i64 fc, .int .i64 fa, .string fp] := rfl
 rw [hrf]
 have HRow := hid hrow
 have HB1 := hid (bel : Below w.heap.size w w1)
 have HT2 := hid ((hb1.block w.heap.size (by simp; omega)).trans ((Below.heap_alloc _ _ _ (by simp)).trans (heap_at (w := w) (o := .cells #[.int .i64 0, .bool false, .int .i64 0, .string ⟨#[]⟩, .slice none 0 0, .slice none 0 0] 34) rfl)))
 have HT3 := hid ((hb1.block (w.heap.size + 1) (by simp)).trans (heap_at (w := w.alloc (.cells #[.int .i64 0, .bool false, .int .i64 0, .string ⟨#[]⟩, .slice none 0 0, .slice none 0 0] 34)) (o := .cells #[.int .i64 0, .int .i64 0, .string ⟨#[]⟩] 23) (by simp)))
 have l2 := row_lt HT2.out
 have l3 := row_lt HT3.out
 clear hrow hb1 hrf
 have dz : (fc != 0) = true := bne_iff_ne.2 hfc
 clear hfc
 go_wp2_with fail
 obtain ⟨w2, hw2⟩ : ∃ W, W = w1.alloc (.cells #[.int .i64 fc, .int .i64 fa, .string fp] 23) := ⟨_, rfl⟩
 rw [<- hw2]
 have hb2 : Below w1.heap.size w1 w2 := by rw [hw2]; exact bel
 have X2 : w2.heap[w1.heap.size]? = some (.cells #[.int .i64 fc, .int .i64 fa, .string fp] 23 (0, 0)) := by rw [hw2]; exact heap_at rfl
 have hB2 := HB1.out.trans (hb2.mono HB1.out.size)
 obtain ⟨v0, v1, v2, vf⟩ := row3 X2
 obtain ⟨x0, x1, x2, x3, x4, x5, xf⟩ := row6 ((hb2.block _ l2).trans HT2.out)
 obtain ⟨y0, y1, y2, yf⟩ := row3 ((hb2.block _ l3).trans HT3.out)
 have m0 := row_lt X2
 have m2 := Nat.lt_of_lt_of_le l2 hb2.size
 have m3 := Nat.lt_of_lt_of_le l3 hb2.size
 clear hw2 hb2 X2
 go_region_law (fail)
 all_goals
  (try go_wp2_with fail)
  exact bodyPost_ret (v := .tuple #[.agg #[.int .i64 0, .bool false, .int .i64 0, .string ⟨#[]⟩, .slice none 0 0, .slice none 0 0], .agg #[.int .i64 fc, .int .i64 fa, .string fp]]) (by simp only [results, Tryz.results35]; go_simp) rfl (ReadE.bad HR.out bel)
theorem c_rdbs_bad (s : ByteArray) (w : World) (hs : s.size <= 1048576) (f : Flt) (hf : (signsF s).2.code = 0) (hq : readJ (signsF s).1 s.size (2 * (signsF s).1.length + 4) (.value 1) 0 0 = .bad f) :
  Calls Tryz.prog 35 #[.string s] w (ReadE (readB s) w) := by
 obtain ⟨r, hr⟩ : ∃ r, r = readB s := ⟨_, rfl⟩
 rw [<- hr]
 have HSg := hid (signsF_ok s)
 have HSg2 := hid (c_spec_SignsOf s)
 rw [readB_bad hf hq] at hr
 obtain ⟨L, hL⟩ : ∃ L, L = (signsF s).1 := ⟨_, rfl⟩
 obtain ⟨F, hF⟩ : ∃ F, F = (signsF s).2 := ⟨_, rfl⟩
 rw [<- hL] at HSg HSg2
 rw [<- hF] at HSg2
 have HR := hid hr
 rw [<- hL] at hq
 have HQ := hid hq
 have hgd := readJ_good L s.size (2 * L.length + 4) (.value 1) 0 0 (Nat.zero_le _) (Nat.zero_le _) (by unfold needJ; simp only; omega)
 rw [hq] at hgd
 have hlen := HSg.out.len
 have hfc : F.code = 0 := by rw [hF]; exact hf
 have HAll := hid (fun b => all_rdS L s.size b HSg.out (2 * L.length + 4))
 clear hq hf
 clear hr hL hF
 obtain ⟨fc, fa, fp⟩ := F
 go_enter Tryz.func35, Tryz.ntmps35
 go_wp2_with fail
 refine (HSg2.out _ hs).mono ?_
 rintro e w1 ⟨A, c, rfl, hrow, hb1⟩
 have hrf : fltC ⟨fc, fa, fp⟩ = #[.int .i64 fc, .int .i64 fa, .string fp] := rfl
 rw [hrf]
 have HRow := hid hrow
 have HB1 := hid (bel : Below w.heap.size w w1)
 have HT2 := hid ((hb1.block w.heap.size (by simp; omega)).trans ((Below.heap_alloc _ _ _ (by simp)).trans (heap_at (w := w) (o := .cells #[.int .i64 0, .bool false, .int .i64 0, .string ⟨#[]⟩, .slice none 0 0, .slice none 0 0] 34) rfl)))
 have HT3 := hid ((hb1.block (w.heap.size + 1) (by simp)).trans (heap_at (w := w.alloc (.cells #[.int .i64 0, .bool false, .int .i64 0, .string ⟨#[]⟩, .slice none 0 0, .slice none 0 0] 34)) (o := .cells #[.int .i64 0, .int .i64 0, .string ⟨#[]⟩] 23) (by simp)))
 have l2 := row_lt HT2.out
 have l3 := row_lt HT3.out
 clear hrow hb1 hrf
 change fc = 0 at hfc
 subst hfc
 go_upto_region 5 with fail
 obtain ⟨w2, hw2⟩ : ∃ W, W = w1.alloc (.cells #[.int .i64 0, .int .i64 fa, .string fp] 23) := ⟨_, rfl⟩
 rw [<- hw2]
 have hb2 : Below w1.heap.size w1 w2 := by rw [hw2]; exact bel
 have HZ2 := hid (show w1.heap.size + 1 = w2.heap.size by rw [hw2]; simp)
 have hz2 : w1.heap.size < w2.heap.size := by rw [hw2]; simp
 have hz2a : w1.heap.size + 1 <= w2.heap.size := by rw [hw2]; simp
 have hz2b : w2.heap.size <= w1.heap.size + 1 := by rw [hw2]; simp
 obtain ⟨w3, hw3⟩ : ∃ W, W = w2.alloc (.cells #[.slice A L.length c, .int .i64 0, .int .i64 s.size, .int .i64 0, .int .i64 0, .int .i64 0, .string ⟨#[]⟩] 88) := ⟨_, rfl⟩
 have HW3 := hid hw3
 have hb3 : Below w2.heap.size w2 w3 := by rw [hw3]; exact bel
 have hz3 : w2.heap.size < w3.heap.size := by rw [hw3]; simp
 have hR3 : RdAtS L s.size (w1.heap.size + 1) 0 0 flt0 w3 := ⟨A, c, by rw [hw3]; exact heap_at HZ2.out, (RowE.less (HRow.out.below hb2) (Nat.zero_le _)).below hb3, fun g hg => by have := (World.ownsRow.lt HRow.out g hg).2; omega⟩
 have HR3 := hid hR3
 have HB3 := hid ((HB1.out.trans (hb2.mono HB1.out.size)).trans (hb3.mono (by have := HB1.out.size; omega)))
 have HT2b := hid ((hb3.block _ (by omega)).trans ((hb2.block _ l2).trans HT2.out))
 have HT3b := hid ((hb3.block _ (by omega)).trans ((hb2.block _ l3).trans HT3.out))
 have HK13 := hid (fun (q : Nat) (hq : q < w1.heap.size) => (hb3.block q (by omega)).trans (hb2.block q hq))
 clear hw2 hb2 hw3 hb3 hR3
 go_wp2_with fail
 rw [<- HW3.out]
 refine (HAll.out (w1.heap.size + 1) 1 0 0 w3 (by omega) (by omega) (Nat.zero_le _) (Nat.zero_le _) (by unfold needJ; simp only; omega) HR3.out).mono ?_
 intro e w4 hv4
 have hsw : w.heap.size + 1 < w2.heap.size := by have := HB1.out.size; omega
 obtain ⟨u0, u1, u2, u3, U4, u4, u44, U5, u5, u55, p4, m4, rfl, hR4, hp4, hA4⟩ := ValE.isBad HQ.out hv4
 have hs4 := hA4.size
 have hB4 : Below w.heap.size w w4 := HB3.out.trans (hA4.below HB3.out.size (fun i hi => by have := HB1.out.size; omega))
 have HT2c := (hA4.block _ (by omega) (by omega)).trans HT2b.out
 have HT3c := (hA4.block _ (by omega) (by omega)).trans HT3b.out
 obtain ⟨gc, ga, gp⟩ := f
 have dz : (gc != 0) = true := bne_iff_ne.2 hgd
 have dz2 : (gc == 0) = false := beq_eq_false_iff_ne.2 hgd
 have HR4 := hid hR4
 obtain ⟨A5, c5, hbx, -, -⟩ := hR4
 unfold rdC at hbx
 obtain ⟨a0, a1, a2, a3, a4, a5, a6, af⟩ := row7r hbx
 have lb := row_lt hbx
 clear hbx
 obtain ⟨x0, x1, x2, x3, x4, x5, xf⟩ := row6 HT2c
 obtain ⟨y0, y1, y2, yf⟩ := row3 HT3c
 have m2 := row_lt HT2c
 have m3 := row_lt HT3c
 clear hgd hv4 HT2c HT3c hA4
 go_upto_region 9 with fail
 go_region_law (fail)
 all_goals
  (try go_wp2_with fail)
  exact bodyPost_ret (v := .tuple #[.agg #[.int .i64 0, .bool false, .int .i64 0, .string ⟨#[]⟩, .slice none 0 0, .slice none 0 0], .agg #[.int .i64 gc, .int .i64 ga, .string gp]]) (by simp only [results, Tryz.results35]; go_simp) rfl (ReadE.bad HR.out bel)
theorem c_rdbs_more (s : ByteArray) (w : World) (hs : s.size <= 1048576) (t : TreeD) (p m : Nat) (hf : (signsF s).2.code = 0) (hq : readJ (signsF s).1 s.size (2 * (signsF s).1.length + 4) (.value 1) 0 0 = .good t p m) (hp : p < (signsF s).1.length) :
  Calls Tryz.prog 35 #[.string s] w (ReadE (readB s) w) := by
 obtain ⟨r, hr⟩ : ∃ r, r = readB s := ⟨_, rfl⟩
 rw [<- hr]
 have HSg := hid (signsF_ok s)
 have HSg2 := hid (c_spec_SignsOf s)
 rw [readB_more hf hq hp] at hr
 obtain ⟨L, hL⟩ : ∃ L, L = (signsF s).1 := ⟨_, rfl⟩
 obtain ⟨F, hF⟩ : ∃ F, F = (signsF s).2 := ⟨_, rfl⟩
 rw [<- hL] at HSg HSg2
 rw [<- hF] at HSg2
 rw [<- hL] at hp hr
 have HR := hid hr
 rw [<- hL] at hq
 have HQ := hid hq
 have hgd := readJ_good L s.size (2 * L.length + 4) (.value 1) 0 0 (Nat.zero_le _) (Nat.zero_le _) (by unfold needJ; simp only; omega)
 rw [hq] at hgd
 have hlen := HSg.out.len
 have hfc : F.code = 0 := by rw [hF]; exact hf
 have HAll := hid (fun b => all_rdS L s.size b HSg.out (2 * L.length + 4))
 clear hq hf
 clear hr hL hF
 obtain ⟨fc, fa, fp⟩ := F
 go_enter Tryz.func35, Tryz.ntmps35
 go_wp2_with fail
 refine (HSg2.out _ hs).mono ?_
 rintro e w1 ⟨A, c, rfl, hrow, hb1⟩
 have hrf : fltC ⟨fc, fa, fp⟩ = #[.int .i64 fc, .int .i64 fa, .string fp] := rfl
 rw [hrf]
 have HRow := hid hrow
 have HB1 := hid (bel : Below w.heap.size w w1)
 have HT2 := hid ((hb1.block w.heap.size (by simp; omega)).trans ((Below.heap_alloc _ _ _ (by simp)).trans (heap_at (w := w) (o := .cells #[.int .i64 0, .bool false, .int .i64 0, .string ⟨#[]⟩, .slice none 0 0, .slice none 0 0] 34) rfl)))
 have HT3 := hid ((hb1.block (w.heap.size + 1) (by simp)).trans (heap_at (w := w.alloc (.cells #[.int .i64 0, .bool false, .int .i64 0, .string ⟨#[]⟩, .slice none 0 0, .slice none 0 0] 34)) (o := .cells #[.int .i64 0, .int .i64 0, .string ⟨#[]⟩] 23) (by simp)))
 have l2 := row_lt HT2.out
 have l3 := row_lt HT3.out
 clear hrow hb1 hrf
 change fc = 0 at hfc
 subst hfc
 go_upto_region 5 with fail
 obtain ⟨w2, hw2⟩ : ∃ W, W = w1.alloc (.cells #[.int .i64 0, .int .i64 fa, .string fp] 23) := ⟨_, rfl⟩
 rw [<- hw2]
 have hb2 : Below w1.heap.size w1 w2 := by rw [hw2]; exact bel
 have HZ2 := hid (show w1.heap.size + 1 = w2.heap.size by rw [hw2]; simp)
 have hz2 : w1.heap.size < w2.heap.size := by rw [hw2]; simp
 have hz2a : w1.heap.size + 1 <= w2.heap.size := by rw [hw2]; simp
 have hz2b : w2.heap.size <= w1.heap.size + 1 := by rw [hw2]; simp
 obtain ⟨w3, hw3⟩ : ∃ W, W = w2.alloc (.cells #[.slice A L.length c, .int .i64 0, .int .i64 s.size, .int .i64 0, .int .i64 0, .int .i64 0, .string ⟨#[]⟩] 88) := ⟨_, rfl⟩
 have HW3 := hid hw3
 have hb3 : Below w2.heap.size w2 w3 := by rw [hw3]; exact bel
 have hz3 : w2.heap.size < w3.heap.size := by rw [hw3]; simp
 have hR3 : RdAtS L s.size (w1.heap.size + 1) 0 0 flt0 w3 := ⟨A, c, by rw [hw3]; exact heap_at HZ2.out, (RowE.less (HRow.out.below hb2) (Nat.zero_le _)).below hb3, fun g hg => by have := (World.ownsRow.lt HRow.out g hg).2; omega⟩
 have HR3 := hid hR3
 have HB3 := hid ((HB1.out.trans (hb2.mono HB1.out.size)).trans (hb3.mono (by have := HB1.out.size; omega)))
 have HT2b := hid ((hb3.block _ (by omega)).trans ((hb2.block _ l2).trans HT2.out))
 have HT3b := hid ((hb3.block _ (by omega)).trans ((hb2.block _ l3).trans HT3.out))
 have HK13 := hid (fun (q : Nat) (hq : q < w1.heap.size) => (hb3.block q (by omega)).trans (hb2.block q hq))
 clear hw2 hb2 hw3 hb3 hR3
 go_wp2_with fail
 rw [<- HW3.out]
 refine (HAll.out (w1.heap.size + 1) 1 0 0 w3 (by omega) (by omega) (Nat.zero_le _) (Nat.zero_le _) (by unfold needJ; simp only; omega) HR3.out).mono ?_
 intro e w4 hv4
 have hsw : w.heap.size + 1 < w2.heap.size := by have := HB1.out.size; omega
 obtain ⟨cs4, rfl, hO4, hR4, hA4⟩ := ValE.isGood HQ.out hv4
 obtain ⟨U4, u44, U5, u55, rfl, -⟩ := hO4.flat
 have hs4 := hA4.size
 have hB4 : Below w.heap.size w w4 := HB3.out.trans (hA4.below HB3.out.size (fun i hi => by have := HB1.out.size; omega))
 have HT2c := hid ((hA4.block _ (by omega) (by omega)).trans HT2b.out)
 have HT3c := hid ((hA4.block _ (by omega) (by omega)).trans HT3b.out)
 have dp : (p : Int) < L.length := by omega
 have hp0 : (0 : Int) <= p := by omega
 have HR4 := hid hR4
 obtain ⟨A5, c5, hbx, -, -⟩ := hR4
 unfold rdC at hbx
 obtain ⟨a0, a1, a2, a3, a4, a5, a6, af⟩ := row7r hbx
 have lb := row_lt hbx
 have hrow4 : SignsE 0 w4 L (.slice A L.length c) := RowE.less (HRow.out.carry (fun q hq => (hA4.block q (by have := (World.ownsRow.lt HRow.out q hq).2; omega) (by have := (World.ownsRow.lt HRow.out q hq).2; omega)).trans (HK13.out q (World.ownsRow.lt HRow.out q hq).2))) (Nat.zero_le _)
 obtain ⟨g, x, rfl, hx, hlc, lg, d0, d1, d2, d3⟩ := sign_row (p := p) hrow4 hp
 have HX := hid hx
 clear hbx hrow4 hx d0 d1 d2
 have a4' : w4.cell? ⟨w1.heap.size + 1, 4, none⟩ = some (.int .i64 0) := a4
 clear hgd hv4 hA4 a4 hO4
 go_wp2_with fail
 refine (c_rs_bad_new L s.size 4 x.at' (w1.heap.size + 1) p m flt0 _ (HR4.out.below bel) rfl).mono ?_
 rintro e w6 ⟨rfl, hR6, hA6⟩
 replace hR6 : RdAtS L s.size (w1.heap.size + 1) p m (badF L s.size 4 p) w6 := by
  have hpe : placeAt L s.size p = x.at' := by unfold placeAt; rw [HX.out]
  unfold badF
  rw [hpe]
  exact hR6
 have hs6 := hA6.size
 simp at hs6
 have hB6 : Below w.heap.size w w6 := Below.trans (b := w4.alloc (.cells #[.int .i64 t.kind, .bool t.flag, .int .i64 t.num, .string t.text, .slice U4 t.keys.length u44, .slice U5 t.kids.length u55] 34)) bel (hA6.below (by simp; have := hB4.size; omega) (fun i hi => by have := HB1.out.size; omega))
 have HT2d := (hA6.block _ (by simp; omega) (by omega)).trans ((Below.heap_alloc _ _ _ (by omega)).trans HT2c.out)
 have HT3d := (hA6.block _ (by simp; omega) (by omega)).trans ((Below.heap_alloc _ _ _ (by omega)).trans HT3c.out)
 clear a0 a1 a2 a3 a4' a5 a6 af
 obtain ⟨f, hfe⟩ : ∃ f, f = badF L s.size 4 p := ⟨_, rfl⟩
 rw [<- hfe] at hR6
 have HR2 := hid (show r = (f, treeZ) by rw [hfe]; exact HR.out)
 have hgc : f.code = 4 := by rw [hfe]; rfl
 clear hfe HR
 have HR := HR2
 obtain ⟨gc, ga, gp⟩ := f
 change gc = 4 at hgc
 subst hgc
 obtain ⟨A5, c5, hbx, -, -⟩ := hR6
 unfold rdC at hbx
 obtain ⟨a0, a1, a2, a3, a4, a5, a6, af⟩ := row7r hbx
 have lb := row_lt hbx
 clear hbx
 obtain ⟨x0, x1, x2, x3, x4, x5, xf⟩ := row6 HT2d
 obtain ⟨y0, y1, y2, yf⟩ := row3 HT3d
 have m2 := row_lt HT2d
 have m3 := row_lt HT3d
 clear HT2d HT3d hA6
 go_upto_region 9 with fail
 go_region_law (fail)
 all_goals
  (try go_wp2_with fail)
  exact bodyPost_ret (v := .tuple #[.agg #[.int .i64 0, .bool false, .int .i64 0, .string ⟨#[]⟩, .slice none 0 0, .slice none 0 0], .agg #[.int .i64 4, .int .i64 ga, .string gp]]) (by simp only [results, Tryz.results35]; go_simp) rfl (ReadE.bad HR.out bel)
theorem c_rdbs_good (s : ByteArray) (w : World) (hs : s.size <= 1048576) (t : TreeD) (p m : Nat) (hf : (signsF s).2.code = 0) (hq : readJ (signsF s).1 s.size (2 * (signsF s).1.length + 4) (.value 1) 0 0 = .good t p m) (hp : ¬ p < (signsF s).1.length) :
  Calls Tryz.prog 35 #[.string s] w (ReadE (readB s) w) := by
 obtain ⟨r, hr⟩ : ∃ r, r = readB s := ⟨_, rfl⟩
 rw [<- hr]
 have HSg := hid (signsF_ok s)
 have HSg2 := hid (c_spec_SignsOf s)
 rw [readB_good hf hq hp] at hr
 obtain ⟨L, hL⟩ : ∃ L, L = (signsF s).1 := ⟨_, rfl⟩
 obtain ⟨F, hF⟩ : ∃ F, F = (signsF s).2 := ⟨_, rfl⟩
 rw [<- hL] at HSg HSg2
 rw [<- hF] at HSg2
 rw [<- hL] at hp
 have HR := hid hr
 rw [<- hL] at hq
 have HQ := hid hq
 have hgd := readJ_good L s.size (2 * L.length + 4) (.value 1) 0 0 (Nat.zero_le _) (Nat.zero_le _) (by unfold needJ; simp only; omega)
 rw [hq] at hgd
 have hlen := HSg.out.len
 have hfc : F.code = 0 := by rw [hF]; exact hf
 have HAll := hid (fun b => all_rdS L s.size b HSg.out (2 * L.length + 4))
 clear hq hf
 clear hr hL hF
 obtain ⟨fc, fa, fp⟩ := F
 go_enter Tryz.func35, Tryz.ntmps35
 go_wp2_with fail
 refine (HSg2.out _ hs).mono ?_
 rintro e w1 ⟨A, c, rfl, hrow, hb1⟩
 have hrf : fltC ⟨fc, fa, fp⟩ = #[.int .i64 fc, .int .i64 fa, .string fp] := rfl
 rw [hrf]
 have HRow := hid hrow
 have HB1 := hid (bel : Below w.heap.size w w1)
 have HT2 := hid ((hb1.block w.heap.size (by simp; omega)).trans ((Below.heap_alloc _ _ _ (by simp)).trans (heap_at (w := w) (o := .cells #[.int .i64 0, .bool false, .int .i64 0, .string ⟨#[]⟩, .slice none 0 0, .slice none 0 0] 34) rfl)))
 have HT3 := hid ((hb1.block (w.heap.size + 1) (by simp)).trans (heap_at (w := w.alloc (.cells #[.int .i64 0, .bool false, .int .i64 0, .string ⟨#[]⟩, .slice none 0 0, .slice none 0 0] 34)) (o := .cells #[.int .i64 0, .int .i64 0, .string ⟨#[]⟩] 23) (by simp)))
 have l2 := row_lt HT2.out
 have l3 := row_lt HT3.out
 clear hrow hb1 hrf
 change fc = 0 at hfc
 subst hfc
 go_upto_region 5 with fail
 obtain ⟨w2, hw2⟩ : ∃ W, W = w1.alloc (.cells #[.int .i64 0, .int .i64 fa, .string fp] 23) := ⟨_, rfl⟩
 rw [<- hw2]
 have hb2 : Below w1.heap.size w1 w2 := by rw [hw2]; exact bel
 have HZ2 := hid (show w1.heap.size + 1 = w2.heap.size by rw [hw2]; simp)
 have hz2 : w1.heap.size < w2.heap.size := by rw [hw2]; simp
 have hz2a : w1.heap.size + 1 <= w2.heap.size := by rw [hw2]; simp
 have hz2b : w2.heap.size <= w1.heap.size + 1 := by rw [hw2]; simp
 obtain ⟨w3, hw3⟩ : ∃ W, W = w2.alloc (.cells #[.slice A L.length c, .int .i64 0, .int .i64 s.size, .int .i64 0, .int .i64 0, .int .i64 0, .string ⟨#[]⟩] 88) := ⟨_, rfl⟩
 have HW3 := hid hw3
 have hb3 : Below w2.heap.size w2 w3 := by rw [hw3]; exact bel
 have hz3 : w2.heap.size < w3.heap.size := by rw [hw3]; simp
 have hR3 : RdAtS L s.size (w1.heap.size + 1) 0 0 flt0 w3 := ⟨A, c, by rw [hw3]; exact heap_at HZ2.out, (RowE.less (HRow.out.below hb2) (Nat.zero_le _)).below hb3, fun g hg => by have := (World.ownsRow.lt HRow.out g hg).2; omega⟩
 have HR3 := hid hR3
 have HB3 := hid ((HB1.out.trans (hb2.mono HB1.out.size)).trans (hb3.mono (by have := HB1.out.size; omega)))
 have HT2b := hid ((hb3.block _ (by omega)).trans ((hb2.block _ l2).trans HT2.out))
 have HT3b := hid ((hb3.block _ (by omega)).trans ((hb2.block _ l3).trans HT3.out))
 have HK13 := hid (fun (q : Nat) (hq : q < w1.heap.size) => (hb3.block q (by omega)).trans (hb2.block q hq))
 clear hw2 hb2 hw3 hb3 hR3
 go_wp2_with fail
 rw [<- HW3.out]
 refine (HAll.out (w1.heap.size + 1) 1 0 0 w3 (by omega) (by omega) (Nat.zero_le _) (Nat.zero_le _) (by unfold needJ; simp only; omega) HR3.out).mono ?_
 intro e w4 hv4
 have hsw : w.heap.size + 1 < w2.heap.size := by have := HB1.out.size; omega
 obtain ⟨cs4, rfl, hO4, hR4, hA4⟩ := ValE.isGood HQ.out hv4
 have HO4 := hid hO4
 obtain ⟨U4, u44, U5, u55, rfl, -⟩ := hO4.flat
 have hs4 := hA4.size
 have hB4 : Below w.heap.size w w4 := HB3.out.trans (hA4.below HB3.out.size (fun i hi => by have := HB1.out.size; omega))
 have HT2c := (hA4.block _ (by omega) (by omega)).trans HT2b.out
 have HT3c := (hA4.block _ (by omega) (by omega)).trans HT3b.out
 have dp : decide ((p : Int) < L.length) = false := decide_eq_false (by omega)
 have dp2 : decide (p < L.length) = false := decide_eq_false hp
 obtain ⟨A5, c5, hbx, -, -⟩ := hR4
 unfold rdC at hbx
 obtain ⟨a0, a1, a2, a3, a4, a5, a6, af⟩ := row7r hbx
 have lb := row_lt hbx
 clear hbx
 have a4' : w4.cell? ⟨w1.heap.size + 1, 4, none⟩ = some (.int .i64 0) := a4
 obtain ⟨x0, x1, x2, x3, x4, x5, xf⟩ := row6 HT2c
 obtain ⟨y0, y1, y2, yf⟩ := row3 HT3c
 have m2 := row_lt HT2c
 have m3 := row_lt HT3c
 have HS4 := hid (show w.heap.size + 1 < w3.heap.size by omega)
 clear hgd hv4 hA4 a4 hO4 HT2c HT3c hp
 go_wp2_with fail
 refine bodyPost_ret (v := .tuple #[.agg #[.int .i64 t.kind, .bool t.flag, .int .i64 t.num, .string t.text, .slice U4 t.keys.length u44, .slice U5 t.kids.length u55], .agg #[.int .i64 0, .int .i64 0, .string ⟨#[]⟩]]) (by simp only [results, Tryz.results35]; go_simp) rfl ?_
 rw [HR.out]
 refine ⟨[.int .i64 t.kind, .bool t.flag, .int .i64 t.num, .string t.text, .slice U4 t.keys.length u44, .slice U5 t.kids.length u55], rfl, (HO4.out.up (by omega)).carry (fun x hx => Aside.block (S := fun q => q = w.heap.size ∨ q = w.heap.size + 1) (w := w4) asd x hx.2 (by have := HS4.out; have := hx.1; omega)) (fun x hx => ⟨by have := HS4.out; have := hx.1; omega, Nat.lt_of_lt_of_le hx.2 (Aside.size (S := fun q => q = w.heap.size ∨ q = w.heap.size + 1) (w := w4) asd)⟩), bel⟩
theorem c_spec_ReadBraced (s : ByteArray) (w : World) (hs : s.size <= 1048576) :
  Calls Tryz.prog 35 #[.string s] w (ReadE (readB s) w) := by
 by_cases hf : (signsF s).2.code = 0
 ·rcases hq : readJ (signsF s).1 s.size (2 * (signsF s).1.length + 4) (.value 1) 0 0 with f | ⟨t, p, m⟩
  ·exact c_rdbs_bad s w hs f hf hq
  ·by_cases hp : p < (signsF s).1.length
   ·exact c_rdbs_more s w hs t p m hf hq hp
   ·exact c_rdbs_good s w hs t p m hf hq hp
 ·exact c_rdbs_sign s w hs hf
end Go.Proofs.YtohcpifekcehjaaGreatDoor
