/- Steps to FnCrossed. No conditions. -/
import Derived.Test.YtohcpifekcehjaaGreatDoorKfcr3
import Derived.Test.YtohcpifekcehjaaGreatDoorKfcr5
import Derived.Test.YtohcpifekcehjaaGreatDoorKfcr1
import Derived.Deep.CutBlock
import Derived.Deep.CutRange
import Derived.Shelf.Lays
import Derived.Shelf.Strings.Prefix
import Derived.Test.YtohcpifekcehjaaGreatDoorKfcr4
import Derived.Test.YtohcpifekcehjaaGreatDoorKfcr2
import Derived.Laws.BitsLemmas
import Derived.Sort.Statements
import Derived.Deep.Cut
import Derived.Deep.RegionLaw
import Derived.Lib.Split
import Derived.Lib.SplitLaws
import Derived.Lib.Replace
set_option maxHeartbeats 16000000
set_option maxRecDepth 20000
namespace Go.Proofs.YtohcpifekcehjaaGreatDoor
open Go.RowKit Go.Lib
def dotI (b : Nat) : Int := if b = 46 then 0 else if b = 101 then 1 else if b = 69 then 2 else -1
theorem idx_dot : ∀ i : Fin 256, Lib.indexByte [46, 101, 69] (UInt8.ofNat i.val) = dotI i.val := by decide
theorem c_IndexDot (b : Nat) (hb : b < 256) (w : World) : Calls Tryz.prog 130 #[.string { data := #[46, 101, 69] }, .int .u8 b] w fun e w' => e = .returned (.int .i64 (dotI b)) /\ w = w' := by
 have h := c_strings_IndexByte { data := #[46, 101, 69] } (UInt8.ofNat b) w;have e1 : (UInt8.ofNat b).toNat = b := by rw [UInt8.toNat_ofNat']; exact Nat.mod_eq_of_lt hb
 rw [e1] at h;exact h.mono (fun _ _ h => ⟨h.1.trans (congrArg (fun z => Ending.returned (Value.int .i64 z)) (idx_dot ⟨b, hb⟩)), h.2⟩)
theorem c_impl_ReadWhole (s : ByteArray) (i : Nat) (w : World) (hs : s.size <= 1048576) (hi : i <= 1048576) (hE : ErrR w) :
  Calls Tryz.prog 209 #[.string s, .int .i64 i] w fun e w' => e = .returned (.tuple #[.int .i64 (wholeB s i).1, .int .i64 (wholeB s i).2]) /\ Below w.heap.size w w' := by
 have HE := hid hE;clear hE;by_cases hlt : (i : Int) < s.size
 ·have hii : i < s.size := by omega
  have h1 : decide ((s.size : Int) <= i) = false := decide_eq_false (by omega);have h2 : decide (s.size <= i) = false := decide_eq_false (by omega);have h3 : decide ((i : Int) < 0) = false := decide_eq_false (by omega);have hz0 : (0 : Int) <= i := by omega
  obtain ⟨b, hb⟩ : ∃ b : Nat, b = (s.get! i).toNat := ⟨_, rfl⟩
  have hx : (s[i]'hii).toNat = b := by rw [hb]; exact get_byte s i hii
  have hby : byteI s i = b := by unfold byteI; rw [hb]
  obtain ⟨a, ha⟩ : ∃ a, a = if byteI s i = 45 then i + 1 else i := ⟨_, rfl⟩
  have HBy := hid hby;have HA := hid ha;have hia : i <= a /\ a <= i + 1 := by rw [ha]; split <;> omega
  obtain ⟨e0, he0⟩ : ∃ e0, e0 = digE s a := ⟨_, rfl⟩
  have hE0 := digE_le s a;rw [<- he0] at hE0;have hae : a <= e0 := hE0.1;have hes : e0 <= s.size := hE0.2 (by omega);have HE0 := hid he0;obtain ⟨hia1, hia2⟩ := hia;clear hb hby ha he0 hE0;go_enter Tryz.func209, Tryz.ntmps209
  go_upto_if 22 with fail
  go_cut [6] from 19 to 24 (fun s6 wx => s6 = .int .i64 a /\ wx = w)
  case first =>
   by_cases e45 : (b : Int) = 45
   ·have haa : (i : Int) + 1 = a := by have := HA.out; rw [HBy.out, if_pos e45] at this; omega
    obtain rfl : b = 45 := by omega
    go_wp2_with fail
    go_meet
    exact ⟨rfl, rfl⟩
   ·have f45 : ((b : Int) == 45) = false := beq_eq_false_iff_ne.2 e45
    have haa : i = a := by have := HA.out; rw [HBy.out, if_neg e45] at this; omega
    have HAA := hid haa;clear haa e45;go_wp2_with fail
    go_meet
    exact ⟨by rw [HAA.out], rfl⟩
  case rest =>
   obtain ⟨rfl, rfl⟩ := hcut;go_upto_block 0 with fail
   go_cut [6] from 26 to 37 (fun s6 wx => s6 = .int .i64 e0 /\ wx = wc)
   case first =>
    go_wp2_with fail
    go_loopw [6] (fun s6 wr => ∃ j : Nat, a <= j /\ j <= e0 /\ s6 = .int .i64 j /\ digE s j = e0 /\ wr = wc) (fun s6 _ => s.size - (Lib.intOf s6).toNat)
    case atStart => exact ⟨a, Nat.le_refl _, hae, rfl, HE0.out.symm, rfl⟩
    case round =>
     obtain ⟨j, haj, hje, rfl, hdj, rfl⟩ := hrel;have HJ := hid hdj;clear hdj;by_cases hjl : (j : Int) < s.size
     ·have hjj : j < s.size := by omega
      have hj0 : (0 : Int) <= j := by omega
      obtain ⟨c, hc⟩ : ∃ c : Nat, c = (s.get! j).toNat := ⟨_, rfl⟩
      have hxj : (s[j]'hjj).toNat = c := by rw [hc]; exact get_byte s j hjj
      have hbj : byteI s j = c := by unfold byteI; rw [hc]
      have HC := hid hbj;have HD := hid (HJ.out.symm.trans (digE_at hjj));clear hc hbj;rcases hf : digitB (c : Int) with _ | _
      ·have HF := hid (show e0 = j by have h9 := HD.out; rw [HC.out, <- digit_fig, hf, if_neg (by decide)] at h9; exact h9)
       go_wp2_with (first | (go_at_call 201; refine (c_impl_isDigit _ _).mono ?_; rintro e w' ⟨rfl, rfl⟩))
       go_meet
       exact ⟨by rw [HF.out], rfl⟩
      ·have HF := hid (show digE s (j + 1) = e0 by have h9 := HD.out; rw [HC.out, <- digit_fig, hf, if_pos rfl] at h9; exact h9.symm)
       have hle := (digE_le s (j + 1)).1;rw [HF.out] at hle;go_wp2_with (first | (go_at_call 201; refine (c_impl_isDigit _ _).mono ?_; rintro e w' ⟨rfl, rfl⟩))
       go_roundw
       case rel => exact ⟨j + 1, by omega, hle, by go_num, HF.out, by first | rfl | exact True.intro⟩
       case measure => simp [Lib.intOf]; omega
     ·have HF := hid (show e0 = j by rw [<- HJ.out]; exact digE_end (by omega))
      go_wp2_with fail
      go_meet
      exact ⟨by rw [HF.out], rfl⟩
   case rest =>
    obtain ⟨rfl, rfl⟩ := hcut;by_cases c1 : (e0 : Int) = a
    ·have HQ := hid (show wholeB s i = (0, -1) by rw [wholeB_at hii HA.out]; exact wholeA_no (.inl (by rw [<- HE0.out]; omega)))
     have HC1 := hid c1;have g1 : ((e0 : Int) == a) = true := beq_iff_eq.2 c1;clear c1;go_wp2_with fail
     go_ret2
     exact ⟨by rw [HQ.out]; rfl, Below.refl _ _⟩
    ·have g1 : ((e0 : Int) == a) = false := beq_eq_false_iff_ne.2 c1
     have hlt2 : a < e0 := by omega
     have ham : a < s.size := by omega
     have haI : (a : Int) < s.size := by omega
     have ha0 : (0 : Int) <= a := by omega
     obtain ⟨ca, hca⟩ : ∃ c : Nat, c = (s.get! a).toNat := ⟨_, rfl⟩
     have hxa : (s[a]'ham).toNat = ca := by rw [hca]; exact get_byte s a ham
     have HCa := hid (show byteI s a = ca by unfold byteI; rw [hca]);clear hca c1;by_cases c2 : (ca : Int) = 48 /\ (a : Int) + 1 < e0
     ·have HQ := hid (show wholeB s i = (0, -1) by rw [wholeB_at hii HA.out]; exact wholeA_no (.inr (.inl ⟨by rw [HCa.out]; exact c2.1, by rw [<- HE0.out]; omega⟩)))
      obtain ⟨c21, c22⟩ := c2;obtain rfl : ca = 48 := by omega
      go_wp2_with fail
      go_ret2
      exact ⟨by rw [HQ.out]; rfl, Below.refl _ _⟩
     ·have tail : ∀ P : Prop, (((ca : Int) == 48) = false -> P) -> (ca = 48 -> decide ((a : Int) + 1 < e0) = false -> P) -> P := by
       intro P k1 k2;by_cases c : (ca : Int) = 48
       ·exact k2 (by omega) (decide_eq_false (fun h => c2 ⟨c, h⟩))
       ·exact k1 (beq_eq_false_iff_ne.2 c)
      have HC2 := hid c2;clear c2;by_cases c3 : (e0 : Int) < s.size
      ·have hej : e0 < s.size := by omega
       have he0 : (0 : Int) <= e0 := by omega
       obtain ⟨ce, hce⟩ : ∃ c : Nat, c = (s.get! e0).toNat := ⟨_, rfl⟩
       have hxe : (s[e0]'hej).toNat = ce := by rw [hce]; exact get_byte s e0 hej
       have HCe := hid (show byteI s e0 = ce by unfold byteI; rw [hce]);have hc256 : ce < 256 := by have := (s.get! e0).toNat_lt; omega
       clear hce;by_cases c4 : ce = 46 ∨ ce = 101 ∨ ce = 69
       ·have HQ := hid (show wholeB s i = (0, -1) by
         rw [wholeB_at hii HA.out];refine wholeA_no (.inr (.inr ⟨by rw [<- HE0.out]; exact hej, ?_⟩));rw [<- HE0.out, HCe.out]
         omega)
        have hd0 : ¬ dotI ce < 0 := by unfold dotI; rcases c4 with rfl | rfl | rfl <;> decide
        obtain ⟨dv, hdv⟩ : ∃ d, d = dotI ce := ⟨_, rfl⟩
        have hd1 : 0 <= dv := by omega
        have HDv := hid hdv;clear hd0 hdv c4;refine tail _ (fun t1 => ?_) (fun t1 t2 => ?_)
        all_goals
         clear tail
         (try subst t1)
         go_wp2_with (go_at_call 130; refine (c_IndexDot ce hc256 _).mono ?_; rintro e w9 ⟨rfl, rfl⟩; rw [<- HDv.out])
         go_ret2
         exact ⟨by rw [HQ.out]; rfl, Below.refl _ _⟩
       ·have HDv := hid (show dotI ce = -1 by unfold dotI; rw [if_neg (by omega), if_neg (by omega), if_neg (by omega)])
        have HW := hid (whole_atoi hii HA.out (by
         rw [<- HE0.out, HCa.out, HCe.out];rintro (h | h | h)
         ·omega
         ·exact HC2.out ⟨h.1, by omega⟩
         ·omega))
        rw [<- HE0.out] at HW;have hie : i <= e0 := by omega
        have hieI : (i : Int) <= e0 := by omega
        have hesI : (e0 : Int) <= s.size := by omega
        clear c4;refine tail _ (fun t1 => ?_) (fun t1 t2 => ?_)
        all_goals
         clear tail
         (try subst t1)
         rcases HW.out with ⟨v, hv1, hv2⟩ | ⟨hv1, hv2⟩
         focus
          have HV := hid hv1;have HQ := hid hv2;clear hv1 hv2;go_wp2_with (first | (go_at_call 130; refine (c_IndexDot ce hc256 _).mono ?_; rintro e w9 ⟨rfl, rfl⟩; rw [HDv.out]) | (go_at_call 204; refine (c_Atoi_ok _ v _ (by simp; omega) HV.out).mono ?_; rintro e w9 ⟨rfl, hb9⟩))
         rotate_left
         focus
          have HV := hid hv1;have HQ := hid hv2;clear hv1 hv2;go_wp2_with (first | (go_at_call 130; refine (c_IndexDot ce hc256 _).mono ?_; rintro e w9 ⟨rfl, rfl⟩; rw [HDv.out]) | (go_at_call 204; refine (c_Atoi_range _ _ (by simp; omega) HV.out HE.out).mono ?_; rintro e w9 ⟨xv, nv, rfl, hb9⟩))
         rotate_left
         all_goals
          go_ret2
          exact ⟨by rw [HQ.out]; rfl, bel⟩
      ·have heq : e0 = s.size := by omega
       have HW := hid (whole_atoi hii HA.out (by
        rw [<- HE0.out, HCa.out];rintro (h | h | h)
        ·omega
        ·exact HC2.out ⟨h.1, by omega⟩
        ·omega))
       rw [<- HE0.out] at HW;have hie : i <= e0 := by omega
       have hieI : (i : Int) <= e0 := by omega
       have hesI : (e0 : Int) <= s.size := by omega
       have hsz3 : decide ((e0 : Int) < s.size) = false := decide_eq_false c3;have hsz4 : decide (e0 < s.size) = false := decide_eq_false (by omega);clear heq c3;refine tail _ (fun t1 => ?_) (fun t1 t2 => ?_)
       all_goals
        clear tail
        (try subst t1)
        rcases HW.out with ⟨v, hv1, hv2⟩ | ⟨hv1, hv2⟩
        focus
         have HV := hid hv1;have HQ := hid hv2;clear hv1 hv2;go_wp2_with ((go_at_call 204; refine (c_Atoi_ok _ v _ (by simp; omega) HV.out).mono ?_; rintro e w9 ⟨rfl, hb9⟩))
        rotate_left
        focus
         have HV := hid hv1;have HQ := hid hv2;clear hv1 hv2;go_wp2_with ((go_at_call 204; refine (c_Atoi_range _ _ (by simp; omega) HV.out HE.out).mono ?_; rintro e w9 ⟨xv, nv, rfl, hb9⟩))
        rotate_left
        all_goals
         go_ret2
         exact ⟨by rw [HQ.out]; rfl, bel⟩
 ·have HQ := hid (show wholeB s i = (0, -1) by unfold wholeB; rw [if_neg (by omega)])
  have hz0 : (0 : Int) <= i := by omega
  go_enter Tryz.func209, Tryz.ntmps209
  go_wp2_with fail
  go_ret2
  exact ⟨by rw [HQ.out]; rfl, Below.refl _ _⟩
open Go.Shelf
def laysPre_ren : Go.Shelf.Ren := ⟨fun | 99 => 177 | 206 => 236 | n => n, fun | 9 => 9 | 4 => 4 | 3 => 3 | n => n, fun | n => n⟩
theorem laysPre : Go.Proofs.Lays.n99 Tryz.prog laysPre_ren := {
 mixed := by kernel_rfl
 f99 := Tryz.func177.trans (congrArg some (by kernel_rfl))
 f206 := Tryz.func236.trans (congrArg some (by kernel_rfl))
 t3 := Tryz.underlying3
 a3 := Tryz.isAgg3
 z3 := Tryz.sizeOf3
 v3 := Tryz.zeroValue3
 t4 := Tryz.underlying4
 a4 := Tryz.isAgg4
 z4 := Tryz.sizeOf4
 v4 := Tryz.zeroValue4
 t9 := Tryz.underlying9
 a9 := Tryz.isAgg9
 z9 := Tryz.sizeOf9
 v9 := Tryz.zeroValue9 }
def wordB (s : ByteArray) (i : Nat) (wl : List UInt8) : Bool := decide ((s.data.toList.drop i).take wl.length = wl)
def wT : List UInt8 := [116, 114, 117, 101]
def wF : List UInt8 := [102, 97, 108, 115, 101]
def wN : List UInt8 := [110, 117, 108, 108]
theorem word_prefix (s : ByteArray) (i : Nat) (wl : List UInt8) : hasPrefix (s.data.toList.drop i) wl = wordB s i wl := by
 unfold hasPrefix wordB;rw [Bool.eq_iff_iff, List.isPrefixOf_iff_prefix, List.prefix_iff_eq_take, decide_eq_true_eq];exact ⟨fun h => h.symm, fun h => h.symm⟩
theorem word_first {s : ByteArray} {i : Nat} {c : UInt8} {r : List UInt8} (h : wordB s i (c :: r) = true) : i < s.size /\ byteI s i = (c.toNat : Int) := by
 unfold wordB at h;rw [decide_eq_true_eq] at h;rcases hd : s.data.toList.drop i with _ | ⟨x, l⟩
 ·rw [hd] at h; simp at h
 ·rw [hd] at h
  simp at h
  have hlt : i < s.data.toList.length := by
   rcases Nat.lt_or_ge i s.data.toList.length with h1 | h1
   ·exact h1
   ·rw [List.drop_eq_nil_of_le h1] at hd; cases hd
  have hl2 : i < s.size := by rw [Array.length_toList] at hlt; exact hlt
  refine ⟨hl2, ?_⟩
  have h1 : s.data.toList[i]? = some x := by
   have h2 := congrArg (fun z : List UInt8 => z[0]?) hd;simp only [List.getElem?_drop, Nat.add_zero, List.getElem?_cons_zero] at h2;exact h2
  rw [List.getElem?_eq_getElem hlt, Array.getElem_toList] at h1;injection h1 with h1
  unfold byteI ByteArray.get!;show (((s.data[i]!).toNat : Nat) : Int) = _
  rw [getElem!_pos s.data i hl2, h1, h.1]
theorem word_fits {s : ByteArray} {i : Nat} {wl : List UInt8} (h0 : wl ≠ []) (h : wordB s i wl = true) : i + wl.length <= s.size := by
 unfold wordB at h;rw [decide_eq_true_eq] at h;have h1 := congrArg List.length h;rw [List.length_take, List.length_drop] at h1;have h2 : s.data.toList.length = s.size := by rw [Array.length_toList]; rfl
 have h3 : 0 < wl.length := List.length_pos_iff.2 h0;omega
theorem c_HasPrefix (s p : ByteArray) (w : World) : Calls Tryz.prog 177 #[.string s, .string p] w fun e w' => e = .returned (.bool (Lib.hasPrefix s.data.toList p.data.toList)) /\ w = w' := by
 have h := Any.strings_HasPrefix laysPre s p w;change Calls Tryz.prog 177 _ _ _ at h
 exact h.mono (fun _ _ h => ⟨h.1, h.2.symm⟩)
theorem extract_drop (s : ByteArray) (i : Nat) : (s.extract i s.size).data.toList = s.data.toList.drop i := by
 rw [ByteArray.data_extract, Array.toList_extract, List.extract_eq_take_drop];exact List.take_of_length_le (by rw [List.length_drop, Array.length_toList]; exact Nat.le_refl _)
def markI (x : Int) : Int := if x = 123 then 1 else if x = 125 then 2 else if x = 91 then 3 else if x = 93 then 4 else if x = 58 then 5 else if x = 44 then 6 else 0
def sign0 : SignD := ⟨0, ⟨#[]⟩, 0, 0⟩
def signC (x : SignD) : Array Value := #[.int .i64 x.kind, .string x.text, .int .i64 x.num, .int .i64 x.at']
def signB (s : ByteArray) (i : Nat) : SignD × Int :=
 if i < s.size then
  if markI (byteI s i) ≠ 0 then (⟨markI (byteI s i), ⟨#[]⟩, 0, i⟩, (i : Int) + 1)
  else if byteI s i = 34 then (if (quotB s i).2 < 0 then (sign0, -1) else (⟨7, (quotB s i).1, 0, i⟩, (quotB s i).2))
  else if byteI s i = 45 ∨ figI (byteI s i) = true then (if (wholeB s i).2 < 0 then (sign0, -1) else (⟨8, ⟨#[]⟩, (wholeB s i).1, i⟩, (wholeB s i).2))
  else if wordB s i wT = true then (⟨9, ⟨#[]⟩, 0, i⟩, (i : Int) + 4)
  else if wordB s i wF = true then (⟨10, ⟨#[]⟩, 0, i⟩, (i : Int) + 5)
  else if wordB s i wN = true then (⟨11, ⟨#[]⟩, 0, i⟩, (i : Int) + 4)
  else (sign0, -1)
 else (sign0, -1)
theorem sign_mark {s : ByteArray} {i : Nat} (h : i < s.size) (hm : markI (byteI s i) ≠ 0) : signB s i = (⟨markI (byteI s i), ⟨#[]⟩, 0, i⟩, (i : Int) + 1) := by unfold signB; rw [if_pos h, if_pos hm]
theorem sign_quot {s : ByteArray} {i : Nat} (h : i < s.size) (hq : byteI s i = 34) : signB s i = if (quotB s i).2 < 0 then (sign0, -1) else (⟨7, (quotB s i).1, 0, i⟩, (quotB s i).2) := by
 unfold signB;rw [if_pos h, if_neg (by rw [hq]; decide), if_pos hq]
theorem sign_num {s : ByteArray} {i : Nat} (h : i < s.size) (hm : markI (byteI s i) = 0) (hq : byteI s i ≠ 34) (hn : byteI s i = 45 ∨ figI (byteI s i) = true) : signB s i = if (wholeB s i).2 < 0 then (sign0, -1) else (⟨8, ⟨#[]⟩, (wholeB s i).1, i⟩, (wholeB s i).2) := by
 unfold signB;rw [if_pos h, if_neg (by rw [hm]; decide), if_neg hq, if_pos hn]
theorem sign_word {s : ByteArray} {i : Nat} (h : i < s.size) (hm : markI (byteI s i) = 0) (hq : byteI s i ≠ 34) (hn : ¬ (byteI s i = 45 ∨ figI (byteI s i) = true)) : signB s i = if wordB s i wT = true then (⟨9, ⟨#[]⟩, 0, i⟩, (i : Int) + 4)
  else if wordB s i wF = true then (⟨10, ⟨#[]⟩, 0, i⟩, (i : Int) + 5)
  else if wordB s i wN = true then (⟨11, ⟨#[]⟩, 0, i⟩, (i : Int) + 4)
  else (sign0, -1) := by
 unfold signB;rw [if_pos h, if_neg (by rw [hm]; decide), if_neg hq, if_neg hn]
theorem idx_mark : ∀ i : Fin 256, Lib.indexByte [123, 125, 91, 93, 58, 44] (UInt8.ofNat i.val) = markI i.val - 1 := by decide
theorem c_IndexMark (b : Nat) (hb : b < 256) (w : World) : Calls Tryz.prog 130 #[.string { data := #[123, 125, 91, 93, 58, 44] }, .int .u8 b] w fun e w' => e = .returned (.int .i64 (markI b - 1)) /\ w = w' := by
 have h := c_strings_IndexByte { data := #[123, 125, 91, 93, 58, 44] } (UInt8.ofNat b) w;have e1 : (UInt8.ofNat b).toNat = b := by rw [UInt8.toNat_ofNat']; exact Nat.mod_eq_of_lt hb
 rw [e1] at h;exact h.mono (fun _ _ h => ⟨h.1.trans (congrArg (fun z => Ending.returned (Value.int .i64 z)) (idx_mark ⟨b, hb⟩)), h.2⟩)
theorem markI_range (x : Int) : 0 <= markI x /\ markI x <= 6 := by
 unfold markI;repeat' split
 all_goals omega
theorem wholeB_next (s : ByteArray) (i : Nat) : ((wholeB s i).2 < 0 ∨ ((i : Int) < (wholeB s i).2 /\ (wholeB s i).2 <= s.size)) /\ -9223372036854775808 <= (wholeB s i).1 /\ (wholeB s i).1 <= 9223372036854775807 := by
 have key : ∀ (neg : Bool) (a : Nat), i <= a -> a <= s.size -> ((wholeA s neg a).2 < 0 ∨ ((i : Int) < (wholeA s neg a).2 /\ (wholeA s neg a).2 <= s.size)) /\ -9223372036854775808 <= (wholeA s neg a).1 /\ (wholeA s neg a).1 <= 9223372036854775807 := by
  intro neg a h1 h2;have h3 := digE_le s a;have h4 := h3.2 h2;unfold wholeA;by_cases hc : digE s a = a ∨ (byteI s a = 48 /\ a + 1 < digE s a) ∨ (digE s a < s.size /\ (byteI s (digE s a) = 46 ∨ byteI s (digE s a) = 101 ∨ byteI s (digE s a) = 69))
  ·rw [if_pos hc]; simp only; omega
  ·rw [if_neg hc]
   have h5 : digE s a ≠ a := fun e => hc (.inl e)
   cases neg
   focus
    rw [if_neg (by decide)]
   rotate_left
   focus
    rw [if_pos rfl]
   rotate_left
   all_goals
    split
    ·simp only; omega
    ·simp only; omega
 unfold wholeB;split
 ·split
  ·exact key true (i + 1) (by omega) (by omega)
  ·exact key false i (by omega) (by omega)
 ·simp only; omega
theorem quotB_next (s : ByteArray) (i : Nat) : (quotB s i).2 < 0 ∨ ((i : Int) < (quotB s i).2 /\ (quotB s i).2 <= s.size) := by
 have key : ∀ (k j : Nat) (acc : List UInt8), i < j -> ((quotR s k j acc).2 < 0 ∨ ((i : Int) < (quotR s k j acc).2 /\ (quotR s k j acc).2 <= s.size)) := by
  intro k;induction k with
  | zero => intro j acc _; unfold quotR; left; decide
  | succ k ih =>
   intro j acc hj;unfold quotR;split
   ·split
    ·right; simp only; omega
    ·split
     ·left; decide
     ·have h := (quotN_next s j).1
      exact ih _ _ (by omega)
   ·left; decide
 unfold quotB;split
 ·split
  ·exact key _ _ _ (by omega)
  ·left; decide
 ·left; decide
def stW (s : ByteArray) (i : Nat) : Nat -> Int × Int
 | 0 => (0, -1)
 | k + 1 => if wordB s i (if k = 0 then wT else if k = 1 then wF else wN) = true then (9 + (k : Int), (i : Int) + ((if k = 0 then wT else if k = 1 then wF else wN) : List UInt8).length) else stW s i k
theorem stW_end (s : ByteArray) (i : Nat) : stW s i 3 = if wordB s i wT = true then (9, (i : Int) + 4) else if wordB s i wF = true then (10, (i : Int) + 5) else if wordB s i wN = true then (11, (i : Int) + 4) else (0, -1) := by
 have e3 : stW s i 3 = if wordB s i wN = true then (11, (i : Int) + 4) else if wordB s i wF = true then (10, (i : Int) + 5) else if wordB s i wT = true then (9, (i : Int) + 4) else (0, -1) := rfl
 rw [e3];have t1 : wordB s i wT = true -> byteI s i = 116 := fun h => (word_first h).2
 have t2 : wordB s i wF = true -> byteI s i = 102 := fun h => (word_first h).2
 have t3 : wordB s i wN = true -> byteI s i = 110 := fun h => (word_first h).2
 by_cases h1 : wordB s i wT = true
 ·rw [if_neg (fun h => by have := t1 h1; have := t3 h; omega), if_neg (fun h => by have := t1 h1; have := t2 h; omega), if_pos h1, if_pos h1]
 ·by_cases h2 : wordB s i wF = true
  ·rw [if_neg (fun h => by have := t2 h2; have := t3 h; omega), if_pos h2, if_neg h1, if_pos h2]
  ·by_cases h3 : wordB s i wN = true
   ·rw [if_pos h3, if_neg h1, if_neg h2, if_pos h3]
   ·rw [if_neg h3, if_neg h2, if_neg h1, if_neg h1, if_neg h2, if_neg h3]
theorem sign_st {s : ByteArray} {i : Nat} (h : i < s.size) (hm : markI (byteI s i) = 0) (hq : byteI s i ≠ 34) (hn : ¬ (byteI s i = 45 ∨ figI (byteI s i) = true)) : signB s i = if (stW s i 3).2 < 0 then (sign0, -1) else (⟨(stW s i 3).1, ⟨#[]⟩, 0, i⟩, (stW s i 3).2) := by
 rw [sign_word h hm hq hn, stW_end];by_cases h1 : wordB s i wT = true
 ·rw [if_pos h1, if_pos h1, if_neg (by simp only; omega)]
 ·rw [if_neg h1, if_neg h1]
  by_cases h2 : wordB s i wF = true
  ·rw [if_pos h2, if_pos h2, if_neg (by simp only; omega)]
  ·rw [if_neg h2, if_neg h2]
   by_cases h3 : wordB s i wN = true
   ·rw [if_pos h3, if_pos h3, if_neg (by simp only; omega)]
   ·rw [if_neg h3, if_neg h3, if_pos (by decide)]
theorem stW_range (s : ByteArray) (i : Nat) : ∀ k, k <= 3 -> ((stW s i k).2 < 0 ∨ ((i : Int) < (stW s i k).2 /\ (stW s i k).2 <= s.size /\ (stW s i k).2 <= i + 5)) /\ 0 <= (stW s i k).1 /\ (stW s i k).1 <= 11
 | 0, _ => by unfold stW; simp
 | k + 1, hk => by
  have ih := stW_range s i k (by omega);unfold stW;by_cases h : wordB s i (if k = 0 then wT else if k = 1 then wF else wN) = true
  ·rw [if_pos h]
   rcases (show k = 0 ∨ k = 1 ∨ k = 2 by omega) with rfl | rfl | rfl
   ·have := word_fits (by decide) h; simp [wT] at this ⊢; omega
   ·have := word_fits (by decide) h; simp [wF] at this ⊢; omega
   ·have := word_fits (by decide) h; simp [wN] at this ⊢; omega
  ·rw [if_neg h]
   exact ih
theorem c_impl_SignAt (s : ByteArray) (i : Nat) (w : World) (hs : s.size <= 1048576) (hi : i <= 1048576) (hV : CTab w) (hT : Tabs w) (hE : ErrR w) :
  Calls Tryz.prog 131 #[.string s, .int .i64 i] w fun e w' => e = .returned (.tuple #[.agg (signC (signB s i).1), .int .i64 (signB s i).2]) /\ Below w.heap.size w w' := by
 have HVT := hid (And.intro hV (And.intro hT hE));clear hV hT hE;by_cases hlt : (i : Int) < s.size
 ·have hii : i < s.size := by omega
  have h1 : decide ((s.size : Int) <= i) = false := decide_eq_false (by omega);have h2 : decide (s.size <= i) = false := decide_eq_false (by omega);have h3 : decide ((i : Int) < 0) = false := decide_eq_false (by omega);have hz0 : (0 : Int) <= i := by omega
  obtain ⟨b, hb⟩ : ∃ b : Nat, b = (s.get! i).toNat := ⟨_, rfl⟩
  have hx : (s[i]'hii).toNat = b := by rw [hb]; exact get_byte s i hii
  have hby : byteI s i = b := by unfold byteI; rw [hb]
  have hb2 : b < 256 := by have := (s.get! i).toNat_lt; omega
  obtain ⟨m, hm⟩ : ∃ m, m = markI b := ⟨_, rfl⟩
  have hmr := markI_range b;rw [<- hm] at hmr;obtain ⟨hm0, hm6⟩ := hmr;have HBy := hid hby;have HM := hid hm;clear hb hby hm;by_cases c0 : m = 0
  ·obtain rfl := c0
   by_cases c34 : (b : Int) = 34
   ·have HS2 := hid (show signB s i = if (quotB s i).2 < 0 then (sign0, -1) else (⟨7, (quotB s i).1, 0, i⟩, (quotB s i).2) from sign_quot hii (by rw [HBy.out]; exact c34))
    have d34 : ((b : Int) == 34) = true := beq_iff_eq.2 c34;clear c34;obtain ⟨q, hq⟩ : ∃ q, q = (quotB s i).2 := ⟨_, rfl⟩
    obtain ⟨t, ht⟩ : ∃ t, t = (quotB s i).1 := ⟨_, rfl⟩
    have hqn := quotB_next s i;rw [<- hq] at hqn;rw [<- hq, <- ht] at HS2;have HQT := hid (And.intro ht hq);have HQN := hid hqn;clear hq ht hqn;by_cases q0 : q < 0
    ·have HF := hid (show signB s i = (sign0, -1) by rw [HS2.out, if_pos q0])
     go_enter Tryz.func131, Tryz.ntmps131
     go_wp2_with (first | (go_at_call 130; refine (c_IndexMark b hb2 _).mono ?_; rintro e w9 ⟨rfl, rfl⟩; rw [<- HM.out]) | (go_at_call 201; refine (c_impl_isDigit _ _).mono ?_; rintro e w' ⟨rfl, rfl⟩))
     refine (c_impl_ReadQuoted s i _ hs hi (HVT.out.1.below bel) (HVT.out.2.1.below bel)).mono ?_;rintro e w1 ⟨rfl, hb1⟩;rw [<- HQT.out.1, <- HQT.out.2];have Z4 : w1.heap[w.heap.size]? = some (.cells #[.int .i64 0, .string ⟨#[]⟩, .int .i64 0, .int .i64 0] 92 (0, 0)) := (hb1.block w.heap.size (by simp; omega)).trans ((Below.heap_alloc _ _ _ (by simp)).trans (heap_at (by simp)));have Z6 : w1.heap[w.heap.size + 1]? = some (.cells #[.int .i64 7, .string ⟨#[]⟩, .int .i64 0, .int .i64 i] 92 (0, 0)) := (hb1.block (w.heap.size + 1) (by simp)).trans (heap_at (by simp))
     obtain ⟨x0, x1, x2, x3, xf⟩ := row4 Z4;obtain ⟨y0, y1, y2, y3, yf⟩ := row4 Z6;have l4 := row_lt Z4;have l6 := row_lt Z6;clear Z4 Z6;go_wp2_with fail
     exact bodyPost_ret (v := .tuple #[.agg #[.int .i64 0, .string ⟨#[]⟩, .int .i64 0, .int .i64 0], .int .i64 (-1)]) (by simp only [results, Tryz.results131]; go_simp) rfl ⟨by rw [HF.out]; rfl, bel⟩
    ·have HF := hid (show signB s i = (⟨7, t, 0, i⟩, q) by rw [HS2.out, if_neg q0])
     have q1 : decide (q < 0) = false := decide_eq_false q0;have q2 : 0 <= q := by omega
     clear q0;go_enter Tryz.func131, Tryz.ntmps131
     go_wp2_with (first | (go_at_call 130; refine (c_IndexMark b hb2 _).mono ?_; rintro e w9 ⟨rfl, rfl⟩; rw [<- HM.out]) | (go_at_call 201; refine (c_impl_isDigit _ _).mono ?_; rintro e w' ⟨rfl, rfl⟩))
     refine (c_impl_ReadQuoted s i _ hs hi (HVT.out.1.below bel) (HVT.out.2.1.below bel)).mono ?_;rintro e w1 ⟨rfl, hb1⟩;rw [<- HQT.out.1, <- HQT.out.2];have Z4 : w1.heap[w.heap.size]? = some (.cells #[.int .i64 0, .string ⟨#[]⟩, .int .i64 0, .int .i64 0] 92 (0, 0)) := (hb1.block w.heap.size (by simp; omega)).trans ((Below.heap_alloc _ _ _ (by simp)).trans (heap_at (by simp)));have Z6 : w1.heap[w.heap.size + 1]? = some (.cells #[.int .i64 7, .string ⟨#[]⟩, .int .i64 0, .int .i64 i] 92 (0, 0)) := (hb1.block (w.heap.size + 1) (by simp)).trans (heap_at (by simp))
     obtain ⟨x0, x1, x2, x3, xf⟩ := row4 Z4;obtain ⟨y0, y1, y2, y3, yf⟩ := row4 Z6;have l4 := row_lt Z4;have l6 := row_lt Z6;clear Z4 Z6;go_wp2_with fail
     exact bodyPost_ret (v := .tuple #[.agg #[.int .i64 7, .string t, .int .i64 0, .int .i64 i], .int .i64 q]) (by simp only [results, Tryz.results131]; go_simp) rfl ⟨by rw [HF.out]; rfl, bel⟩
   ·have HN34 := hid c34
    have d34 : ((b : Int) == 34) = false := beq_eq_false_iff_ne.2 c34;clear c34;by_cases cn : (b : Int) = 45 ∨ figI b = true
    ·have HS3 := hid (show signB s i = if (wholeB s i).2 < 0 then (sign0, -1) else (⟨8, ⟨#[]⟩, (wholeB s i).1, i⟩, (wholeB s i).2) from sign_num hii (by rw [HBy.out]; exact HM.out.symm) (by rw [HBy.out]; exact HN34.out) (by rw [HBy.out]; exact cn))
     have test : ∀ P : Prop, (((b : Int) == 45) = true -> P) -> (((b : Int) == 45) = false -> digitB (b : Int) = true -> P) -> P := by
      intro P k1 k2;by_cases h8 : (b : Int) = 45
      ·exact k1 (beq_iff_eq.2 h8)
      ·exact k2 (beq_eq_false_iff_ne.2 h8) (by rw [digit_fig]; exact cn.resolve_left h8)
     clear cn;obtain ⟨q, hq⟩ : ∃ q, q = (wholeB s i).2 := ⟨_, rfl⟩
     obtain ⟨t, ht⟩ : ∃ t, t = (wholeB s i).1 := ⟨_, rfl⟩
     have hqn := wholeB_next s i;rw [<- hq, <- ht] at hqn;rw [<- hq, <- ht] at HS3;have HQT := hid (And.intro ht hq);have HQN := hid hqn;clear hq ht hqn;by_cases q0 : q < 0
     ·have HF := hid (show signB s i = (sign0, -1) by rw [HS3.out, if_pos q0])
      refine test _ (fun t1 => ?_) (fun t1 t2 => ?_)
      all_goals
       clear test;go_enter Tryz.func131, Tryz.ntmps131
       go_wp2_with (first | (go_at_call 130; refine (c_IndexMark b hb2 _).mono ?_; rintro e w9 ⟨rfl, rfl⟩; rw [<- HM.out]) | (go_at_call 201; refine (c_impl_isDigit _ _).mono ?_; rintro e w' ⟨rfl, rfl⟩))
       refine (c_impl_ReadWhole s i _ hs hi (HVT.out.2.2.below bel)).mono ?_;rintro e w1 ⟨rfl, hb1⟩;rw [<- HQT.out.1, <- HQT.out.2];have Z4 : w1.heap[w.heap.size]? = some (.cells #[.int .i64 0, .string ⟨#[]⟩, .int .i64 0, .int .i64 0] 92 (0, 0)) := (hb1.block w.heap.size (by simp; omega)).trans ((Below.heap_alloc _ _ _ (by simp)).trans (heap_at (by simp)));have Z6 : w1.heap[w.heap.size + 1]? = some (.cells #[.int .i64 8, .string ⟨#[]⟩, .int .i64 0, .int .i64 i] 92 (0, 0)) := (hb1.block (w.heap.size + 1) (by simp)).trans (heap_at (by simp))
       obtain ⟨x0, x1, x2, x3, xf⟩ := row4 Z4;obtain ⟨y0, y1, y2, y3, yf⟩ := row4 Z6;have l4 := row_lt Z4;have l6 := row_lt Z6;clear Z4 Z6;go_wp2_with fail
       exact bodyPost_ret (v := .tuple #[.agg #[.int .i64 0, .string ⟨#[]⟩, .int .i64 0, .int .i64 0], .int .i64 (-1)]) (by simp only [results, Tryz.results131]; go_simp) rfl ⟨by rw [HF.out]; rfl, bel⟩
     ·have HF := hid (show signB s i = (⟨8, ⟨#[]⟩, t, i⟩, q) by rw [HS3.out, if_neg q0])
      have q1 : decide (q < 0) = false := decide_eq_false q0;have q2 : 0 <= q := by omega
      clear q0;refine test _ (fun t1 => ?_) (fun t1 t2 => ?_)
      all_goals
       clear test;go_enter Tryz.func131, Tryz.ntmps131
       go_wp2_with (first | (go_at_call 130; refine (c_IndexMark b hb2 _).mono ?_; rintro e w9 ⟨rfl, rfl⟩; rw [<- HM.out]) | (go_at_call 201; refine (c_impl_isDigit _ _).mono ?_; rintro e w' ⟨rfl, rfl⟩))
       refine (c_impl_ReadWhole s i _ hs hi (HVT.out.2.2.below bel)).mono ?_;rintro e w1 ⟨rfl, hb1⟩;rw [<- HQT.out.1, <- HQT.out.2];have Z4 : w1.heap[w.heap.size]? = some (.cells #[.int .i64 0, .string ⟨#[]⟩, .int .i64 0, .int .i64 0] 92 (0, 0)) := (hb1.block w.heap.size (by simp; omega)).trans ((Below.heap_alloc _ _ _ (by simp)).trans (heap_at (by simp)));have Z6 : w1.heap[w.heap.size + 1]? = some (.cells #[.int .i64 8, .string ⟨#[]⟩, .int .i64 0, .int .i64 i] 92 (0, 0)) := (hb1.block (w.heap.size + 1) (by simp)).trans (heap_at (by simp))
       obtain ⟨x0, x1, x2, x3, xf⟩ := row4 Z4;obtain ⟨y0, y1, y2, y3, yf⟩ := row4 Z6;have l4 := row_lt Z4;have l6 := row_lt Z6;clear Z4 Z6;go_wp2_with fail
       exact bodyPost_ret (v := .tuple #[.agg #[.int .i64 8, .string ⟨#[]⟩, .int .i64 t, .int .i64 i], .int .i64 q]) (by simp only [results, Tryz.results131]; go_simp) rfl ⟨by rw [HF.out]; rfl, bel⟩
    ·have HS3 := hid (sign_st hii (by rw [HBy.out]; exact HM.out.symm) (by rw [HBy.out]; exact HN34.out) (by rw [HBy.out]; exact cn))
     have d45 : ((b : Int) == 45) = false := beq_eq_false_iff_ne.2 (fun h => cn (.inl h));have ddg : digitB (b : Int) = false := by rw [digit_fig]; rcases h9 : figI (b : Int) with _ | _; rfl; exact absurd (.inr h9) cn
     clear cn;have hisz : (i : Int) <= s.size := by omega
     have hex := hid (extract_drop s i);go_enter Tryz.func131, Tryz.ntmps131
     go_wp2_with (first | (go_at_call 130; refine (c_IndexMark b hb2 _).mono ?_; rintro e w9 ⟨rfl, rfl⟩; rw [<- HM.out]) | (go_at_call 201; refine (c_impl_isDigit _ _).mono ?_; rintro e w' ⟨rfl, rfl⟩))
     go_loopw [7, 30] (fun s7 s30 wr => ∃ (k : Nat) (K E : Int), k <= 3 /\ s30 = .int .i64 k /\ s7 = .int .i64 E /\ stW s i k = (K, E) /\ wr.heap[w.heap.size + 1]? = some (.cells #[.int .i64 K, .string ⟨#[]⟩, .int .i64 0, .int .i64 i] 92 (0, 0)) /\ wr.heap[w.heap.size]? = some (.cells #[.int .i64 0, .string ⟨#[]⟩, .int .i64 0, .int .i64 0] 92 (0, 0)) /\ wr.heap[w.heap.size + 1 + 1]? = some (.cells #[.string ⟨#[116, 114, 117, 101]⟩, .string ⟨#[102, 97, 108, 115, 101]⟩, .string ⟨#[110, 117, 108, 108]⟩] 9 (0, 0)) /\ Below w.heap.size w wr) (fun _ s30 _ => 3 - (Lib.intOf s30).toNat)
     case atStart => exact ⟨0, 0, -1, by omega, rfl, rfl, rfl, (Below.heap_alloc _ _ _ (by simp)).trans (heap_at (by simp)), (Below.heap_alloc _ _ _ (by simp; omega)).trans ((Below.heap_alloc _ _ _ (by simp)).trans (heap_at (by simp))), heap_at (by simp), bel⟩
     case round =>
      obtain ⟨k, K, E, hk, rfl, rfl, hst, hr6, hr4, hrw, hbr⟩ := hrel;obtain ⟨x0, x1, x2, x3, xf⟩ := row4 hr6;obtain ⟨y0, y1, y2, y3, yf⟩ := row4 hr4;obtain ⟨z0, z1, z2, zf⟩ := row3 hrw;have l6 := row_lt hr6;have l4 := row_lt hr4;have lw := row_lt hrw;have HR6 := hid hr6;have HR4 := hid hr4;have HRw := hid hrw;have HBr := hid hbr;have hrg := stW_range s i k hk;rw [hst] at hrg
      have HSt := hid hst;have HRg := hid hrg;clear hr6 hr4 hrw hbr hst hrg;by_cases hk3 : (k : Int) < 3
      ·have hp : Lib.hasPrefix (s.extract i s.size).data.toList (if k = 0 then wT else if k = 1 then wF else wN) = wordB s i (if k = 0 then wT else if k = 1 then wF else wN) := by rw [hex.out]; exact word_prefix s i _
       have hk3n : k < 3 := by omega
       have HN := hid (show stW s i (k + 1) = if wordB s i (if k = 0 then wT else if k = 1 then wF else wN) = true then (9 + (k : Int), (i : Int) + ((if k = 0 then wT else if k = 1 then wF else wN) : List UInt8).length) else (K, E) by rw [<- HSt.out]; rfl);rcases hwb : wordB s i (if k = 0 then wT else if k = 1 then wF else wN) with _ | _
       ·rw [hwb] at hp
        have HN2 := hid (show stW s i (k + 1) = (K, E) by rw [HN.out, hwb]; rfl);have HP := hid hp;clear hp hwb;rcases (show k = 0 ∨ k = 1 ∨ k = 2 by omega) with rfl | rfl | rfl
        all_goals
         go_wp2_with fail
         refine (c_HasPrefix _ _ _).mono ?_;rintro e w9 ⟨rfl, rfl⟩;first | rw [show Lib.hasPrefix (s.extract i s.size).data.toList ({ data := #[116, 114, 117, 101] } : ByteArray).data.toList = false from HP.out] | rw [show Lib.hasPrefix (s.extract i s.size).data.toList ({ data := #[102, 97, 108, 115, 101] } : ByteArray).data.toList = false from HP.out] | rw [show Lib.hasPrefix (s.extract i s.size).data.toList ({ data := #[110, 117, 108, 108] } : ByteArray).data.toList = false from HP.out]
         go_wp2_with fail
         go_roundw
         case rel => first | exact ⟨1, K, E, by omega, rfl, rfl, HN2.out, HR6.out, HR4.out, HRw.out, HBr.out⟩ | exact ⟨2, K, E, by omega, rfl, rfl, HN2.out, HR6.out, HR4.out, HRw.out, HBr.out⟩ | exact ⟨3, K, E, by omega, rfl, rfl, HN2.out, HR6.out, HR4.out, HRw.out, HBr.out⟩
         case measure => simp [Lib.intOf]
       ·rw [hwb] at hp
        have HN2 := hid (show stW s i (k + 1) = (9 + (k : Int), (i : Int) + ((if k = 0 then wT else if k = 1 then wF else wN) : List UInt8).length) by rw [HN.out, hwb]; rfl);have HP := hid hp;clear hp hwb;rcases (show k = 0 ∨ k = 1 ∨ k = 2 by omega) with rfl | rfl | rfl
        all_goals
         go_wp2_with fail
         refine (c_HasPrefix _ _ _).mono ?_;rintro e w9 ⟨rfl, rfl⟩;first | rw [show Lib.hasPrefix (s.extract i s.size).data.toList ({ data := #[116, 114, 117, 101] } : ByteArray).data.toList = true from HP.out] | rw [show Lib.hasPrefix (s.extract i s.size).data.toList ({ data := #[102, 97, 108, 115, 101] } : ByteArray).data.toList = true from HP.out] | rw [show Lib.hasPrefix (s.extract i s.size).data.toList ({ data := #[110, 117, 108, 108] } : ByteArray).data.toList = true from HP.out]
         go_wp2_with fail
         go_roundw
         case rel =>
          first
           | exact ⟨1, 9, (i : Int) + 4, by omega, rfl, rfl, HN2.out, heap_setCell_same _ _ 0 _ _ _ HR6.out, (Below.heap_setCell _ _ _ _ (by simp)).trans HR4.out, (Below.heap_setCell _ _ _ _ (by simp)).trans HRw.out, HBr.out.setCell (by simp) _⟩
           | exact ⟨2, 10, (i : Int) + 5, by omega, rfl, rfl, HN2.out, heap_setCell_same _ _ 0 _ _ _ HR6.out, (Below.heap_setCell _ _ _ _ (by simp)).trans HR4.out, (Below.heap_setCell _ _ _ _ (by simp)).trans HRw.out, HBr.out.setCell (by simp) _⟩
           | exact ⟨3, 11, (i : Int) + 4, by omega, rfl, rfl, HN2.out, heap_setCell_same _ _ 0 _ _ _ HR6.out, (Below.heap_setCell _ _ _ _ (by simp)).trans HR4.out, (Below.heap_setCell _ _ _ _ (by simp)).trans HRw.out, HBr.out.setCell (by simp) _⟩
         case measure => simp [Lib.intOf]
      ·obtain rfl : k = 3 := by omega
       rw [HSt.out] at HS3;by_cases q0 : E < 0
       ·have HF := hid (show signB s i = (sign0, -1) by rw [HS3.out]; exact if_pos q0)
        go_wp2_with fail
        exact bodyPost_ret (v := .tuple #[.agg #[.int .i64 0, .string ⟨#[]⟩, .int .i64 0, .int .i64 0], .int .i64 (-1)]) (by simp only [results, Tryz.results131]; go_simp) rfl ⟨by rw [HF.out]; rfl, HBr.out.trans (Aside.below (S := fun b => b = w.heap.size) (a := wr) asd HBr.out.size (fun i hi => by omega))⟩
       ·have HF := hid (show signB s i = (⟨K, ⟨#[]⟩, 0, i⟩, E) by rw [HS3.out]; exact if_neg q0)
        have q1 : decide (E < 0) = false := decide_eq_false q0;have q2 : 0 <= E := by omega
        clear q0;go_wp2_with fail
        exact bodyPost_ret (v := .tuple #[.agg #[.int .i64 K, .string ⟨#[]⟩, .int .i64 0, .int .i64 i], .int .i64 E]) (by simp only [results, Tryz.results131]; go_simp) rfl ⟨by rw [HF.out]; rfl, HBr.out.trans (Aside.below (S := fun b => b = w.heap.size) (a := wr) asd HBr.out.size (fun i hi => by omega))⟩
  ·have HF := hid (show signB s i = (⟨m, ⟨#[]⟩, 0, i⟩, (i : Int) + 1) by have h9 := sign_mark hii (by rw [HBy.out, <- HM.out]; exact c0); rw [HBy.out, <- HM.out] at h9; exact h9)
   have hm1 : 0 <= m - 1 := by omega
   have hm2 : 1 + (m - 1) = m := by omega
   clear c0;go_enter Tryz.func131, Tryz.ntmps131
   go_wp2_with (go_at_call 130; refine (c_IndexMark b hb2 _).mono ?_; rintro e w9 ⟨rfl, rfl⟩; rw [<- HM.out])
   exact bodyPost_ret (v := .tuple #[.agg #[.int .i64 m, .string ⟨#[]⟩, .int .i64 0, .int .i64 i], .int .i64 ((i : Int) + 1)]) (by simp only [results, Tryz.results131]; go_simp) rfl ⟨by rw [HF.out]; rfl, bel⟩
 ·have HQ := hid (show signB s i = (sign0, -1) by unfold signB; rw [if_neg (by omega)])
  have hz0 : (0 : Int) <= i := by omega
  go_enter Tryz.func131, Tryz.ntmps131
  go_wp2_with fail
  exact bodyPost_ret (v := .tuple #[.agg #[.int .i64 0, .string ⟨#[]⟩, .int .i64 0, .int .i64 0], .int .i64 (-1)]) (by simp only [results, Tryz.results131]; go_simp) rfl ⟨by rw [HQ.out]; rfl, bel⟩
open Go.RowKit
theorem signB_next (s : ByteArray) (i : Nat) : (signB s i).2 < 0 ∨ ((i : Int) < (signB s i).2 /\ (signB s i).2 <= s.size) := by
 unfold signB;by_cases h : i < s.size
 ·rw [if_pos h]
  by_cases c1 : markI (byteI s i) ≠ 0
  ·rw [if_pos c1]; right; simp; omega
  ·rw [if_neg c1]
   by_cases c2 : byteI s i = 34
   ·rw [if_pos c2]
    have := quotB_next s i;by_cases c3 : (quotB s i).2 < 0
    ·rw [if_pos c3]; left; decide
    ·rw [if_neg c3]; right; simp; omega
   ·rw [if_neg c2]
    by_cases c4 : byteI s i = 45 ∨ figI (byteI s i) = true
    ·rw [if_pos c4]
     have := (wholeB_next s i).1;by_cases c3 : (wholeB s i).2 < 0
     ·rw [if_pos c3]; left; decide
     ·rw [if_neg c3]; right; simp; omega
    ·rw [if_neg c4]
     by_cases c5 : wordB s i wT = true
     ·rw [if_pos c5]
      have := word_fits (by decide) c5;simp [wT] at this
      right; simp; omega
     ·rw [if_neg c5]
      by_cases c6 : wordB s i wF = true
      ·rw [if_pos c6]
       have := word_fits (by decide) c6;simp [wF] at this
       right; simp; omega
      ·rw [if_neg c6]
       by_cases c7 : wordB s i wN = true
       ·rw [if_pos c7]
        have := word_fits (by decide) c7;simp [wN] at this
        right; simp; omega
       ·rw [if_neg c7]; left; decide
 ·rw [if_neg h]; left; decide
def blankI (x : Int) : Bool := decide (x = 32 ∨ x = 9 ∨ x = 10 ∨ x = 13)
def signsR (s : ByteArray) : Nat -> Nat -> List SignD -> List SignD × Flt
 | 0, _, acc => (acc, flt0)
 | k + 1, i, acc => if i < s.size then (if blankI (byteI s i) = true then signsR s k (i + 1) acc else if (signB s i).2 < 0 then ([], ⟨3, i, ⟨#[]⟩⟩) else signsR s k (signB s i).2.toNat (acc ++ [(signB s i).1])) else (acc, flt0)
theorem signsR_fuel (s : ByteArray) : ∀ (k l j : Nat) (acc : List SignD), s.size - j <= k -> s.size - j <= l -> signsR s k j acc = signsR s l j acc
 | 0, 0, _, _, _, _ => rfl
 | 0, l + 1, j, acc, h, _ => by unfold signsR; rw [if_neg (by omega)]
 | k + 1, 0, j, acc, _, h => by unfold signsR; rw [if_neg (by omega)]
 | k + 1, l + 1, j, acc, h1, h2 => by
  unfold signsR;split
  ·split
   ·exact signsR_fuel s k l _ _ (by omega) (by omega)
   ·split
    ·rfl
    ·have := signB_next s j
     exact signsR_fuel s k l _ _ (by omega) (by omega)
  ·rfl
def signsG (s : ByteArray) (j : Nat) (acc : List SignD) : List SignD × Flt := signsR s (s.size - j) j acc
theorem signsG_end {s : ByteArray} {j : Nat} {acc : List SignD} (h : ¬ j < s.size) : signsG s j acc = (acc, flt0) := by
 unfold signsG;rw [show s.size - j = 0 by omega];rfl
theorem signsG_blank {s : ByteArray} {j : Nat} {acc : List SignD} (h : j < s.size) (hb : blankI (byteI s j) = true) : signsG s j acc = signsG s (j + 1) acc := by
 unfold signsG;obtain ⟨k, hk⟩ : ∃ k, s.size - j = k + 1 := ⟨s.size - j - 1, by omega⟩
 rw [hk, signsR, if_pos h, if_pos hb];exact signsR_fuel s _ _ _ _ (by omega) (by omega)
theorem signsG_bad {s : ByteArray} {j : Nat} {acc : List SignD} (h : j < s.size) (hb : ¬ blankI (byteI s j) = true) (hn : (signB s j).2 < 0) : signsG s j acc = ([], ⟨3, j, ⟨#[]⟩⟩) := by
 unfold signsG;obtain ⟨k, hk⟩ : ∃ k, s.size - j = k + 1 := ⟨s.size - j - 1, by omega⟩
 rw [hk, signsR, if_pos h, if_neg hb, if_pos hn]
theorem signsG_sign {s : ByteArray} {j : Nat} {acc : List SignD} (h : j < s.size) (hb : ¬ blankI (byteI s j) = true) (hn : ¬ (signB s j).2 < 0) : signsG s j acc = signsG s (signB s j).2.toNat (acc ++ [(signB s j).1]) := by
 unfold signsG;obtain ⟨k, hk⟩ : ∃ k, s.size - j = k + 1 := ⟨s.size - j - 1, by omega⟩
 rw [hk, signsR, if_pos h, if_neg hb, if_neg hn];have := signB_next s j;exact signsR_fuel s _ _ _ _ (by omega) (by omega)
def signsF (s : ByteArray) : List SignD × Flt := if (textF s).code = 0 then signsG s 0 [] else ([], textF s)
def encSg (x : SignD) : List Value := [.int .i64 x.kind, .string x.text, .int .i64 x.num, .int .i64 x.at']
theorem encSg_len (x : SignD) : (encSg x).length = 4 := rfl
abbrev SignsE (base : Nat) (w : World) (l : List SignD) (v : Value) : Prop := RowE encSg 4 92 base w l v
def blnkI (b : Nat) : Int := if b = 32 then 0 else if b = 9 then 1 else if b = 10 then 2 else if b = 13 then 3 else -1
theorem idx_blank : ∀ i : Fin 256, Lib.indexByte [32, 9, 10, 13] (UInt8.ofNat i.val) = blnkI i.val := by decide
theorem c_IndexBlank (b : Nat) (hb : b < 256) (w : World) : Calls Tryz.prog 130 #[.string { data := #[32, 9, 10, 13] }, .int .u8 b] w fun e w' => e = .returned (.int .i64 (blnkI b)) /\ w = w' := by
 have h := c_strings_IndexByte { data := #[32, 9, 10, 13] } (UInt8.ofNat b) w;have e1 : (UInt8.ofNat b).toNat = b := by rw [UInt8.toNat_ofNat']; exact Nat.mod_eq_of_lt hb
 rw [e1] at h;exact h.mono (fun _ _ h => ⟨h.1.trans (congrArg (fun z => Ending.returned (Value.int .i64 z)) (idx_blank ⟨b, hb⟩)), h.2⟩)
theorem blnk_ge (b : Nat) : 0 <= blnkI b ↔ blankI (b : Int) = true := by
 unfold blnkI blankI;rw [decide_eq_true_iff];repeat' split
 all_goals omega
theorem encSg_one (d : SignD) : ∀ v ∈ encSg d, v.oneCell' = true := by intro u hu; simp [encSg] at hu; rcases hu with rfl | rfl | rfl | rfl <;> rfl
def C_Sg (d : SignD) (cs : List Value) : Prop := cs = encSg d
theorem encSg_C (d : SignD) (es : List Value) (h : C_Sg d es) : es = encSg d := h
theorem sl_oneG {D : Type} {C : D -> List Value -> Prop} {enc : D -> List Value} {sz : Nat} (hk : ∀ d, (enc d).length = sz) (w : World) (d : D) (hC : C d (enc d)) (ty : TypeId) (cs : Array Value) (hc : cs = (enc d).toArray) {B : Nat} (hB : B = w.heap.size) :
  SlOf C sz w.heap.size (w.alloc (.cells cs ty)).heap.size (w.alloc (.cells cs ty)) [d] (.slice (some ⟨B, 0, none⟩) 1 1) := by
 subst hB;exact sl_one hk w d hC ty cs hc
theorem wpList_append_rows {P : Program} {D : Type} {enc : D -> List Value} {C : D -> List Value -> Prop} {w : World} {ops : Array Oper} {rest : List Oper} {o : Oper} {a : Act} {Q : Exit -> Act -> World -> Prop} (hgd : o.guard = none) (s x : Operand) (t : TypeId)
  (ho : o.op = .call { callee := .builtin .append, args := #[s, x], argTypes := #[t, t] }) (base : Nat) (e : TypeId) (i : TypeInfo) (z : Value) (sz bytes : Nat) (ht : P.underlying t = some (.slice e)) (hi : P.info? e = some i) (hz : i.zero = some z)
  (hsize : i.size = sz) (hby : i.bytes = bytes) (hzs : z.cells.size = sz) (hsz : 0 < sz) (hk : ∀ d, (enc d).length = sz) (h1 : ∀ d, ∀ v ∈ enc d, v.oneCell' = true) (hC : ∀ d es, C d es -> es = enc d) (v : Value) (n : Nat) (xs : List D) (hs : a.eval s = v) (hn : xs.length = n) (hown : RowE enc sz e base w xs v)
  (l : List D) (A : Option Addr) (m c lo hi' : Nat) (hx : a.eval x = .slice A m c) (hm : l.length = m) (hl : SlOf C sz lo hi' w l (.slice A m c)) (h63 : n + m <= maxLen) (hbytes : (n + m) * bytes <= 140737488355328) (hbase : base <= w.heap.size)
  (h : ∀ v' w', RowE enc sz e base w' (xs ++ l) v' -> w.grownBy w' v.ownBlock -> (v'.ownBlock = v.ownBlock ∨ v'.ownBlock = some w.heap.size) -> wpList P ops Q rest (a.put o.dst v') w') :
  wpList P ops Q (o :: rest) a w := by
 obtain ⟨v', w', hr, h2, h3, h4⟩ := run_append_rows (P := P) (enc := enc) (C := C) w t o.type base e i z sz bytes ht hi hz hsize hby hzs hsz hk h1 hC v n xs hn hown l A m c lo hi' hm hl h63 hbytes hbase;exact wpList_append_of hgd s x t ho v _ v' w' hs hx hr (h v' w' h2 h3 h4)
theorem textF_zero {s : ByteArray} (h : (textF s).code = 0) : s.size <= 20000 := by
 unfold textF at h;split at h
 ·cases h
 ·omega
theorem c_impl_SignsOf (s : ByteArray) (w : World) (hs : s.size <= 1048576) (hV : CTab w) (hT : Tabs w) (hE : ErrR w) :
  Calls Tryz.prog 72 #[.string s] w fun e w' => ∃ (A : Option Addr) (c : Nat), e = .returned (.tuple #[.slice A (signsF s).1.length c, .agg (fltC (signsF s).2)]) /\ SignsE w.heap.size w' (signsF s).1 (.slice A (signsF s).1.length c) /\ Below w.heap.size w w' := by
 obtain ⟨i0, hi, hz0, hz1, hz2⟩ := info_parts (show (Tryz.prog.info? 92).map (fun i => (i.zero, i.size, i.bytes)) = some (some (.agg #[.int .i64 0, .string ⟨#[]⟩, .int .i64 0, .int .i64 0]), 4, 40) from by kernel_rfl);have HVT := hid (And.intro hV (And.intro hT hE));clear hV hT hE;obtain ⟨f, hf⟩ : ∃ f, f = textF s := ⟨_, rfl⟩
 obtain ⟨fc, fa, fp⟩ := f;have HTf := hid hf;clear hf;by_cases hc : fc = 0
 ·obtain rfl := hc
  have hl2 : s.size <= 20000 := textF_zero (by rw [<- HTf.out]);have HF := hid (show signsF s = signsG s 0 [] by unfold signsF; rw [if_pos (by rw [<- HTf.out])]);go_enter Tryz.func72, Tryz.ntmps72
  go_wp2_with fail
  refine (c_impl_textFault s _ hs (HVT.out.2.1.below bel)).mono ?_;rintro e w1 ⟨rfl, hb⟩;rw [<- HTf.out];simp only [fltC];have hbox : w1.heap[w.heap.size]? = some (.cells #[.int .i64 0, .int .i64 0, .string ⟨#[]⟩] 23 (0, 0)) := (hb.block w.heap.size (by simp)).trans (heap_at (by simp));have l1 := row_lt hbox;have HBox1 := hid hbox;have hB1 : Below w.heap.size w w1 := bel;clear hbox;go_wp2_with fail
  go_loopw [5, 6] (fun s5 s6 wr => ∃ (i n : Nat) (L : List SignD) (A : Option Addr) (c : Nat), i <= s.size /\ s6 = .int .i64 i /\ n = L.length /\ s5 = .slice A n c /\ n <= i /\ signsF s = signsG s i L /\ SignsE (w.heap.size + 1) wr L (.slice A n c) /\ wr.heap[w.heap.size]? = some (.cells #[.int .i64 0, .int .i64 0, .string ⟨#[]⟩] 23 (0, 0)) /\ Below w.heap.size w wr) (fun _ s6 _ => s.size - (Lib.intOf s6).toNat)
  case atStart => exact ⟨0, 0, [], _, _, by omega, rfl, rfl, rfl, by omega, HF.out, own_empty (by simp) (by simp; omega), ((bel : Below w1.heap.size w1 _).block w.heap.size l1).trans HBox1.out, bel⟩
  case round =>
   obtain ⟨i, n, L, A, c, hil, rfl, hn, rfl, hni, hq, hR, hbox, hbr⟩ := hrel;have HR := hid hR;have HG := hid hq;have HBox := hid hbox;have HBr := hid hbr;have HN := hid hn;have lb := row_lt hbox;clear hR hq hbox hn;by_cases hlt : (i : Int) < s.size
   ·have hii : i < s.size := by omega
    have h1 : decide ((s.size : Int) <= i) = false := decide_eq_false (by omega);have h2 : decide (s.size <= i) = false := decide_eq_false (by omega);have h3 : decide ((i : Int) < 0) = false := decide_eq_false (by omega);have hzi : (0 : Int) <= i := by omega
    obtain ⟨b, hb⟩ : ∃ b : Nat, b = (s.get! i).toNat := ⟨_, rfl⟩
    have hx : (s[i]'hii).toNat = b := by rw [hb]; exact get_byte s i hii
    have hby : byteI s i = b := by unfold byteI; rw [hb]
    have hb2 : b < 256 := by have := (s.get! i).toNat_lt; omega
    obtain ⟨z, hz⟩ : ∃ z, z = blnkI b := ⟨_, rfl⟩
    have hbl := blnk_ge b;rw [<- hz, <- hby] at hbl;have HZ := hid hz;have HBl := hid hbl;clear hb hby hz hbl;by_cases z0 : 0 <= z
    ·have HE := hid (show signsF s = signsG s (i + 1) L by rw [HG.out, signsG_blank hii (HBl.out.1 z0)])
     go_wp2_with (go_at_call 130; refine (c_IndexBlank b hb2 _).mono ?_; rintro e w9 ⟨rfl, rfl⟩; rw [<- HZ.out])
     go_roundw
     case rel => exact ⟨i + 1, n, L, A, c, by omega, by go_num, HN.out, rfl, by omega, HE.out, HR.out, HBox.out, HBr.out⟩
     case measure => simp [Lib.intOf]; omega
    ·have z1 : decide (0 <= z) = false := decide_eq_false z0
     have hnb : ¬ blankI (byteI s i) = true := fun e => z0 (HBl.out.2 e)
     obtain ⟨x, hxx⟩ : ∃ x, x = (signB s i).1 := ⟨_, rfl⟩
     obtain ⟨q, hqq⟩ : ∃ q, q = (signB s i).2 := ⟨_, rfl⟩
     have hqn := signB_next s i;rw [<- hqq] at hqn;obtain ⟨xk, xt, xn, xp⟩ := x;have HXQ := hid (And.intro hxx hqq);by_cases q0 : q < 0
     ·have HE := hid (show signsF s = ([], ⟨3, i, ⟨#[]⟩⟩) by rw [HG.out, signsG_bad hii hnb (by rw [<- hqq]; exact q0)])
      clear hxx hqq hqn hnb z0;go_wp2_with (go_at_call 130; refine (c_IndexBlank b hb2 _).mono ?_; rintro e w9 ⟨rfl, rfl⟩; rw [<- HZ.out])
      refine (c_impl_SignAt s i _ hs (by omega) (HVT.out.1.below HBr.out) (HVT.out.2.1.below HBr.out) (HVT.out.2.2.below HBr.out)).mono ?_;rintro e w2 ⟨rfl, hb2'⟩;rw [<- HXQ.out.1, <- HXQ.out.2];simp only [signC];have B2 : Below w.heap.size w w2 := HBr.out.trans (hb2'.mono HBr.out.size);have hbox2 := (hb2'.block _ lb).trans HBox.out;obtain ⟨a0, a1, a2, af⟩ := row3 hbox2;have l2 := row_lt hbox2
      clear hbox2;go_wp2_with fail
      exact bodyPost_ret (v := .tuple #[.slice none 0 0, .agg #[.int .i64 3, .int .i64 i, .string ⟨#[]⟩]]) (by simp only [results, Tryz.results72]; go_simp) rfl ⟨none, 0, by rw [HE.out]; rfl, by rw [HE.out]; exact World.ownsRow_nil _ _ _ _, bel⟩
     ·have HE := hid (show signsF s = signsG s q.toNat (L ++ [⟨xk, xt, xn, xp⟩]) by rw [HG.out, signsG_sign hii hnb (by rw [<- hqq]; exact q0), hxx, hqq])
      obtain ⟨p, rfl⟩ : ∃ p : Nat, q = p := ⟨q.toNat, by omega⟩
      have d0 : decide ((p : Int) < 0) = false := decide_eq_false q0;have hip : i < p := by omega
      have hps : p <= s.size := by omega
      rw [Int.toNat_natCast] at HE;clear hxx hqq hqn hnb z0 q0;go_wp2_with (go_at_call 130; refine (c_IndexBlank b hb2 _).mono ?_; rintro e w9 ⟨rfl, rfl⟩; rw [<- HZ.out])
      refine (c_impl_SignAt s i _ hs (by omega) (HVT.out.1.below HBr.out) (HVT.out.2.1.below HBr.out) (HVT.out.2.2.below HBr.out)).mono ?_;rintro e w2 ⟨rfl, hb2'⟩;rw [<- HXQ.out.1, <- HXQ.out.2];simp only [signC];have B2 : Below w.heap.size w w2 := HBr.out.trans (hb2'.mono HBr.out.size);have l2 : w.heap.size < w2.heap.size := Nat.lt_of_lt_of_le lb hb2'.size;have hR2 := HR.out.below hb2';have HR2 := hid hR2
      clear hR2;go_wp2_with (at_builtin; go_loud (refine wpList_append_rows (C := C_Sg) rfl (.tmp 37) (.tmp 39) 80 rfl (w.heap.size + 1) 92 i0 (.agg #[.int .i64 0, .string ⟨#[]⟩, .int .i64 0, .int .i64 0]) 4 40 Tryz.underlying80 hi hz0 hz1 hz2 rfl (by decide) encSg_len encSg_one encSg_C _ n L rfl HN.out.symm (HR2.out.below bel) [⟨xk, xt, xn, xp⟩] (some ⟨_, 0, none⟩) 1 1 _ _ rfl rfl (sl_oneG encSg_len _ _ rfl 92 _ rfl (by simp)) (by unfold maxLen; omega) (by omega) (by simp; omega) ?_))
      intro v' w3 hR3 hg3 ha3;obtain ⟨A3, c3, rfl⟩ := hR3.form;have hb3 : Below (w.heap.size + 1) w2 w3 := Below.grown ((bel : Below w2.heap.size w2 _).mono l2) hg3 (by simp; omega) (fun q hq => (World.ownsRow.lt HR2.out q hq).1);have Hb3 := hid hb3;have HR3 := hid hR3;have hln : (L ++ [(⟨xk, xt, xn, xp⟩ : SignD)]).length = n + 1 := by rw [List.length_append, <- HN.out]; rfl
      have HL := hid hln;clear hR3 hg3 ha3 hb3 hln;go_wp2_with fail
      go_roundw
      case rel => exact ⟨p, n + 1, L ++ [⟨xk, xt, xn, xp⟩], A3, c3, hps, rfl, HL.out.symm, by rw [HL.out], by omega, HE.out, by rw [<- HL.out]; exact HR3.out, ((Hb3.out.block w.heap.size (by omega)).trans (hb2'.block _ lb)).trans HBox.out, B2.trans (Hb3.out.mono (by omega))⟩
      case measure => simp [Lib.intOf]; omega
   ·have HE := hid (show signsF s = (L, flt0) by rw [HG.out, signsG_end (by omega)])
    obtain ⟨a0, a1, a2, af⟩ := row3 HBox.out;go_wp2_with fail
    exact bodyPost_ret (v := .tuple #[.slice A n c, .agg #[.int .i64 0, .int .i64 0, .string ⟨#[]⟩]]) (by simp only [results, Tryz.results72]; go_simp) rfl ⟨A, c, by rw [HE.out, HN.out]; rfl, by
     rw [HE.out];show SignsE _ _ L (.slice A L.length c)
     rw [<- HN.out]
     exact (HR.out.less (Nat.le_succ _)).carry (fun q hq => Aside.block (S := fun b => b = w.heap.size) (w := wr) asd q (World.ownsRow.lt HR.out q hq).2 (by have := (World.ownsRow.lt HR.out q hq).1; omega)), bel⟩
 ·have d1 : (fc == 0) = false := beq_eq_false_iff_ne.2 hc
  have d2 : (fc != 0) = true := bne_iff_ne.2 hc;have HF := hid (show signsF s = ([], ⟨fc, fa, fp⟩) by unfold signsF; rw [if_neg (by rw [<- HTf.out]; exact hc), HTf.out]);clear hc;go_enter Tryz.func72, Tryz.ntmps72
  go_wp2_with fail
  refine (c_impl_textFault s _ hs (HVT.out.2.1.below bel)).mono ?_;rintro e w1 ⟨rfl, hb⟩;rw [<- HTf.out];simp only [fltC];have hbox : w1.heap[w.heap.size]? = some (.cells #[.int .i64 0, .int .i64 0, .string ⟨#[]⟩] 23 (0, 0)) := (hb.block w.heap.size (by simp)).trans (heap_at (by simp));have l1 := row_lt hbox;have hB1 : Below w.heap.size w w1 := bel;obtain ⟨a0, a1, a2, af⟩ := row3 hbox;clear hbox;go_wp2_with fail
  go_region_law (fail)
  all_goals
   (try go_wp2_with fail)
   exact bodyPost_ret (v := .tuple #[.slice none 0 0, .agg #[.int .i64 fc, .int .i64 fa, .string fp]]) (by simp only [results, Tryz.results72]; go_simp) rfl ⟨none, 0, by rw [HF.out]; rfl, by rw [HF.out]; exact World.ownsRow_nil _ _ _ _, bel⟩
open Go.RowKit Go.ChangeShapes Go.WideShapes Go.ChangeAt
def C_Byte (b : UInt8) (cs : List Value) : Prop := cs = [.int .u8 b.toNat]
def CurAt (code : List UInt8) (p : Nat) (w : World) : Prop :=
 ∃ A c i h, w.heap[p]? = some (.cells #[.slice A code.length c, .int .i64 (i : Nat), .int .i64 h] 136 (0, 0)) /\ I64 h /\ i <= code.length /\ code.length <= 1048576 /\ SlOf C_Byte 1 0 p w code (.slice A code.length c)
structure Dr (code : List UInt8) (p : Nat) (w w' : World) : Prop where
 aside : Aside (fun b => b = p) w w'
 cur : CurAt code p w'
theorem CurAt.lt {code : List UInt8} {p : Nat} {w : World} (h : CurAt code p w) : p < w.heap.size := by
 obtain ⟨A, c, i, x, hg, -⟩ := h;exact row_lt hg
theorem CurAt.keep {code : List UInt8} {p : Nat} {w w' : World} (h : CurAt code p w) (hb : ∀ b, b <= p -> w'.heap[b]? = w.heap[b]?) : CurAt code p w' := by
 obtain ⟨A, c, i, x, hg, h1, h2, h3, h4⟩ := h;exact ⟨A, c, i, x, (hb p (Nat.le_refl _)).trans hg, h1, h2, h3, SlOf.keep h4 (fun b o _ hlt => World.cell?_of_block (hb b (Nat.le_of_lt hlt))) (Nat.le_refl _) (Nat.le_refl _) (fun _ _ _ h => h)⟩
theorem CurAt.below {code : List UInt8} {p : Nat} {w w' : World} (h : CurAt code p w) (hb : Below w.heap.size w w') : CurAt code p w' := h.keep (fun b hle => hb.block b (Nat.lt_of_le_of_lt hle h.lt))
theorem Dr.refl {code : List UInt8} {p : Nat} {w : World} (h : CurAt code p w) : Dr code p w w := ⟨Aside.refl _ _, h⟩
theorem Dr.trans {code : List UInt8} {p : Nat} {a b c : World} (h : Dr code p a b) (k : Dr code p b c) : Dr code p a c := ⟨h.aside.trans k.aside, k.cur⟩
theorem Dr.step {code : List UInt8} {p : Nat} {a b c : World} (h : Dr code p a b) (k : Below b.heap.size b c) : Dr code p a c := ⟨h.aside.trans (Aside.of_below k), h.cur.below k⟩
theorem Dr.cell {code : List UInt8} {p : Nat} {a b : World} (h : Dr code p a b) {g o : Nat} (hg : g < a.heap.size) (hp : g ≠ p) : b.cell? ⟨g, o, none⟩ = a.cell? ⟨g, o, none⟩ := World.cell?_of_block (h.aside.block g hg hp)
theorem Dr.below {code : List UInt8} {p B : Nat} {a b : World} (h : Dr code p a b) (hB : B <= a.heap.size) (hp : B <= p) : Below B a b := h.aside.below hB (fun b hb => by subst hb; exact hp)
theorem i64_and255 (n : Int) : bits .and .i64 n 255 = n % 256 := by
 have h255 : (BitVec.ofInt 64 255).toNat = 2 ^ 8 - 1 := by decide
 have key : (BitVec.ofInt 64 n &&& BitVec.ofInt 64 255).toNat = (n % ((2 ^ 64 : Nat) : Int)).toNat % 2 ^ 8 := by
  rw [BitVec.toNat_and, BitVec.toNat_ofInt, h255, Nat.and_two_pow_sub_one_eq_mod]
 show IntKind.i64.wrap ((BitVec.ofInt 64 n &&& BitVec.ofInt 64 255).toNat : Nat) = n % 256
 rw [key, IntKind.wrap_i64];omega
theorem m255 (n : Int) : 0 <= n % 256 /\ n % 256 <= 255 := by omega
theorem w64_I64 (n : Int) : I64 (wrap64 n) := by
 unfold wrap64 I64;omega
theorem c_l01Byte (code : List UInt8) (p : Nat) (w : World) (h : CurAt code p w) :
  Calls Tryz.prog 164 #[.pointer (some ⟨p, 0, none⟩)] w fun e w' => ∃ x : Int, e = .returned (.int .i64 x) /\ 0 <= x /\ x <= 255 /\ Dr code p w w' := by
 have hcur := h;obtain ⟨A, c, i, h0, hg, hh, hi, hn, hs⟩ := h;obtain ⟨c0, c1, c2, cf⟩ := row3 hg;have hpl := row_lt hg;have hand := i64_and255;have Hs := Lib.hid hs;go_enter Tryz.func164, Tryz.ntmps164
 go_wp2_with fail
 have hXI := w64_I64 (wrap64 (h0 * 6364136223846793005) + 1442695040888963407);generalize wrap64 (wrap64 (h0 * 6364136223846793005) + 1442695040888963407) = X at *;have hg1 : (w.setCell ⟨p, 2, none⟩ (.int .i64 X)).heap[p]? = some (.cells #[.slice A code.length c, .int .i64 (i : Nat), .int .i64 X] 136 (0, 0)) := heap_setCell_same w p 2 _ _ _ hg;have hA1 : Aside (fun b => b = p) w (w.setCell ⟨p, 2, none⟩ (.int .i64 X)) := Aside.setCell (p := ⟨p, 2, none⟩) (Aside.refl _ _) rfl
 generalize w.setCell ⟨p, 2, none⟩ (.int .i64 X) = w1 at *;clear c0 c1 c2 cf hg hs hcur;obtain ⟨c0, c1, c2, cf⟩ := row3 hg1;have hpl1 := row_lt hg1;refine wp_region_det 12 (by kernel_rfl) (by kernel_rfl) (by decide) ?_
 iterate 3 refine ds ?_
 refine ds ?_
 iterate 4 refine ds ?_
 refine ds ?_
 iterate 3 refine ds ?_
 intro w1 hb
 (first | (have hcu2 := Cum.join hcu hb; (try clear hcu); (try clear hc); (try clear hfz); (try clear hsz); (try clear hs0); (try clear hs1); (try clear hs2); (try clear hs3); (try clear hs4); ) | have hcu2 := Cum.mk hb); have hcu := hcu2; clear hcu2; obtain ⟨hc, hfz⟩ := bcell hcu.h; have hsz := hcu.h.size; (try simp at hsz); (try have hs0 := lt_of_succ_le hsz); (try (have hs1 := lt_pred hsz; (try (have hs2 := lt_pred hs1; (try (have hs3 := lt_pred hs2; (try have hs4 := lt_pred hs3)))))))
 (try simp only [Act.put, List.setIfInBounds_toArray, List.set_cons_zero, List.set_cons_succ])
 (try simp only [List.drop_succ_cons, List.drop_zero])
 have hg2 := (hb.block p hpl1).trans hg1;have hA2 := hA1.trans (Aside.of_below hb);have hpl2 := row_lt hg2;clear c0 c1 c2 cf hg1 hA1 hpl1 hb
 (try clear hcu); (try clear hc); (try clear hfz); (try clear hsz); (try clear hs0); (try clear hs1); (try clear hs2); (try clear hs3); (try clear hs4)
 obtain ⟨c0, c1, c2, cf⟩ := row3 hg2;have hki : (i : Int) <= 9223372036854775806 := by omega
 have hkn : (code.length : Int) <= 9223372036854775806 := by omega
 by_cases hlt : i < code.length
 ·have hlt2 : (i : Int) < code.length := by omega
  have hlt0 : (0 : Int) <= i := by omega
  go_wp2_with fail
  refine wp_region_det 10 (by kernel_rfl) (by kernel_rfl) (by decide) ?_
  iterate 3 refine ds ?_
  refine ds ?_
  iterate 3 refine ds ?_
  refine ds ?_
  iterate 2 refine ds ?_
  intro w1 hb
  (first | (have hcu2 := Cum.join hcu hb; (try clear hcu); (try clear hc); (try clear hfz); (try clear hsz); (try clear hs0); (try clear hs1); (try clear hs2); (try clear hs3); (try clear hs4); ) | have hcu2 := Cum.mk hb); have hcu := hcu2; clear hcu2; obtain ⟨hc, hfz⟩ := bcell hcu.h; have hsz := hcu.h.size; (try simp at hsz); (try have hs0 := lt_of_succ_le hsz); (try (have hs1 := lt_pred hsz; (try (have hs2 := lt_pred hs1; (try (have hs3 := lt_pred hs2; (try have hs4 := lt_pred hs3)))))))
  (try simp only [Act.put, List.setIfInBounds_toArray, List.set_cons_zero, List.set_cons_succ])
  (try simp only [List.drop_succ_cons, List.drop_nil])
  have hg3 := (hb.block p hpl2).trans hg2;have hA3 := hA2.trans (Aside.of_below hb);have hpl3 := row_lt hg3;clear c0 c1 c2 cf hg2 hA2 hpl2 hb
  (try clear hcu); (try clear hc); (try clear hfz); (try clear hsz); (try clear hs0); (try clear hs1); (try clear hs2); (try clear hs3); (try clear hs4)
  obtain ⟨c0, c1, c2, cf⟩ := row3 hg3;obtain ⟨A', c', hv, -, -, hbytes⟩ := Hs.out;simp only [Value.slice.injEq, true_and] at hv;obtain ⟨rfl, rfl⟩ := hv;obtain ⟨b, o, rfl, -, hbp, hcell⟩ := hbytes (by omega);obtain ⟨y, hy⟩ := exists_at hlt;obtain ⟨es, -, hes, rfl⟩ := hcell i y hy;have hbw : b < w.heap.size := by omega
  have hbne : ¬ b = p := by omega
  have hby : w1.cell? ⟨b, o + i, none⟩ = some (.int .u8 y.toNat) := by
   rw [World.cell?_of_block (hA3.block b hbw hbne)];have := hes 0 (by omega)
   simpa using this
  have hbl3 : b < w1.heap.size := by omega
  have hy8 : (y.toNat : Int) <= 255 := by have := y.toNat_lt; omega
  have hy0 : (0 : Int) <= y.toNat := by omega
  clear hes hcell hbytes hy;go_wp2_with fail
  refine wp_region_det 14 (by kernel_rfl) (by kernel_rfl) (by decide) ?_
  iterate 4 refine ds ?_
  refine ds ?_
  iterate 3 refine ds ?_
  refine ds ?_;refine ds ?_;refine ds ?_
  iterate 3 refine ds ?_
  intro w1 hb
  (first | (have hcu2 := Cum.join hcu hb; (try clear hcu); (try clear hc); (try clear hfz); (try clear hsz); (try clear hs0); (try clear hs1); (try clear hs2); (try clear hs3); (try clear hs4); ) | have hcu2 := Cum.mk hb); have hcu := hcu2; clear hcu2; obtain ⟨hc, hfz⟩ := bcell hcu.h; have hsz := hcu.h.size; (try simp at hsz); (try have hs0 := lt_of_succ_le hsz); (try (have hs1 := lt_pred hsz; (try (have hs2 := lt_pred hs1; (try (have hs3 := lt_pred hs2; (try have hs4 := lt_pred hs3)))))))
  (try simp only [Act.put, List.setIfInBounds_toArray, List.set_cons_zero, List.set_cons_succ])
  (try simp only [List.drop_succ_cons, List.drop_zero])
  have hg4 := (hb.block p hpl3).trans hg3;have hA4 := hA3.trans (Aside.of_below hb);have hpl4 := row_lt hg4;clear c0 c1 c2 cf hg3 hA3 hpl3 hb
  (try clear hcu); (try clear hc); (try clear hfz); (try clear hsz); (try clear hs0); (try clear hs1); (try clear hs2); (try clear hs3); (try clear hs4)
  obtain ⟨c0, c1, c2, cf⟩ := row3 hg4;go_wp2_with fail
  go_ret
  refine ⟨_, rfl, (m255 _).1, (m255 _).2, hA4.setCell (p := ⟨p, 1, none⟩) rfl, _, _, i + 1, X, ?_, hXI, by omega, hn, Hs.out.keep (fun b o _ hlt => World.cell?_of_block ((Aside.setCell (p := ⟨p, 1, none⟩) hA4 rfl).block b (by omega) (by omega))) (Nat.le_refl _) (Nat.le_refl _) (fun _ _ _ h => h)⟩;rw [show ((i + 1 : Nat) : Int) = (i : Int) + 1 from by omega];exact heap_setCell_same _ p 1 _ _ _ hg4
 ·have hlt2 : ¬ (i : Int) < code.length := by omega
  go_wp2_with fail
  refine wp_region_det 10 (by kernel_rfl) (by kernel_rfl) (by decide) ?_
  iterate 3 refine ds ?_
  refine ds ?_
  iterate 3 refine ds ?_
  refine ds ?_
  iterate 2 refine ds ?_
  intro w1 hb
  (first | (have hcu2 := Cum.join hcu hb; (try clear hcu); (try clear hc); (try clear hfz); (try clear hsz); (try clear hs0); (try clear hs1); (try clear hs2); (try clear hs3); (try clear hs4); ) | have hcu2 := Cum.mk hb); have hcu := hcu2; clear hcu2; obtain ⟨hc, hfz⟩ := bcell hcu.h; have hsz := hcu.h.size; (try simp at hsz); (try have hs0 := lt_of_succ_le hsz); (try (have hs1 := lt_pred hsz; (try (have hs2 := lt_pred hs1; (try (have hs3 := lt_pred hs2; (try have hs4 := lt_pred hs3)))))))
  (try simp only [Act.put, List.setIfInBounds_toArray, List.set_cons_zero, List.set_cons_succ])
  (try simp only [List.drop_succ_cons, List.drop_nil])
  have hg3 := (hb.block p hpl2).trans hg2;have hA3 := hA2.trans (Aside.of_below hb);have hpl3 := row_lt hg3;clear c0 c1 c2 cf hg2 hA2 hpl2 hb
  (try clear hcu); (try clear hc); (try clear hfz); (try clear hsz); (try clear hs0); (try clear hs1); (try clear hs2); (try clear hs3); (try clear hs4)
  obtain ⟨c0, c1, c2, cf⟩ := row3 hg3;go_wp2_with fail
  go_ret
  exact ⟨_, rfl, (m255 _).1, (m255 _).2, hA3, _, _, i, X, hg3, hXI, hi, hn, Hs.out.keep (fun b o _ hlt => World.cell?_of_block (hA3.block b (by omega) (by omega))) (Nat.le_refl _) (Nat.le_refl _) (fun _ _ _ h => h)⟩
theorem Dr.pre {code : List UInt8} {p : Nat} {a b c : World} (h : Aside (fun b => b = p) a b) (k : Dr code p b c) : Dr code p a c := ⟨h.trans k.aside, k.cur⟩
theorem Dr.alloc {code : List UInt8} {p : Nat} {a b : World} (h : Dr code p a b) (o : Obj) : Dr code p a (b.alloc o) := h.step (ext_alloc (Below.refl _ _))
theorem Dr.cut {code : List UInt8} {p : Nat} {a b : World} {o : Obj} (h : Dr code p (a.alloc o) b) : Dr code p a b := Dr.pre (aside_alloc (Aside.refl _ _)) h
theorem Dr.block {code : List UInt8} {p : Nat} {a b : World} (h : Dr code p a b) {g : Nat} (hg : g < a.heap.size) (hp : g ≠ p) : b.heap[g]? = a.heap[g]? := h.aside.block g hg hp
theorem Dr.size {code : List UInt8} {p : Nat} {a b : World} (h : Dr code p a b) : a.heap.size <= b.heap.size := h.aside.size
theorem SlOf.now {D : Type} {C : D -> List Value -> Prop} {sz lo : Nat} {a b : World} {l : List D} {v : Value} (h : SlOf C sz lo a.heap.size a l v) (hb : Below a.heap.size a b) : SlOf C sz lo b.heap.size b l v :=
 SlOf.keep h (same_below hb) (Nat.le_refl _) hb.size (fun _ _ _ h => h)
theorem sl_lit (w : World) (ss : List ByteArray) (hs : ∀ s ∈ ss, s.size <= 9223372036854775807) (hn : ss.length <= 9223372036854775807) (ty : TypeId) (cs : Array Value) (hc : cs = (ss.map Value.string).toArray) :
  Sl_Str w.heap.size (w.alloc (.cells cs ty)).heap.size (w.alloc (.cells cs ty)) ss (.slice (some ⟨w.heap.size, 0, none⟩) ss.length ss.length) := by
 subst hc;refine ⟨_, _, rfl, Nat.le_refl _, hn, fun _ => ⟨w.heap.size, 0, rfl, Nat.le_refl _, by simp, fun i d hd => ⟨[.string d], rfl, fun j hj => ?_, rfl, hs d (List.mem_of_getElem? hd)⟩⟩⟩;obtain rfl : j = 0 := by omega
 rw [cell_of_row _ _ _ _ _ _ (heap_alloc_new w _)];simp [hd]
theorem c_l01Below (code : List UInt8) (p : Nat) (n : Int) (w : World) (h : CurAt code p w) (hn : -9223372036854775808 <= n /\ n <= 9223372036854775807) :
  Calls Tryz.prog 88 #[.pointer (some ⟨p, 0, none⟩), .int .i64 n] w fun e w' => ∃ x : Int, e = .returned (.int .i64 x) /\ 0 <= x /\ (0 < n -> x < n) /\ (n <= 0 -> x = 0) /\ Dr code p w w' := by
 obtain ⟨hn1, hn2⟩ := hn;have H := Lib.hid h;clear h;by_cases h0 : n <= 0
 ·go_enter Tryz.func88, Tryz.ntmps88
  go_wp2_with fail
  go_ret
  exact ⟨0, rfl, Int.le_refl _, fun h => by omega, fun _ => rfl, Dr.refl H.out⟩
 ·have h1 : 0 < n := by omega
  by_cases h2 : n <= 256
  ·go_enter Tryz.func88, Tryz.ntmps88
   go_wp2_with fail
   refine (c_l01Byte code p _ H.out).mono ?_;rintro e w1 ⟨x, rfl, hx0, hx1, hd⟩;have HD := Lib.hid hd;clear hd;go_wp2_with fail
   go_ret
   exact ⟨_, rfl, Int.emod_nonneg _ (by omega), fun _ => Int.emod_lt_of_pos _ h1, fun h => by omega, HD.out⟩
  ·go_enter Tryz.func88, Tryz.ntmps88
   go_wp2_with fail
   refine (c_l01Byte code p _ H.out).mono ?_;rintro e w1 ⟨x, rfl, hx0, hx1, hd⟩;have HD := Lib.hid hd;clear hd;go_wp2_with fail
   refine (c_l01Byte code p _ HD.out.cur).mono ?_;rintro e w2 ⟨y, rfl, hy0, hy1, hd⟩;have HD2 := Lib.hid (HD.out.trans hd);clear hd;go_wp2_with fail
   refine (c_l01Byte code p _ HD2.out.cur).mono ?_;rintro e w3 ⟨z, rfl, hz0, hz1, hd⟩;have HD3 := Lib.hid (HD2.out.trans hd);clear hd;go_wp2_with fail
   refine (c_l01Byte code p _ HD3.out.cur).mono ?_;rintro e w4 ⟨u, rfl, hu0, hu1, hd⟩;have HD4 := Lib.hid (HD3.out.trans hd);clear hd;go_wp2_with fail
   go_ret
   exact ⟨_, rfl, Int.emod_nonneg _ (by omega), fun _ => Int.emod_lt_of_pos _ h1, fun h => by omega, HD4.out⟩
theorem c_l01Once (code : List UInt8) (p : Nat) (n : Int) (w : World) (h : CurAt code p w) (hn : -9223372036854775808 <= n /\ n <= 9223372036854775807) :
  Calls Tryz.prog 87 #[.pointer (some ⟨p, 0, none⟩), .int .i64 n] w fun e w' => ∃ x : Bool, e = .returned (.bool x) /\ Dr code p w w' := by
 go_enter Tryz.func87, Tryz.ntmps87
 go_wp2_with fail
 refine (c_l01Below code p n _ h hn).mono ?_;rintro e w1 ⟨x, rfl, -, -, -, hd⟩;go_wp2_with fail
 go_ret
 exact ⟨_, rfl, hd⟩
theorem c_l01Pick (code : List UInt8) (p : Nat) (l : List ByteArray) (v : Value) (lo : Nat) (w : World) (h : CurAt code p w) (hl : Sl_Str lo w.heap.size w l v) (hp : p < lo) (h1 : 0 < l.length) (h2 : l.length <= 1048576) :
  Calls Tryz.prog 169 #[.pointer (some ⟨p, 0, none⟩), v] w fun e w' => ∃ s : ByteArray, e = .returned (.string s) /\ s ∈ l /\ Dr code p w w' := by
 have Hl := Lib.hid hl;obtain ⟨A, c, rfl, hlc, hc, hA⟩ := hl;obtain ⟨b, o, rfl, hb1, hb2, hcell⟩ := hA h1;have hi1 : (0 : Int) < l.length := by omega
 have HC := Lib.hid hcell;clear hA hcell;go_enter Tryz.func169, Tryz.ntmps169
 go_wp2_with fail
 refine (c_l01Below code p l.length _ h (by omega)).mono ?_;rintro e w1 ⟨x, rfl, hx0, hx1, -, hd⟩;have hx2 := hx1 hi1;obtain ⟨k, rfl⟩ : ∃ k : Nat, x = k := ⟨x.toNat, by omega⟩
 obtain ⟨s, hs⟩ := exists_at (show k < l.length by omega);obtain ⟨es, -, hes, rfl, -⟩ := HC.out k s hs
 have hy : w1.cell? ⟨b, o + k, none⟩ = some (.string s) := by
  have := hes 0 (by omega);rw [hd.cell hb2 (by omega)]
  simpa using this
 have Hs := Lib.hid (List.mem_of_getElem? hs);clear hes hs hx1;have HD := Lib.hid hd;clear hd;go_wp2_with fail
 go_ret
 exact ⟨s, rfl, Hs.out, HD.out⟩
theorem i64_and30 (n : Int) : bits .and .i64 n 1073741823 = n % 1073741824 := by
 have h255 : (BitVec.ofInt 64 1073741823).toNat = 2 ^ 30 - 1 := by decide
 have key : (BitVec.ofInt 64 n &&& BitVec.ofInt 64 1073741823).toNat = (n % ((2 ^ 64 : Nat) : Int)).toNat % 2 ^ 30 := by
  rw [BitVec.toNat_and, BitVec.toNat_ofInt, h255, Nat.and_two_pow_sub_one_eq_mod]
 show IntKind.i64.wrap ((BitVec.ofInt 64 n &&& BitVec.ofInt 64 1073741823).toNat : Nat) = n % 1073741824
 rw [key, IntKind.wrap_i64];omega
theorem m30_I64 (n : Int) : I64 (n % 1073741824) := by unfold I64; omega
theorem c_l01New (code : List UInt8) (v : Value) (lo : Nat) (w : World) (hs : SlOf C_Byte 1 lo w.heap.size w code v) (hn : code.length <= 1048576) :
  Calls Tryz.prog 80 #[v] w fun e w' => ∃ p : Nat, e = .returned (.pointer (some ⟨p, 0, none⟩)) /\ w.heap.size <= p /\ CurAt code p w' /\ Below w.heap.size w w' := by
 have Hs := Lib.hid hs;obtain ⟨A, c, rfl, hlc, hc, hA⟩ := hs;have HA := Lib.hid hA;have hand := i64_and30;clear hA;go_enter Tryz.func80, Tryz.ntmps80
 go_wp2_with fail
 go_loopw [3, 4] (fun s3 s4 wr => ∃ (x : Int) (k : Nat), s3 = .int .i64 x /\ I64 x /\ s4 = .int .i64 k /\ k <= code.length /\ wr = w) (fun _ s4 _ => code.length - (intOf s4).toNat)
 case atStart => exact ⟨_, 0, rfl, ⟨by omega, by omega⟩, rfl, Nat.zero_le _, rfl⟩
 case round =>
  obtain ⟨x, k, rfl, hx, rfl, hk, rfl⟩ := hrel;have Hx := Lib.hid hx;clear hx
  have fin : CurAt code wr.heap.size (wr.alloc (.cells #[.slice A code.length c, .int .i64 0, .int .i64 x] 136)) :=
   ⟨A, c, 0, x, heap_alloc_new _ _, Hx.out, Nat.zero_le _, hn, Hs.out.keep (fun b o _ hlt => World.cell?_of_block (Below.heap_alloc _ _ _ hlt)) (Nat.zero_le _) (Nat.le_refl _) (fun _ _ _ h => h)⟩
  have Fin := Lib.hid fin;clear fin;by_cases hlt : k < code.length
  ·by_cases h4 : k < 4000
   ·obtain ⟨b, o, rfl, -, hbp, hcell⟩ := HA.out (by omega)
    obtain ⟨y, hy⟩ := exists_at hlt;obtain ⟨es, -, hes, rfl⟩ := hcell k y hy
    have hby : wr.cell? ⟨b, o + k, none⟩ = some (.int .u8 y.toNat) := by
     have := hes 0 (by omega)
     simpa using this
    have hk0 : (0 : Int) <= k := by omega
    have hk1 : (k : Int) < code.length := by omega
    have hk2 : (k : Int) < 4000 := by omega
    have hy8 : (y.toNat : Int) <= 255 := by have := y.toNat_lt; omega
    have hy0 : (0 : Int) <= y.toNat := by omega
    clear hes hcell hy;go_wp2_with fail
    go_roundw
    case rel => exact ⟨_, k + 1, rfl, m30_I64 _, by go_num, by omega, by first | trivial | rfl⟩
    case measure => simp [intOf]; omega
   ·have hk1 : (k : Int) < code.length := by omega
    have hk2 : ¬ (k : Int) < 4000 := by omega
    go_wp2_with fail
    go_ret
    exact ⟨_, rfl, Nat.le_refl _, Fin.out, bel⟩
  ·have hk1 : ¬ (k : Int) < code.length := by omega
   go_wp2_with fail
   go_ret
   exact ⟨_, rfl, Nat.le_refl _, Fin.out, bel⟩
theorem c_laws_big_no (code : List UInt8) (A : Option Addr) (c : Nat) (w : World) (h : code.length <= 1048576) :
  Calls Tryz.prog 16 #[.slice A code.length c] w fun e w' => e = .returned (.bool false) /\ w = w' := by
 have h1 : ¬ (1048576 : Int) < code.length := by omega
 have h2 : decide ((1048576 : Int) < code.length) = false := decide_eq_false h1;go_enter Tryz.func16, Tryz.ntmps16
 go_wp2_with fail
 go_ret
 exact ⟨by first | rfl | (rw [h2]; rfl), rfl⟩
theorem c_laws_big_yes (code : List UInt8) (A : Option Addr) (c : Nat) (w : World) (h : ¬ code.length <= 1048576) :
  Calls Tryz.prog 16 #[.slice A code.length c] w fun e w' => e = .returned (.bool true) /\ w = w' := by
 have h1 : (1048576 : Int) < code.length := by omega
 have h2 : decide ((1048576 : Int) < code.length) = true := decide_eq_true h1;go_enter Tryz.func16, Tryz.ntmps16
 go_wp2_with fail
 go_ret
 exact ⟨by first | rfl | (rw [h2]; rfl), rfl⟩
section
variable {H : Type} {enc : TypeId × Value -> H} {w : World} {base : Nat} {spare : Nat -> Bool} {held : Bool} {fuel : Nat} {cs : List Value} {x : DataW H × List MemPlace} {r : Reach} {b0 : Nat} {v : Value} {d : DataW H} {p : List MemPlace}
theorem cell_u8 {t : TypeId} (ht : Tryz.prog.underlying t = some (.int .u8)) (h : DataW.trod enc Tryz.prog w base spare held fuel t cs = some x) : ∃ b : UInt8, C_Byte b cs := by
 obtain ⟨n, h1, -, h2⟩ := DataW.trod_int ht h
 have hn : 0 <= n /\ n <= 255 := by
  simp [Lit.wf, IntKind.min, IntKind.max, IntKind.signed, IntKind.bits] at h2;omega
 refine ⟨UInt8.ofNat n.toNat, ?_⟩;unfold C_Byte;rw [h1, UInt8.toNat_ofNat'];congr 2
 omega
theorem o_bytes (h : DataW.trod enc Tryz.prog w base spare held fuel 28 cs = some x) : ∃ v l, cs = [v] /\ SlOf C_Byte 1 0 w.heap.size w l v :=
 slice_cells C_Byte Tryz.underlying28 (by kernel_rfl) (by decide) h (fun _ _ _ h' => cell_u8 Tryz.underlying5 h')
abbrev R_bytes (w : World) (l : List UInt8) (v : Value) : Prop := SlOf C_Byte 1 0 w.heap.size w l v
theorem r_bytes (hv : Value.okWide Tryz.prog w r b0 28 v) (h : DataW.Trod enc Tryz.prog w base spare held 28 v d p) : ∃ x, R_bytes w x v := by
 obtain ⟨a, len, cap, rfl⟩ := okWide_slice Tryz.underlying28 hv;obtain ⟨fuel, hf⟩ := h;obtain ⟨v', l, he, hs⟩ := o_bytes hf;simp [Value.cells] at he;subst he;exact ⟨l, hs⟩
end
theorem cutA_nil (acc : List UInt8) : cutA acc [] = [acc] := rfl
theorem cutA_nl (acc r : List UInt8) : cutA acc (10 :: r) = acc :: cutA [] r := rfl
theorem cutA_on {c : UInt8} (hc : ¬ c = 10) (acc r : List UInt8) : cutA acc (c :: r) = cutA (acc ++ [c]) r := if_neg hc
theorem piece (s : ByteArray) (b i : Nat) : (s.extract b i).data.toList = (s.data.toList.drop b).take (i - b) := by
 rw [extract_eq]
def encLn (x : LineD) : List Value := [.int .i64 (x.ind : Nat), .string x.text, .int .i64 (x.at' : Nat)]
theorem encLn_len (x : LineD) : (encLn x).length = 3 := rfl
theorem encLn_one (d : LineD) : ∀ v ∈ encLn d, v.oneCell' = true := by intro u hu; simp [encLn] at hu; rcases hu with rfl | rfl | rfl <;> rfl
def C_Ln (d : LineD) (cs : List Value) : Prop := cs = encLn d
theorem encLn_C (d : LineD) (es : List Value) (h : C_Ln d es) : es = encLn d := h
structure LnAt (s : ByteArray) (P : List ByteArray) (i : Nat) (L : List LineD) : Prop where
 fit : (textF s).code = 0
 cut : P.map (fun x => x.data.toList) = cutA [] s.data.toList
 low : ∀ j, j < i -> ∀ x, P[j]? = some x -> lowB x.data.toList = false
 out : L = linesK (cutA [] s.data.toList) i
 size : L.length <= i
theorem LnAt.start {s : ByteArray} {P : List ByteArray} (h : (textF s).code = 0) (hc : P.map (fun x => x.data.toList) = cutA [] s.data.toList) : LnAt s P 0 [] :=
 ⟨h, hc, fun j hj => absurd hj (by omega), rfl, Nat.le_refl _⟩
theorem LnAt.at' {s : ByteArray} {P : List ByteArray} {i : Nat} {L : List LineD} (h : LnAt s P i L) {x : ByteArray} (hx : P[i]? = some x) : (cutA [] s.data.toList)[i]? = some x.data.toList := by
 rw [<- h.cut, List.getElem?_map, hx];rfl
theorem LnAt.next {s : ByteArray} {P : List ByteArray} {i : Nat} {L : List LineD} (h : LnAt s P i L) {x : ByteArray} (hx : P[i]? = some x) (hl : lowB x.data.toList = false) : LnAt s P (i + 1) (L ++ lineO (i + 1) x.data.toList) := by
 refine ⟨h.fit, h.cut, fun j hj y hy => ?_, ?_, ?_⟩
 ·rcases Nat.lt_or_ge j i with g | g
  ·exact h.low j g y hy
  ·rw [show j = i by omega, hx] at hy
   cases hy
   exact hl
 ·show _ = linesK (cutA [] s.data.toList) i ++ _
  rw [h.at' hx, <- h.out]
 ·rw [List.length_append]
  have : (lineO (i + 1) x.data.toList).length <= 1 := by unfold lineO; split <;> simp
  have := h.size;omega
theorem LnAt.skip {s : ByteArray} {P : List ByteArray} {i : Nat} {L : List LineD} (h : LnAt s P i L) {x : ByteArray} (hx : P[i]? = some x) (hl : lowB x.data.toList = false) (hb : bareL x.data.toList = []) : LnAt s P (i + 1) L := by
 have := h.next hx hl;unfold lineO at this;rw [if_pos hb, List.append_nil] at this;exact this
theorem LnAt.add {s : ByteArray} {P : List ByteArray} {i : Nat} {L : List LineD} (h : LnAt s P i L) {x : ByteArray} (hx : P[i]? = some x) (hl : lowB x.data.toList = false) (hb : ¬ bareL x.data.toList = []) : LnAt s P (i + 1) (L ++ [⟨indL (bareL x.data.toList), bs (trimLeftB (bareL x.data.toList) 32), i + 1⟩]) := by
 have := h.next hx hl;unfold lineO at this;rw [if_neg hb] at this;exact this
theorem linesF_bad {s : ByteArray} (h : ¬ (textF s).code = 0) : linesF s = ([], textF s) := by
 unfold linesF;rw [if_pos h]
theorem LnAt.bad {s : ByteArray} {P : List ByteArray} {i : Nat} {L : List LineD} (h : LnAt s P i L) {x : ByteArray} (hx : P[i]? = some x) (hl : lowB x.data.toList = true) : linesF s = ([], ⟨3, ((i + 1 : Nat) : Int), ⟨#[]⟩⟩) := by
 have e : (cutA [] s.data.toList).findIdx? lowB = some i := by
  rw [List.findIdx?_eq_some_iff_getElem];obtain ⟨h1, h2⟩ := List.getElem?_eq_some_iff.1 (h.at' hx);refine ⟨h1, by rw [h2]; exact hl, fun j hj => ?_⟩
  have hjl : j < P.length := by
   have := congrArg List.length h.cut;rw [List.length_map] at this;omega
  have h3 := h.low j hj P[j] (List.getElem?_eq_getElem hjl);have h4 : (cutA [] s.data.toList)[j]? = some P[j].data.toList := by rw [<- h.cut, List.getElem?_map, List.getElem?_eq_getElem hjl]; rfl
  rw [List.getElem?_eq_getElem (by omega)] at h4;rw [Option.some.inj h4, h3];decide
 unfold linesF;rw [if_neg (by rw [h.fit]; decide), e]
theorem LnAt.end' {s : ByteArray} {P : List ByteArray} {i : Nat} {L : List LineD} (h : LnAt s P i L) (hi : i = P.length) : linesF s = (L, flt0) := by
 have hlen : (cutA [] s.data.toList).length = P.length := by rw [<- h.cut, List.length_map]
 have e : (cutA [] s.data.toList).findIdx? lowB = none := by
  rw [List.findIdx?_eq_none_iff];intro y hy;rw [<- h.cut] at hy;obtain ⟨x, hx, rfl⟩ := List.mem_map.1 hy;obtain ⟨j, hj⟩ := List.getElem?_of_mem hx;exact h.low j (by have := (List.getElem?_eq_some_iff.1 hj).1; omega) x hj
 unfold linesF;rw [if_neg (by rw [h.fit]; decide), e, h.out, hi, hlen]
theorem cutA_small : ∀ (l acc p : List UInt8), p ∈ cutA acc l -> p.length <= acc.length + l.length
 | [], acc, p, h => by
  rw [cutA_nil] at h;simp at h;rw [h];exact Nat.le_refl _
 | c :: l, acc, p, h => by
  by_cases hc : c = 10
  ·subst hc
   rw [cutA_nl] at h;rcases List.mem_cons.1 h with rfl | h
   ·exact Nat.le_add_right _ _
   ·have := cutA_small l [] p h
    simp at this;simp;omega
  ·rw [cutA_on hc] at h
   have := cutA_small l (acc ++ [c]) p h;simp at this;simp;omega
theorem LnAt.small {s : ByteArray} {P : List ByteArray} {i : Nat} {L : List LineD} (h : LnAt s P i L) {x : ByteArray} (hx : P[i]? = some x) : x.size <= s.size := by
 have h1 := List.mem_of_getElem? (h.at' hx);have h2 := cutA_small _ _ _ h1;rw [list_size, list_size] at h2;simp at h2;exact h2
theorem low_yes {x : ByteArray} {t : Nat} (ht : t < x.size) (h : byteI x t < 32) : lowB x.data.toList = true := by
 unfold lowB;rw [List.any_eq_true];refine ⟨x.get! t, List.mem_of_getElem? (byte_list ht), ?_⟩;unfold byteI at h;simp;omega
theorem trim_drop (l : List UInt8) (c : UInt8) : trimLeftB l c = l.drop (l.length - (trimLeftB l c).length) := List.suffix_iff_eq_drop.1 (List.dropWhile_suffix _)
theorem bs_trim (l : List UInt8) : (bs l).extract (indL l) (bs l).size = bs (trimLeftB l 32) := by
 rw [extract_from, trim_drop l 32];rfl
theorem bareL_len (l : List UInt8) : (bareL l).length <= l.length := by
 unfold bareL;exact Nat.le_trans (trimR_len _ _) (by rw [List.length_take]; exact Nat.min_le_right _ _)
def splitL (l : List UInt8) : List (List UInt8) := splitK [10] 0 (count l [10]) l
theorem splitL_end (l : List UInt8) : splitL (10 :: l) = [] :: splitL l := by
 unfold splitL;rw [count_cons_eq, Nat.add_comm];have e : index (10 :: l) [10] = 0 := by rw [index_one]; rfl
 show (if index (10 :: l) [10] == -1 then _ else _) = _
 rw [e];rfl
theorem splitL_more {c : UInt8} (hc : c ≠ 10) (l : List UInt8) : ∃ a r, splitL l = a :: r /\ splitL (c :: l) = (c :: a) :: r := by
 unfold splitL;rw [count_cons_ne c 10 l hc];rcases hk : count l [10] with _ | k
 ·exact ⟨l, [], rfl, rfl⟩
 ·obtain ⟨i, hi⟩ := index_of_count (s := l) (old := [10]) (by rw [hk]; exact Nat.succ_pos _)
  have e : index (c :: l) [10] = ((i + 1 : Nat) : Int) := by
   rw [index_one] at hi ⊢;unfold indexByte;have h1 : (c == 10) = false := beq_eq_false_iff_ne.2 hc;have h2 : ((indexByte l 10) == -1) = false := beq_eq_false_iff_ne.2 (by omega);rw [h1, h2, hi];simp
  refine ⟨l.take i, splitK [10] 0 k (l.drop (i + 1)), ?_, ?_⟩
  ·show (if index l [10] == -1 then _ else _) = _
   have h2 : ((index l [10]) == -1) = false := beq_eq_false_iff_ne.2 (by omega);rw [h2, hi];rfl
  ·show (if index (c :: l) [10] == -1 then _ else _) = _
   have h2 : ((index (c :: l) [10]) == -1) = false := beq_eq_false_iff_ne.2 (by omega);rw [h2, e];rfl
theorem splitL_cut : ∀ (l acc : List UInt8), ∃ a r, splitL l = a :: r /\ cutA acc l = (acc ++ a) :: r
 | [], acc => ⟨[], [], rfl, by unfold cutA; rw [List.append_nil]⟩
 | c :: l, acc => by
  by_cases hc : c = 10
  ·subst hc
   obtain ⟨a, r, h1, h2⟩ := splitL_cut l [];refine ⟨[], splitL l, splitL_end l, ?_⟩;unfold cutA;rw [if_pos rfl, h2, h1, List.append_nil, List.nil_append]
  ·obtain ⟨a, r, h1, h2⟩ := splitL_more hc l
   obtain ⟨b, q, h3, h4⟩ := splitL_cut l (acc ++ [c]);rw [h1] at h3;injection h3 with h5 h6
   subst h5 h6;refine ⟨c :: a, r, h2, ?_⟩;unfold cutA;rw [if_neg hc, h4, List.append_assoc];rfl
theorem split_cut (s : ByteArray) : (splitB ⟨#[10]⟩ 0 (count s.data.toList [10]) s).map (fun x => x.data.toList) = cutA [] s.data.toList := by
 have h := splitB_data ⟨#[10]⟩ 0 (count s.data.toList [10]) s;obtain ⟨a, r, h1, h2⟩ := splitL_cut s.data.toList [];rw [h2, List.nil_append, <- h1];exact h
end Go.Proofs.YtohcpifekcehjaaGreatDoor
