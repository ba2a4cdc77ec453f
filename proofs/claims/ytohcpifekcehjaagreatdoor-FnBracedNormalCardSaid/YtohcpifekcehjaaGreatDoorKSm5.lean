/- Steps to FnBracedNormal. No conditions. -/
import Derived.Test.YtohcpifekcehjaaGreatDoorKSm4
import Derived.Test.YtohcpifekcehjaaGreatDoorKSm1
import Derived.Deep.CutBlock
import Derived.Deep.CutRange
import Derived.Shelf.Lays
import Derived.Shelf.Strings.Prefix
import Derived.Test.YtohcpifekcehjaaGreatDoorKSm3
import Derived.Test.YtohcpifekcehjaaGreatDoorKSm2
set_option maxHeartbeats 16000000
set_option maxRecDepth 20000
namespace Go.Proofs.YtohcpifekcehjaaGreatDoor
open Go.RowKit Go.Lib
def dotI (b : Nat) : Int := if b = 46 then 0 else if b = 101 then 1 else if b = 69 then 2 else -1
theorem idx_dot : ∀ i : Fin 256, Lib.indexByte [46, 101, 69] (UInt8.ofNat i.val) = dotI i.val := by decide
theorem c_IndexDot (b : Nat) (hb : b < 256) (w : World) : Calls Tryz.prog 130 #[.string { data := #[46, 101, 69] }, .int .u8 b] w fun e w' => e = .returned (.int .i64 (dotI b)) /\ w = w' := by
 have h := c_strings_IndexByte { data := #[46, 101, 69] } (UInt8.ofNat b) w
 have e1 : (UInt8.ofNat b).toNat = b := by rw [UInt8.toNat_ofNat']; exact Nat.mod_eq_of_lt hb
 rw [e1] at h
 exact h.mono (fun _ _ h => ⟨h.1.trans (congrArg (fun z => Ending.returned (Value.int .i64 z)) (idx_dot ⟨b, hb⟩)), h.2⟩)
theorem c_impl_ReadWhole (s : ByteArray) (i : Nat) (w : World) (hs : s.size <= 1048576) (hi : i <= 1048576) (hE : ErrR w) :
  Calls Tryz.prog 209 #[.string s, .int .i64 i] w fun e w' => e = .returned (.tuple #[.int .i64 (wholeB s i).1, .int .i64 (wholeB s i).2]) /\ Below w.heap.size w w' := by
 have HE := hid hE
 clear hE
 by_cases hlt : (i : Int) < s.size
 ·have hii : i < s.size := by omega
  have h1 : decide ((s.size : Int) <= i) = false := decide_eq_false (by omega)
  have h2 : decide (s.size <= i) = false := decide_eq_false (by omega)
  have h3 : decide ((i : Int) < 0) = false := decide_eq_false (by omega)
  have hz0 : (0 : Int) <= i := by omega
  obtain ⟨b, hb⟩ : ∃ b : Nat, b = (s.get! i).toNat := ⟨_, rfl⟩
  have hx : (s[i]'hii).toNat = b := by rw [hb]; exact get_byte s i hii
  have hby : byteI s i = b := by unfold byteI; rw [hb]
  obtain ⟨a, ha⟩ : ∃ a, a = if byteI s i = 45 then i + 1 else i := ⟨_, rfl⟩
  have HBy := hid hby
  have HA := hid ha
  have hia : i <= a /\ a <= i + 1 := by rw [ha]; split <;> omega
  obtain ⟨e0, he0⟩ : ∃ e0, e0 = digE s a := ⟨_, rfl⟩
  have hE0 := digE_le s a
  rw [<- he0] at hE0
  have hae : a <= e0 := hE0.1
  have hes : e0 <= s.size := hE0.2 (by omega)
  have HE0 := hid he0
  obtain ⟨hia1, hia2⟩ := hia
  clear hb hby ha he0 hE0
  go_enter Tryz.func209, Tryz.ntmps209
  go_upto_if 22 with fail
  go_cut [6] from 19 to 24 (fun s6 wx => s6 = .int .i64 a /\ wx = w)
  case first =>
   by_cases e45 : (b : Int) = 45
   ·have haa : (i : Int) + 1 = a := by have := HA.out; rw [HBy.out, if_pos e45] at this; omega
    obtain rfl : b = 45 := by omega
    go_wp2_with fail
    go_meet
    exact ⟨rfl, rfl⟩
   ·have f45 : ((b : Int) == 45) = false := beq_eq_false_iff_ne.2 e45
    have haa : i = a := by have := HA.out; rw [HBy.out, if_neg e45] at this; omega
    have HAA := hid haa
    clear haa e45
    go_wp2_with fail
    go_meet
    exact ⟨by rw [HAA.out], rfl⟩
  case rest =>
   obtain ⟨rfl, rfl⟩ := hcut
   go_upto_block 0 with fail
   go_cut [6] from 26 to 37 (fun s6 wx => s6 = .int .i64 e0 /\ wx = wc)
   case first =>
    go_wp2_with fail
    go_loopw [6] (fun s6 wr => ∃ j : Nat, a <= j /\ j <= e0 /\ s6 = .int .i64 j /\ digE s j = e0 /\ wr = wc) (fun s6 _ => s.size - (Lib.intOf s6).toNat)
    case atStart => exact ⟨a, Nat.le_refl _, hae, rfl, HE0.out.symm, rfl⟩
    case round =>
     obtain ⟨j, haj, hje, rfl, hdj, rfl⟩ := hrel
     have HJ := hid hdj
     clear hdj
     by_cases hjl : (j : Int) < s.size
     ·have hjj : j < s.size := by omega
      have hj0 : (0 : Int) <= j := by omega
      obtain ⟨c, hc⟩ : ∃ c : Nat, c = (s.get! j).toNat := ⟨_, rfl⟩
      have hxj : (s[j]'hjj).toNat = c := by rw [hc]; exact get_byte s j hjj
      have hbj : byteI s j = c := by unfold byteI; rw [hc]
      have HC := hid hbj
      have HD := hid (HJ.out.symm.trans (digE_at hjj))
      clear hc hbj
      rcases hf : digitB (c : Int) with _ | _
      ·have HF := hid (show e0 = j by have h9 := HD.out; rw [HC.out, <- digit_fig, hf, if_neg (by decide)] at h9; exact h9)
       go_wp2_with (first | (go_at_call 201; refine (c_impl_isDigit _ _).mono ?_; rintro e w' ⟨rfl, rfl⟩))
       go_meet
       exact ⟨by rw [HF.out], rfl⟩
      ·have HF := hid (show digE s (j + 1) = e0 by have h9 := HD.out; rw [HC.out, <- digit_fig, hf, if_pos rfl] at h9; exact h9.symm)
       have hle := (digE_le s (j + 1)).1
       rw [HF.out] at hle
       go_wp2_with (first | (go_at_call 201; refine (c_impl_isDigit _ _).mono ?_; rintro e w' ⟨rfl, rfl⟩))
       go_roundw
       case rel => exact ⟨j + 1, by omega, hle, by go_num, HF.out, by first | rfl | exact True.intro⟩
       case measure => simp [Lib.intOf]; omega
     ·have HF := hid (show e0 = j by rw [<- HJ.out]; exact digE_end (by omega))
      go_wp2_with fail
      go_meet
      exact ⟨by rw [HF.out], rfl⟩
   case rest =>
    obtain ⟨rfl, rfl⟩ := hcut
    by_cases c1 : (e0 : Int) = a
    ·have HQ := hid (show wholeB s i = (0, -1) by rw [wholeB_at hii HA.out]; exact wholeA_no (.inl (by rw [<- HE0.out]; omega)))
     have HC1 := hid c1
     have g1 : ((e0 : Int) == a) = true := beq_iff_eq.2 c1
     clear c1
     go_wp2_with fail
     go_ret2
     exact ⟨by rw [HQ.out]; rfl, Below.refl _ _⟩
    ·have g1 : ((e0 : Int) == a) = false := beq_eq_false_iff_ne.2 c1
     have hlt2 : a < e0 := by omega
     have ham : a < s.size := by omega
     have haI : (a : Int) < s.size := by omega
     have ha0 : (0 : Int) <= a := by omega
     obtain ⟨ca, hca⟩ : ∃ c : Nat, c = (s.get! a).toNat := ⟨_, rfl⟩
     have hxa : (s[a]'ham).toNat = ca := by rw [hca]; exact get_byte s a ham
     have HCa := hid (show byteI s a = ca by unfold byteI; rw [hca])
     clear hca c1
     by_cases c2 : (ca : Int) = 48 /\ (a : Int) + 1 < e0
     ·have HQ := hid (show wholeB s i = (0, -1) by rw [wholeB_at hii HA.out]; exact wholeA_no (.inr (.inl ⟨by rw [HCa.out]; exact c2.1, by rw [<- HE0.out]; omega⟩)))
      obtain ⟨c21, c22⟩ := c2
      obtain rfl : ca = 48 := by omega
      go_wp2_with fail
      go_ret2
      exact ⟨by rw [HQ.out]; rfl, Below.refl _ _⟩
     ·have tail : ∀ P : Prop, (((ca : Int) == 48) = false -> P) -> (ca = 48 -> decide ((a : Int) + 1 < e0) = false -> P) -> P := by
       intro P k1 k2
       by_cases c : (ca : Int) = 48
       ·exact k2 (by omega) (decide_eq_false (fun h => c2 ⟨c, h⟩))
       ·exact k1 (beq_eq_false_iff_ne.2 c)
      have HC2 := hid c2
      clear c2
      by_cases c3 : (e0 : Int) < s.size
      ·have hej : e0 < s.size := by omega
       have he0 : (0 : Int) <= e0 := by omega
       obtain ⟨ce, hce⟩ : ∃ c : Nat, c = (s.get! e0).toNat := ⟨_, rfl⟩
       have hxe : (s[e0]'hej).toNat = ce := by rw [hce]; exact get_byte s e0 hej
       have HCe := hid (show byteI s e0 = ce by unfold byteI; rw [hce])
       have hc256 : ce < 256 := by have := (s.get! e0).toNat_lt; omega
       clear hce
       by_cases c4 : ce = 46 ∨ ce = 101 ∨ ce = 69
       ·have HQ := hid (show wholeB s i = (0, -1) by
         rw [wholeB_at hii HA.out]
         refine wholeA_no (.inr (.inr ⟨by rw [<- HE0.out]; exact hej, ?_⟩))
         rw [<- HE0.out, HCe.out]
         omega)
        have hd0 : ¬ dotI ce < 0 := by unfold dotI; rcases c4 with rfl | rfl | rfl <;> decide
        obtain ⟨dv, hdv⟩ : ∃ d, d = dotI ce := ⟨_, rfl⟩
        have hd1 : 0 <= dv := by omega
        have HDv := hid hdv
        clear hd0 hdv c4
        refine tail _ (fun t1 => ?_) (fun t1 t2 => ?_)
        all_goals
         clear tail
         (try subst t1)
         go_wp2_with (go_at_call 130; refine (c_IndexDot ce hc256 _).mono ?_; rintro e w9 ⟨rfl, rfl⟩; rw [<- HDv.out])
         go_ret2
         exact ⟨by rw [HQ.out]; rfl, Below.refl _ _⟩
       ·have HDv := hid (show dotI ce = -1 by unfold dotI; rw [if_neg (by omega), if_neg (by omega), if_neg (by omega)])
        have HW := hid (whole_atoi hii HA.out (by
         rw [<- HE0.out, HCa.out, HCe.out]
         rintro (h | h | h)
         ·omega
         ·exact HC2.out ⟨h.1, by omega⟩
         ·omega))
        rw [<- HE0.out] at HW
        have hie : i <= e0 := by omega
        have hieI : (i : Int) <= e0 := by omega
        have hesI : (e0 : Int) <= s.size := by omega
        clear c4
        refine tail _ (fun t1 => ?_) (fun t1 t2 => ?_)
        all_goals
         clear tail
         (try subst t1)
         rcases HW.out with ⟨v, hv1, hv2⟩ | ⟨hv1, hv2⟩
         ·have HV := hid hv1
          have HQ := hid hv2
          clear hv1 hv2
          go_wp2_with (first | (go_at_call 130; refine (c_IndexDot ce hc256 _).mono ?_; rintro e w9 ⟨rfl, rfl⟩; rw [HDv.out]) | (go_at_call 204; refine (c_Atoi_ok _ v _ (by simp; omega) HV.out).mono ?_; rintro e w9 ⟨rfl, hb9⟩))
          go_ret2
          exact ⟨by rw [HQ.out]; rfl, bel⟩
         ·have HV := hid hv1
          have HQ := hid hv2
          clear hv1 hv2
          go_wp2_with (first | (go_at_call 130; refine (c_IndexDot ce hc256 _).mono ?_; rintro e w9 ⟨rfl, rfl⟩; rw [HDv.out]) | (go_at_call 204; refine (c_Atoi_range _ _ (by simp; omega) HV.out HE.out).mono ?_; rintro e w9 ⟨xv, nv, rfl, hb9⟩))
          go_ret2
          exact ⟨by rw [HQ.out]; rfl, bel⟩
      ·have heq : e0 = s.size := by omega
       have HW := hid (whole_atoi hii HA.out (by
        rw [<- HE0.out, HCa.out]
        rintro (h | h | h)
        ·omega
        ·exact HC2.out ⟨h.1, by omega⟩
        ·omega))
       rw [<- HE0.out] at HW
       have hie : i <= e0 := by omega
       have hieI : (i : Int) <= e0 := by omega
       have hesI : (e0 : Int) <= s.size := by omega
       have hsz3 : decide ((e0 : Int) < s.size) = false := decide_eq_false c3
       have hsz4 : decide (e0 < s.size) = false := decide_eq_false (by omega)
       clear heq c3
       refine tail _ (fun t1 => ?_) (fun t1 t2 => ?_)
       all_goals
        clear tail
        (try subst t1)
        rcases HW.out with ⟨v, hv1, hv2⟩ | ⟨hv1, hv2⟩
        ·have HV := hid hv1
         have HQ := hid hv2
         clear hv1 hv2
         go_wp2_with ((go_at_call 204; refine (c_Atoi_ok _ v _ (by simp; omega) HV.out).mono ?_; rintro e w9 ⟨rfl, hb9⟩))
         go_ret2
         exact ⟨by rw [HQ.out]; rfl, bel⟩
        ·have HV := hid hv1
         have HQ := hid hv2
         clear hv1 hv2
         go_wp2_with ((go_at_call 204; refine (c_Atoi_range _ _ (by simp; omega) HV.out HE.out).mono ?_; rintro e w9 ⟨xv, nv, rfl, hb9⟩))
         go_ret2
         exact ⟨by rw [HQ.out]; rfl, bel⟩
 ·have HQ := hid (show wholeB s i = (0, -1) by unfold wholeB; rw [if_neg (by omega)])
  have hz0 : (0 : Int) <= i := by omega
  go_enter Tryz.func209, Tryz.ntmps209
  go_wp2_with fail
  go_ret2
  exact ⟨by rw [HQ.out]; rfl, Below.refl _ _⟩
open Go.Shelf
def laysPre_ren : Go.Shelf.Ren := ⟨fun | 99 => 177 | 206 => 236 | n => n, fun | 9 => 9 | 4 => 4 | 3 => 3 | n => n, fun | n => n⟩
theorem laysPre : Go.Proofs.Lays.n99 Tryz.prog laysPre_ren := {
 mixed := by kernel_rfl
 f99 := Tryz.func177.trans (congrArg some (by kernel_rfl))
 f206 := Tryz.func236.trans (congrArg some (by kernel_rfl))
 t3 := Tryz.underlying3
 a3 := Tryz.isAgg3
 z3 := Tryz.sizeOf3
 v3 := Tryz.zeroValue3
 t4 := Tryz.underlying4
 a4 := Tryz.isAgg4
 z4 := Tryz.sizeOf4
 v4 := Tryz.zeroValue4
 t9 := Tryz.underlying9
 a9 := Tryz.isAgg9
 z9 := Tryz.sizeOf9
 v9 := Tryz.zeroValue9 }
def wordB (s : ByteArray) (i : Nat) (wl : List UInt8) : Bool := decide ((s.data.toList.drop i).take wl.length = wl)
def wT : List UInt8 := [116, 114, 117, 101]
def wF : List UInt8 := [102, 97, 108, 115, 101]
def wN : List UInt8 := [110, 117, 108, 108]
theorem word_prefix (s : ByteArray) (i : Nat) (wl : List UInt8) : hasPrefix (s.data.toList.drop i) wl = wordB s i wl := by
 unfold hasPrefix wordB
 rw [Bool.eq_iff_iff, List.isPrefixOf_iff_prefix, List.prefix_iff_eq_take, decide_eq_true_eq]
 exact ⟨fun h => h.symm, fun h => h.symm⟩
theorem word_first {s : ByteArray} {i : Nat} {c : UInt8} {r : List UInt8} (h : wordB s i (c :: r) = true) : i < s.size /\ byteI s i = (c.toNat : Int) := by
 unfold wordB at h
 rw [decide_eq_true_eq] at h
 rcases hd : s.data.toList.drop i with _ | ⟨x, l⟩
 ·rw [hd] at h; simp at h
 ·rw [hd] at h
  simp at h
  have hlt : i < s.data.toList.length := by
   rcases Nat.lt_or_ge i s.data.toList.length with h1 | h1
   ·exact h1
   ·rw [List.drop_eq_nil_of_le h1] at hd; cases hd
  have hl2 : i < s.size := by rw [Array.length_toList] at hlt; exact hlt
  refine ⟨hl2, ?_⟩
  have h1 : s.data.toList[i]? = some x := by
   have h2 := congrArg (fun z : List UInt8 => z[0]?) hd
   simp only [List.getElem?_drop, Nat.add_zero, List.getElem?_cons_zero] at h2
   exact h2
  rw [List.getElem?_eq_getElem hlt, Array.getElem_toList] at h1
  injection h1 with h1
  unfold byteI ByteArray.get!
  show (((s.data[i]!).toNat : Nat) : Int) = _
  rw [getElem!_pos s.data i hl2, h1, h.1]
theorem word_fits {s : ByteArray} {i : Nat} {wl : List UInt8} (h0 : wl ≠ []) (h : wordB s i wl = true) : i + wl.length <= s.size := by
 unfold wordB at h
 rw [decide_eq_true_eq] at h
 have h1 := congrArg List.length h
 rw [List.length_take, List.length_drop] at h1
 have h2 : s.data.toList.length = s.size := by rw [Array.length_toList]; rfl
 have h3 : 0 < wl.length := List.length_pos_iff.2 h0
 omega
theorem word_extract {s w : ByteArray} {i : Nat} : wordB s i w.data.toList = ((s.extract i (i + w.size)).toList == w.toList) := by
 have h1 := extract_list s i w.size
 have h2 : w.data.toList.length = w.size := by rw [Array.length_toList]; rfl
 unfold wordB
 rw [h2, <- h1, Lib.toList_data, Lib.toList_data]
 rw [Bool.eq_iff_iff, decide_eq_true_eq, beq_iff_eq]
theorem word_short {s w : ByteArray} {i : Nat} (h0 : 0 < w.size) (h : ¬ i + w.size <= s.size) : wordB s i w.data.toList = false := by
 rcases h1 : wordB s i w.data.toList with _ | _
 ·rfl
 ·have h2 : w.data.toList.length = w.size := by rw [Array.length_toList]; rfl
  have h3 := word_fits (wl := w.data.toList) (by intro hn; rw [hn] at h2; simp at h2; omega) h1
  rw [h2] at h3
  exact absurd h3 h
theorem c_HasPrefix (s p : ByteArray) (w : World) : Calls Tryz.prog 177 #[.string s, .string p] w fun e w' => e = .returned (.bool (Lib.hasPrefix s.data.toList p.data.toList)) /\ w = w' := by
 have h := Any.strings_HasPrefix laysPre s p w
 change Calls Tryz.prog 177 _ _ _ at h
 exact h.mono (fun _ _ h => ⟨h.1, h.2.symm⟩)
theorem extract_drop (s : ByteArray) (i : Nat) : (s.extract i s.size).data.toList = s.data.toList.drop i := by
 rw [ByteArray.data_extract, Array.toList_extract, List.extract_eq_take_drop]
 exact List.take_of_length_le (by rw [List.length_drop, Array.length_toList]; exact Nat.le_refl _)
theorem c_l09Word (s w : ByteArray) (i : Nat) (W : World) (_hs : s.size <= 1048576) (hi : i <= 1048576) (hw : w.size <= 1048576) (h0 : 0 < w.size) :
  Calls Tryz.prog 212 #[.string s, .int .i64 i, .string w] W fun e w' => e = .returned (.bool (wordB s i w.data.toList)) /\ W = w' := by
 obtain ⟨p, hp⟩ : ∃ p, p = i + w.size := ⟨_, rfl⟩
 have hpe : (i : Int) + w.size = p := by omega
 have Hp := hid hp
 have hpb : (p : Int) <= 2097152 := by omega
 have hip : i <= p := by omega
 have hipI : (i : Int) <= p := by omega
 have hi0 : (0 : Int) <= i := by omega
 by_cases hl : (p : Int) <= s.size
 ·have hl2 : p <= s.size := by omega
  have HW := hid (show wordB s i w.data.toList = ((s.extract i p).toList == w.toList) by rw [hp]; exact word_extract)
  clear hp
  go_enter Tryz.func212, Tryz.ntmps212
  go_wp2_with fail
  go_ret
  exact ⟨by rw [HW.out]; rfl, rfl⟩
 ·have HW := hid (word_short (s := s) (w := w) (i := i) h0 (by omega))
  have hd : decide ((p : Int) <= s.size) = false := decide_eq_false hl
  have hd2 : decide (p <= s.size) = false := decide_eq_false (by omega)
  clear hp hl
  go_enter Tryz.func212, Tryz.ntmps212
  go_wp2_with fail
  go_ret
  exact ⟨by rw [HW.out]; rfl, rfl⟩
def markI (x : Int) : Int := if x = 123 then 1 else if x = 125 then 2 else if x = 91 then 3 else if x = 93 then 4 else if x = 58 then 5 else if x = 44 then 6 else 0
def sign0 : SignD := ⟨0, ⟨#[]⟩, 0, 0⟩
def signC (x : SignD) : Array Value := #[.int .i64 x.kind, .string x.text, .int .i64 x.num, .int .i64 x.at']
def signB (s : ByteArray) (i : Nat) : SignD × Int :=
 if i < s.size then
  if markI (byteI s i) ≠ 0 then (⟨markI (byteI s i), ⟨#[]⟩, 0, i⟩, (i : Int) + 1)
  else if byteI s i = 34 then (if (quotB s i).2 < 0 then (sign0, -1) else (⟨7, (quotB s i).1, 0, i⟩, (quotB s i).2))
  else if byteI s i = 45 ∨ figI (byteI s i) = true then (if (wholeB s i).2 < 0 then (sign0, -1) else (⟨8, ⟨#[]⟩, (wholeB s i).1, i⟩, (wholeB s i).2))
  else if wordB s i wT = true then (⟨9, ⟨#[]⟩, 0, i⟩, (i : Int) + 4)
  else if wordB s i wF = true then (⟨10, ⟨#[]⟩, 0, i⟩, (i : Int) + 5)
  else if wordB s i wN = true then (⟨11, ⟨#[]⟩, 0, i⟩, (i : Int) + 4)
  else (sign0, -1)
 else (sign0, -1)
theorem sign_mark {s : ByteArray} {i : Nat} (h : i < s.size) (hm : markI (byteI s i) ≠ 0) : signB s i = (⟨markI (byteI s i), ⟨#[]⟩, 0, i⟩, (i : Int) + 1) := by unfold signB; rw [if_pos h, if_pos hm]
theorem sign_quot {s : ByteArray} {i : Nat} (h : i < s.size) (hq : byteI s i = 34) : signB s i = if (quotB s i).2 < 0 then (sign0, -1) else (⟨7, (quotB s i).1, 0, i⟩, (quotB s i).2) := by
 unfold signB
 rw [if_pos h, if_neg (by rw [hq]; decide), if_pos hq]
theorem sign_num {s : ByteArray} {i : Nat} (h : i < s.size) (hm : markI (byteI s i) = 0) (hq : byteI s i ≠ 34) (hn : byteI s i = 45 ∨ figI (byteI s i) = true) : signB s i = if (wholeB s i).2 < 0 then (sign0, -1) else (⟨8, ⟨#[]⟩, (wholeB s i).1, i⟩, (wholeB s i).2) := by
 unfold signB
 rw [if_pos h, if_neg (by rw [hm]; decide), if_neg hq, if_pos hn]
theorem sign_word {s : ByteArray} {i : Nat} (h : i < s.size) (hm : markI (byteI s i) = 0) (hq : byteI s i ≠ 34) (hn : ¬ (byteI s i = 45 ∨ figI (byteI s i) = true)) : signB s i = if wordB s i wT = true then (⟨9, ⟨#[]⟩, 0, i⟩, (i : Int) + 4)
  else if wordB s i wF = true then (⟨10, ⟨#[]⟩, 0, i⟩, (i : Int) + 5)
  else if wordB s i wN = true then (⟨11, ⟨#[]⟩, 0, i⟩, (i : Int) + 4)
  else (sign0, -1) := by
 unfold signB
 rw [if_pos h, if_neg (by rw [hm]; decide), if_neg hq, if_neg hn]
theorem own_on {w wr w' : World} {e : TypeId} {sz n : Nat} {v : Value} {xs : List Value} (h : wr.ownsRow w.heap.size e sz v n xs) (_ : Below w.heap.size w w') (hb : Below wr.heap.size wr w') : w'.ownsRow w.heap.size e sz v n xs :=
 ownsRow_carry h (fun q hq => hb.block q (World.ownsRow.lt h q hq).2)
theorem c_spec_ReadQuoted (s : ByteArray) (i : Nat) (w : World) (hs : s.size <= 1048576) (hi : i <= 1048576) :
  Calls Tryz.prog 190 #[.string s, .int .i64 i] w fun e w' => e = .returned (.tuple #[.string (quotB s i).1, .int .i64 (quotB s i).2]) /\ Below w.heap.size w w' := by
 by_cases hlt : (i : Int) < s.size
 ·have hii : i < s.size := by omega
  have h0 : inB (i : Int) 0 ((s.size : Int) - 1) = true := decide_eq_true (by omega)
  have hz0 : (0 : Int) <= i := by omega
  obtain ⟨b, hb⟩ : ∃ b : Nat, b = (s.get! i).toNat := ⟨_, rfl⟩
  have hx : (s[i]'hii).toNat = b := by rw [hb]; exact get_at s i hii
  have hby : byteI s i = b := by unfold byteI; rw [hb]
  clear hb
  by_cases e34 : (b : Int) = 34
  ·have HQ := hid (show quotB s i = quotG s (i + 1) [] by unfold quotB; rw [if_pos hii, hby, if_pos e34])
   obtain rfl : b = 34 := by omega
   clear e34
   obtain ⟨i0, hi, hz0, hz1, hz2⟩ := info_parts (show (Tryz.prog.info? 5).map (fun i => (i.zero, i.size, i.bytes)) = some (some (.int .u8 0), 1, 1) from by kernel_rfl)
   go_enter Tryz.func190, Tryz.ntmps190
   go_wp2_with (first | (go_at_call 115; refine (c_spec_l01In _ _ _ _).mono ?_; rintro e w' ⟨rfl, rfl⟩))
   go_loopw [1, 6] (fun s1 s6 wr => ∃ (j : Nat) (M : List UInt8) (A : Option Addr) (c n : Nat), j <= s.size /\ s1 = .int .i64 j /\ n = M.length /\ s6 = .slice A n c /\ wr.ownsRow w.heap.size 5 1 (.slice A n c) n (Lib.strCells ⟨M.toArray⟩) /\ n <= 4 * j /\ quotB s i = quotG s j M /\ Below w.heap.size w wr) (fun s1 _ _ => s.size - (Lib.intOf s1).toNat)
   case atStart => exact ⟨i + 1, [], some ⟨w.heap.size, 0, none⟩, 0, 0, by omega, by go_num, rfl, rfl, own_empty rfl (Nat.le_refl _), by omega, HQ.out, bel⟩
   case round =>
    obtain ⟨j, M, A, c, n, hjl, rfl, hn, rfl, hown, hnj, hq, hbr⟩ := hrel
    have HO := hid hown
    have HG := hid hq
    have HBr := hid hbr
    have HNn := hid hn
    clear hown hq hbr hn hx hby
    by_cases hlt2 : (j : Int) < s.size
    ·have hjj : j < s.size := by omega
     have hj0 : (0 : Int) <= j := by omega
     obtain ⟨b, hb⟩ : ∃ b : Nat, b = (s.get! j).toNat := ⟨_, rfl⟩
     have hx : (s[j]'hjj).toNat = b := by rw [hb]; exact get_at s j hjj
     have hby : byteI s j = b := by unfold byteI; rw [hb]
     have HS := hid (HG.out.trans (quotG_at hjj))
     rw [hby] at HS
     have HY := hid hby
     clear hb hby
     by_cases e34 : (b : Int) = 34
     ·have Hf := hid (show quotB s i = (⟨M.toArray⟩, (j : Int) + 1) by rw [HS.out, if_pos e34])
      obtain rfl : b = 34 := by omega
      clear e34
      have hcv := own_string HNn.out HO.out
      go_wp2_with fail
      go_ret2
      exact ⟨by rw [Hf.out]; rfl, HBr.out⟩
     ·have f34 : ((b : Int) == 34) = false := beq_eq_false_iff_ne.2 e34
      have HT := hid (show quotB s i = if (quotN s j).2 < 0 then (⟨#[]⟩, -1) else quotG s (quotN s j).2.toNat (M ++ (textB (quotN s j).1).data.toList) by rw [HS.out, if_neg e34])
      by_cases e92 : (b : Int) = 92
      ·obtain rfl : b = 92 := by omega
       clear e92 e34 f34
       obtain ⟨p1, hp1⟩ : ∃ p, p = j + 1 := ⟨_, rfl⟩
       have q1 : (j : Int) + 1 = p1 := by omega
       obtain ⟨x, hxx⟩ : ∃ x, x = (escB s p1).1 := ⟨_, rfl⟩
       obtain ⟨y, hyy⟩ : ∃ y, y = (escB s p1).2 := ⟨_, rfl⟩
       have hN : quotN s j = (x, y) := by unfold quotN; rw [HY.out, if_pos (show ((92 : Nat) : Int) = 92 from rfl), <- hp1, hxx, hyy]
       rw [hN] at HT
       obtain ⟨hn1, hn2, hn3⟩ := escB_next s p1
       rw [<- hxx] at hn2 hn3
       rw [<- hyy] at hn1
       have HXY := hid (And.intro hxx hyy)
       have HN1 := hid hn1
       clear hxx hyy hN hn1 hp1
       by_cases y0 : y < 0
       ·have Hf := hid (show quotB s i = (⟨#[]⟩, -1) by rw [HT.out]; exact if_pos y0)
        go_wp2_with fail
        refine (c_l09Escape s p1 _ hs (by omega)).mono ?_
        rintro e w9 ⟨rfl, rfl⟩
        rw [<- HXY.out.1, <- HXY.out.2]
        go_wp2_with fail
        go_ret2
        exact ⟨by rw [Hf.out]; rfl, HBr.out⟩
       ·obtain ⟨q, rfl⟩ : ∃ q : Nat, y = q := ⟨y.toNat, by omega⟩
        have hjq : j < q := by have := HN1.out; omega
        have hqs : q <= s.size := by have := HN1.out; omega
        have HE := hid (show quotB s i = quotG s q (M ++ (textB x).data.toList) by rw [HT.out]; exact if_neg y0)
        have d0 : decide ((q : Int) < 0) = false := decide_eq_false y0
        clear y0
        go_wp2_with fail
        refine (c_l09Escape s p1 _ hs (by omega)).mono ?_
        rintro e w9 ⟨rfl, rfl⟩
        rw [<- HXY.out.1, <- HXY.out.2]
        go_wp2_with fail
        refine (c_spec_RuneText x _ (by omega)).mono ?_
        rintro e w2 ⟨rfl, hb2⟩
        have B2 : Below w.heap.size w w2 := HBr.out.trans (hb2.mono (HBr.out).size)
        have hR2 := own_on HO.out B2 hb2
        have htz := textB_size x
        have hM4 : n + (textB x).size <= 4 * q := by omega
        have HB2 := hid B2
        have hsz2 := B2.size
        clear hb2 B2
        go_wp2_with (at_builtin; refine wpList_append_own_string _ rfl (.tmp 57) (.tmp 59) 28 9 rfl w.heap.size 5 i0 Tryz.underlying28 Tryz.underlying9 hi hz0 hz1 hz2 _ n _ rfl hR2 (textB x) rfl (by simp only [maxLen]; omega) (by omega) hsz2 ?_; intro v5 w5 hR5 hg5 _; obtain ⟨A5, c5, rfl⟩ := own_form hR5; rw [strCells_list] at hR5)
        have HB5 := Below.grown HB2.out hg5 hsz2 (fun k hk => (World.ownsRow.lt hR2 k hk).1)
        go_roundw
        case rel => exact ⟨q, M ++ (textB x).data.toList, A5, c5, n + (textB x).size, by omega, rfl, by rw [List.length_append, HNn.out, Array.length_toList]; rfl, rfl, hR5, hM4, HE.out, HB5⟩
        case measure => simp [Lib.intOf]; omega
      ·have f92 : ((b : Int) == 92) = false := beq_eq_false_iff_ne.2 e92
       obtain ⟨x, hxx⟩ : ∃ x, x = (runeB s j).1 := ⟨_, rfl⟩
       obtain ⟨y, hyy⟩ : ∃ y, y = (runeB s j).2 := ⟨_, rfl⟩
       have hN : quotN s j = if x < 32 then (0, -1) else (x, y) := by unfold quotN; rw [HY.out, if_neg e92, hxx, hyy]
       rw [hN] at HT
       obtain ⟨hn1, hn2, hn3⟩ := runeB_next s j
       rw [<- hxx] at hn2 hn3
       rw [<- hyy] at hn1
       have HXY := hid (And.intro hxx hyy)
       have HN1 := hid hn1
       clear hxx hyy hN hn1 e92 e34
       by_cases x32 : x < 32
       ·rw [if_pos x32] at HT
        have Hf := hid (show quotB s i = (⟨#[]⟩, -1) by rw [HT.out]; rfl)
        go_wp2_with fail
        refine (c_spec_RuneAt s j _ (by omega) (by omega)).mono ?_
        rintro e w1 ⟨rfl, hb⟩
        have HB1 := hid (HBr.out.trans (hb.mono HBr.out.size))
        rw [<- HXY.out.1, <- HXY.out.2]
        go_wp2_with fail
        go_ret2
        exact ⟨by rw [Hf.out]; rfl, HB1.out⟩
       ·rw [if_neg x32] at HT
        have d32 : decide (x < 32) = false := decide_eq_false x32
        clear x32
        by_cases y0 : y < 0
        ·have Hf := hid (show quotB s i = (⟨#[]⟩, -1) by rw [HT.out]; exact if_pos y0)
         go_wp2_with fail
         refine (c_spec_RuneAt s j _ (by omega) (by omega)).mono ?_
         rintro e w1 ⟨rfl, hb⟩
         have HB1 := hid (HBr.out.trans (hb.mono HBr.out.size))
         rw [<- HXY.out.1, <- HXY.out.2]
         go_wp2_with fail
         go_ret2
         exact ⟨by rw [Hf.out]; rfl, HB1.out⟩
        ·obtain ⟨q, rfl⟩ : ∃ q : Nat, y = q := ⟨y.toNat, by omega⟩
         have hjq : j < q := by have := HN1.out; omega
         have hqs : q <= s.size := by have := HN1.out; omega
         have HE := hid (show quotB s i = quotG s q (M ++ (textB x).data.toList) by rw [HT.out]; exact if_neg y0)
         have d0 : decide ((q : Int) < 0) = false := decide_eq_false y0
         clear y0
         go_wp2_with fail
         refine (c_spec_RuneAt s j _ (by omega) (by omega)).mono ?_
         rintro e w1 ⟨rfl, hb⟩
         have HB1 := hid (HBr.out.trans (hb.mono HBr.out.size))
         rw [<- HXY.out.1, <- HXY.out.2]
         go_wp2_with fail
         refine (c_spec_RuneText x _ (by omega)).mono ?_
         rintro e w2 ⟨rfl, hb2⟩
         have B2 : Below w.heap.size w w2 := HB1.out.trans (hb2.mono HB1.out.size)
         have hR2 := own_on HO.out B2 (hb.trans (hb2.mono hb.size))
         have htz := textB_size x
         have hM4 : n + (textB x).size <= 4 * q := by omega
         have HB2 := hid B2
         have hsz2 := B2.size
         clear hb2 B2
         go_wp2_with (at_builtin; refine wpList_append_own_string _ rfl (.tmp 57) (.tmp 59) 28 9 rfl w.heap.size 5 i0 Tryz.underlying28 Tryz.underlying9 hi hz0 hz1 hz2 _ n _ rfl hR2 (textB x) rfl (by simp only [maxLen]; omega) (by omega) hsz2 ?_; intro v5 w5 hR5 hg5 _; obtain ⟨A5, c5, rfl⟩ := own_form hR5; rw [strCells_list] at hR5)
         have HB5 := Below.grown HB2.out hg5 hsz2 (fun k hk => (World.ownsRow.lt hR2 k hk).1)
         go_roundw
         case rel => exact ⟨q, M ++ (textB x).data.toList, A5, c5, n + (textB x).size, by omega, rfl, by rw [List.length_append, HNn.out, Array.length_toList]; rfl, rfl, hR5, hM4, HE.out, HB5⟩
         case measure => simp [Lib.intOf]; omega
    ·have Hf := hid (show quotB s i = (⟨#[]⟩, -1) by rw [HG.out]; exact quotG_end (by omega))
     go_wp2_with fail
     go_ret2
     exact ⟨by rw [Hf.out]; rfl, HBr.out⟩
  ·have HQ := hid (show quotB s i = (⟨#[]⟩, -1) by unfold quotB; rw [if_pos hii, hby, if_neg e34])
   have f34 : ((b : Int) == 34) = false := beq_eq_false_iff_ne.2 e34
   have n34 : ((b : Int) != 34) = true := bne_iff_ne.2 e34
   clear e34
   go_enter Tryz.func190, Tryz.ntmps190
   go_wp2_with (first | (go_at_call 115; refine (c_spec_l01In _ _ _ _).mono ?_; rintro e w' ⟨rfl, rfl⟩))
   go_ret2
   exact ⟨by rw [HQ.out]; rfl, Below.refl _ _⟩
 ·have HQ := hid (show quotB s i = (⟨#[]⟩, -1) by unfold quotB; rw [if_neg (by omega)])
  have h0 : inB (i : Int) 0 ((s.size : Int) - 1) = false := decide_eq_false (by omega)
  go_enter Tryz.func190, Tryz.ntmps190
  go_wp2_with (first | (go_at_call 115; refine (c_spec_l01In _ _ _ _).mono ?_; rintro e w' ⟨rfl, rfl⟩))
  go_ret2
  exact ⟨by rw [HQ.out]; rfl, Below.refl _ _⟩
theorem c_impl_ReadQuoted (s : ByteArray) (i : Nat) (w : World) (hs : s.size <= 1048576) (hi : i <= 1048576) (hV : CTab w) (hT : Tabs w) :
  Calls Tryz.prog 180 #[.string s, .int .i64 i] w fun e w' => e = .returned (.tuple #[.string (quotB s i).1, .int .i64 (quotB s i).2]) /\ Below w.heap.size w w' := by
 have HVT := hid (And.intro hV hT)
 clear hV hT
 by_cases hlt : (i : Int) < s.size
 ·have hii : i < s.size := by omega
  have h1 : decide ((s.size : Int) <= i) = false := decide_eq_false (by omega)
  have h2 : decide (s.size <= i) = false := decide_eq_false (by omega)
  have h3 : decide ((i : Int) < 0) = false := decide_eq_false (by omega)
  have hz0 : (0 : Int) <= i := by omega
  obtain ⟨b, hb⟩ : ∃ b : Nat, b = (s.get! i).toNat := ⟨_, rfl⟩
  have hx : (s[i]'hii).toNat = b := by rw [hb]; exact get_at s i hii
  have hby : byteI s i = b := by unfold byteI; rw [hb]
  clear hb
  by_cases e34 : (b : Int) = 34
  ·have HQ := hid (show quotB s i = quotG s (i + 1) [] by unfold quotB; rw [if_pos hii, hby, if_pos e34])
   obtain rfl : b = 34 := by omega
   clear e34
   obtain ⟨i0, hi, hz0, hz1, hz2⟩ := info_parts (show (Tryz.prog.info? 5).map (fun i => (i.zero, i.size, i.bytes)) = some (some (.int .u8 0), 1, 1) from by kernel_rfl)
   go_enter Tryz.func180, Tryz.ntmps180
   go_wp2_with fail
   go_loopw [1, 6] (fun s1 s6 wr => ∃ (j : Nat) (M : List UInt8) (A : Option Addr) (c n : Nat), j <= s.size /\ s1 = .int .i64 j /\ n = M.length /\ s6 = .slice A n c /\ wr.ownsRow w.heap.size 5 1 (.slice A n c) n (Lib.strCells ⟨M.toArray⟩) /\ n <= 4 * j /\ quotB s i = quotG s j M /\ Below w.heap.size w wr) (fun s1 _ _ => s.size - (Lib.intOf s1).toNat)
   case atStart => exact ⟨i + 1, [], some ⟨w.heap.size, 0, none⟩, 0, 0, by omega, by go_num, rfl, rfl, own_empty rfl (Nat.le_refl _), by omega, HQ.out, bel⟩
   case round =>
    obtain ⟨j, M, A, c, n, hjl, rfl, hn, rfl, hown, hnj, hq, hbr⟩ := hrel
    have HO := hid hown
    have HG := hid hq
    have HBr := hid hbr
    have HNn := hid hn
    clear hown hq hbr hn hx hby
    by_cases hlt2 : (j : Int) < s.size
    ·have hjj : j < s.size := by omega
     have hj0 : (0 : Int) <= j := by omega
     obtain ⟨b, hb⟩ : ∃ b : Nat, b = (s.get! j).toNat := ⟨_, rfl⟩
     have hx : (s[j]'hjj).toNat = b := by rw [hb]; exact get_at s j hjj
     have hby : byteI s j = b := by unfold byteI; rw [hb]
     have HS := hid (HG.out.trans (quotG_at hjj))
     rw [hby] at HS
     have HY := hid hby
     clear hb hby
     by_cases e34 : (b : Int) = 34
     ·have Hf := hid (show quotB s i = (⟨M.toArray⟩, (j : Int) + 1) by rw [HS.out, if_pos e34])
      obtain rfl : b = 34 := by omega
      clear e34
      have hcv := own_string HNn.out HO.out
      go_wp2_with fail
      go_ret2
      exact ⟨by rw [Hf.out]; rfl, HBr.out⟩
     ·have f34 : ((b : Int) == 34) = false := beq_eq_false_iff_ne.2 e34
      have HT := hid (show quotB s i = if (quotN s j).2 < 0 then (⟨#[]⟩, -1) else quotG s (quotN s j).2.toNat (M ++ (textB (quotN s j).1).data.toList) by rw [HS.out, if_neg e34])
      by_cases e92 : (b : Int) = 92
      ·obtain rfl : b = 92 := by omega
       clear e92 e34 f34
       obtain ⟨p1, hp1⟩ : ∃ p, p = j + 1 := ⟨_, rfl⟩
       have q1 : (j : Int) + 1 = p1 := by omega
       obtain ⟨x, hxx⟩ : ∃ x, x = (escB s p1).1 := ⟨_, rfl⟩
       obtain ⟨y, hyy⟩ : ∃ y, y = (escB s p1).2 := ⟨_, rfl⟩
       have hN : quotN s j = (x, y) := by unfold quotN; rw [HY.out, if_pos (show ((92 : Nat) : Int) = 92 from rfl), <- hp1, hxx, hyy]
       rw [hN] at HT
       obtain ⟨hn1, hn2, hn3⟩ := escB_next s p1
       rw [<- hxx] at hn2 hn3
       rw [<- hyy] at hn1
       have HXY := hid (And.intro hxx hyy)
       have HN1 := hid hn1
       clear hxx hyy hN hn1 hp1
       by_cases y0 : y < 0
       ·have Hf := hid (show quotB s i = (⟨#[]⟩, -1) by rw [HT.out]; exact if_pos y0)
        go_wp2_with fail
        refine (c_impl_readEscape s p1 _ hs (by omega) (HVT.out.1.below HBr.out) (HVT.out.2.below HBr.out)).mono ?_
        rintro e w1 ⟨rfl, hb⟩
        have HB1 := hid (HBr.out.trans (hb.mono HBr.out.size))
        rw [<- HXY.out.1, <- HXY.out.2]
        go_wp2_with fail
        go_ret2
        exact ⟨by rw [Hf.out]; rfl, HB1.out⟩
       ·obtain ⟨q, rfl⟩ : ∃ q : Nat, y = q := ⟨y.toNat, by omega⟩
        have hjq : j < q := by have := HN1.out; omega
        have hqs : q <= s.size := by have := HN1.out; omega
        have HE := hid (show quotB s i = quotG s q (M ++ (textB x).data.toList) by rw [HT.out]; exact if_neg y0)
        have d0 : decide ((q : Int) < 0) = false := decide_eq_false y0
        clear y0
        go_wp2_with fail
        refine (c_impl_readEscape s p1 _ hs (by omega) (HVT.out.1.below HBr.out) (HVT.out.2.below HBr.out)).mono ?_
        rintro e w2 ⟨rfl, hb2⟩
        have B2 : Below w.heap.size w w2 := HBr.out.trans (hb2.mono (HBr.out).size)
        have hR2 := own_on HO.out B2 hb2
        rw [<- HXY.out.1, <- HXY.out.2]
        go_wp2_with fail
        refine (c_impl_RuneText x _ (by omega)).mono ?_
        rintro e w9 ⟨rfl, rfl⟩
        have htz := textB_size x
        have hM4 : n + (textB x).size <= 4 * q := by omega
        have HB2 := hid B2
        have hsz2 := B2.size
        clear hb2 B2
        go_wp2_with (at_builtin; refine wpList_append_own_string _ rfl (.tmp 56) (.tmp 58) 28 9 rfl w.heap.size 5 i0 Tryz.underlying28 Tryz.underlying9 hi hz0 hz1 hz2 _ n _ rfl hR2 (textB x) rfl (by simp only [maxLen]; omega) (by omega) hsz2 ?_; intro v5 w5 hR5 hg5 _; obtain ⟨A5, c5, rfl⟩ := own_form hR5; rw [strCells_list] at hR5)
        have HB5 := Below.grown HB2.out hg5 hsz2 (fun k hk => (World.ownsRow.lt hR2 k hk).1)
        go_roundw
        case rel => exact ⟨q, M ++ (textB x).data.toList, A5, c5, n + (textB x).size, by omega, rfl, by rw [List.length_append, HNn.out, Array.length_toList]; rfl, rfl, hR5, hM4, HE.out, HB5⟩
        case measure => simp [Lib.intOf]; omega
      ·have f92 : ((b : Int) == 92) = false := beq_eq_false_iff_ne.2 e92
       obtain ⟨x, hxx⟩ : ∃ x, x = (runeB s j).1 := ⟨_, rfl⟩
       obtain ⟨y, hyy⟩ : ∃ y, y = (runeB s j).2 := ⟨_, rfl⟩
       have hN : quotN s j = if x < 32 then (0, -1) else (x, y) := by unfold quotN; rw [HY.out, if_neg e92, hxx, hyy]
       rw [hN] at HT
       obtain ⟨hn1, hn2, hn3⟩ := runeB_next s j
       rw [<- hxx] at hn2 hn3
       rw [<- hyy] at hn1
       have HXY := hid (And.intro hxx hyy)
       have HN1 := hid hn1
       clear hxx hyy hN hn1 e92 e34
       by_cases x32 : x < 32
       ·rw [if_pos x32] at HT
        have Hf := hid (show quotB s i = (⟨#[]⟩, -1) by rw [HT.out]; rfl)
        go_wp2_with fail
        refine (c_impl_RuneAt s j _ (by omega) (by omega) (HVT.out.2.below HBr.out)).mono ?_
        rintro e w1 ⟨rfl, hb⟩
        have HB1 := hid (HBr.out.trans (hb.mono HBr.out.size))
        rw [<- HXY.out.1, <- HXY.out.2]
        go_wp2_with fail
        go_ret2
        exact ⟨by rw [Hf.out]; rfl, HB1.out⟩
       ·rw [if_neg x32] at HT
        have d32 : decide (x < 32) = false := decide_eq_false x32
        clear x32
        by_cases y0 : y < 0
        ·have Hf := hid (show quotB s i = (⟨#[]⟩, -1) by rw [HT.out]; exact if_pos y0)
         go_wp2_with fail
         refine (c_impl_RuneAt s j _ (by omega) (by omega) (HVT.out.2.below HBr.out)).mono ?_
         rintro e w1 ⟨rfl, hb⟩
         have HB1 := hid (HBr.out.trans (hb.mono HBr.out.size))
         rw [<- HXY.out.1, <- HXY.out.2]
         go_wp2_with fail
         go_ret2
         exact ⟨by rw [Hf.out]; rfl, HB1.out⟩
        ·obtain ⟨q, rfl⟩ : ∃ q : Nat, y = q := ⟨y.toNat, by omega⟩
         have hjq : j < q := by have := HN1.out; omega
         have hqs : q <= s.size := by have := HN1.out; omega
         have HE := hid (show quotB s i = quotG s q (M ++ (textB x).data.toList) by rw [HT.out]; exact if_neg y0)
         have d0 : decide ((q : Int) < 0) = false := decide_eq_false y0
         clear y0
         go_wp2_with fail
         refine (c_impl_RuneAt s j _ (by omega) (by omega) (HVT.out.2.below HBr.out)).mono ?_
         rintro e w2 ⟨rfl, hb2⟩
         have B2 : Below w.heap.size w w2 := HBr.out.trans (hb2.mono HBr.out.size)
         have hR2 := own_on HO.out B2 hb2
         rw [<- HXY.out.1, <- HXY.out.2]
         go_wp2_with fail
         refine (c_impl_RuneText x _ (by omega)).mono ?_
         rintro e w9 ⟨rfl, rfl⟩
         have htz := textB_size x
         have hM4 : n + (textB x).size <= 4 * q := by omega
         have HB2 := hid B2
         have hsz2 := B2.size
         clear hb2 B2
         go_wp2_with (at_builtin; refine wpList_append_own_string _ rfl (.tmp 56) (.tmp 58) 28 9 rfl w.heap.size 5 i0 Tryz.underlying28 Tryz.underlying9 hi hz0 hz1 hz2 _ n _ rfl hR2 (textB x) rfl (by simp only [maxLen]; omega) (by omega) hsz2 ?_; intro v5 w5 hR5 hg5 _; obtain ⟨A5, c5, rfl⟩ := own_form hR5; rw [strCells_list] at hR5)
         have HB5 := Below.grown HB2.out hg5 hsz2 (fun k hk => (World.ownsRow.lt hR2 k hk).1)
         go_roundw
         case rel => exact ⟨q, M ++ (textB x).data.toList, A5, c5, n + (textB x).size, by omega, rfl, by rw [List.length_append, HNn.out, Array.length_toList]; rfl, rfl, hR5, hM4, HE.out, HB5⟩
         case measure => simp [Lib.intOf]; omega
    ·have Hf := hid (show quotB s i = (⟨#[]⟩, -1) by rw [HG.out]; exact quotG_end (by omega))
     go_wp2_with fail
     go_ret2
     exact ⟨by rw [Hf.out]; rfl, HBr.out⟩
  ·have HQ := hid (show quotB s i = (⟨#[]⟩, -1) by unfold quotB; rw [if_pos hii, hby, if_neg e34])
   have f34 : ((b : Int) == 34) = false := beq_eq_false_iff_ne.2 e34
   have n34 : ((b : Int) != 34) = true := bne_iff_ne.2 e34
   clear e34
   go_enter Tryz.func180, Tryz.ntmps180
   go_wp2_with fail
   go_ret2
   exact ⟨by rw [HQ.out]; rfl, Below.refl _ _⟩
 ·have HQ := hid (show quotB s i = (⟨#[]⟩, -1) by unfold quotB; rw [if_neg (by omega)])
  have hz0 : (0 : Int) <= i := by omega
  go_enter Tryz.func180, Tryz.ntmps180
  go_wp2_with fail
  go_ret2
  exact ⟨by rw [HQ.out]; rfl, Below.refl _ _⟩
theorem idx_mark : ∀ i : Fin 256, Lib.indexByte [123, 125, 91, 93, 58, 44] (UInt8.ofNat i.val) = markI i.val - 1 := by decide
theorem c_IndexMark (b : Nat) (hb : b < 256) (w : World) : Calls Tryz.prog 130 #[.string { data := #[123, 125, 91, 93, 58, 44] }, .int .u8 b] w fun e w' => e = .returned (.int .i64 (markI b - 1)) /\ w = w' := by
 have h := c_strings_IndexByte { data := #[123, 125, 91, 93, 58, 44] } (UInt8.ofNat b) w
 have e1 : (UInt8.ofNat b).toNat = b := by rw [UInt8.toNat_ofNat']; exact Nat.mod_eq_of_lt hb
 rw [e1] at h
 exact h.mono (fun _ _ h => ⟨h.1.trans (congrArg (fun z => Ending.returned (Value.int .i64 z)) (idx_mark ⟨b, hb⟩)), h.2⟩)
theorem markI_range (x : Int) : 0 <= markI x /\ markI x <= 6 := by
 unfold markI
 repeat' split
 all_goals omega
theorem wholeB_next (s : ByteArray) (i : Nat) : ((wholeB s i).2 < 0 ∨ ((i : Int) < (wholeB s i).2 /\ (wholeB s i).2 <= s.size)) /\ -9223372036854775808 <= (wholeB s i).1 /\ (wholeB s i).1 <= 9223372036854775807 := by
 have key : ∀ (neg : Bool) (a : Nat), i <= a -> a <= s.size -> ((wholeA s neg a).2 < 0 ∨ ((i : Int) < (wholeA s neg a).2 /\ (wholeA s neg a).2 <= s.size)) /\ -9223372036854775808 <= (wholeA s neg a).1 /\ (wholeA s neg a).1 <= 9223372036854775807 := by
  intro neg a h1 h2
  have h3 := digE_le s a
  have h4 := h3.2 h2
  unfold wholeA
  by_cases hc : digE s a = a ∨ (byteI s a = 48 /\ a + 1 < digE s a) ∨ (digE s a < s.size /\ (byteI s (digE s a) = 46 ∨ byteI s (digE s a) = 101 ∨ byteI s (digE s a) = 69))
  ·rw [if_pos hc]; simp only; omega
  ·rw [if_neg hc]
   have h5 : digE s a ≠ a := fun e => hc (.inl e)
   cases neg
   ·rw [if_neg (by decide)]
    split
    ·simp only; omega
    ·simp only; omega
   ·rw [if_pos rfl]
    split
    ·simp only; omega
    ·simp only; omega
 unfold wholeB
 split
 ·split
  ·exact key true (i + 1) (by omega) (by omega)
  ·exact key false i (by omega) (by omega)
 ·simp only; omega
theorem quotB_next (s : ByteArray) (i : Nat) : (quotB s i).2 < 0 ∨ ((i : Int) < (quotB s i).2 /\ (quotB s i).2 <= s.size) := by
 have key : ∀ (k j : Nat) (acc : List UInt8), i < j -> ((quotR s k j acc).2 < 0 ∨ ((i : Int) < (quotR s k j acc).2 /\ (quotR s k j acc).2 <= s.size)) := by
  intro k
  induction k with
  | zero => intro j acc _; unfold quotR; left; decide
  | succ k ih =>
   intro j acc hj
   unfold quotR
   split
   ·split
    ·right; simp only; omega
    ·split
     ·left; decide
     ·have h := (quotN_next s j).1
      exact ih _ _ (by omega)
   ·left; decide
 unfold quotB
 split
 ·split
  ·exact key _ _ _ (by omega)
  ·left; decide
 ·left; decide
def stW (s : ByteArray) (i : Nat) : Nat -> Int × Int
 | 0 => (0, -1)
 | k + 1 => if wordB s i (if k = 0 then wT else if k = 1 then wF else wN) = true then (9 + (k : Int), (i : Int) + ((if k = 0 then wT else if k = 1 then wF else wN) : List UInt8).length) else stW s i k
theorem stW_end (s : ByteArray) (i : Nat) : stW s i 3 = if wordB s i wT = true then (9, (i : Int) + 4) else if wordB s i wF = true then (10, (i : Int) + 5) else if wordB s i wN = true then (11, (i : Int) + 4) else (0, -1) := by
 have e3 : stW s i 3 = if wordB s i wN = true then (11, (i : Int) + 4) else if wordB s i wF = true then (10, (i : Int) + 5) else if wordB s i wT = true then (9, (i : Int) + 4) else (0, -1) := rfl
 rw [e3]
 have t1 : wordB s i wT = true -> byteI s i = 116 := fun h => (word_first h).2
 have t2 : wordB s i wF = true -> byteI s i = 102 := fun h => (word_first h).2
 have t3 : wordB s i wN = true -> byteI s i = 110 := fun h => (word_first h).2
 by_cases h1 : wordB s i wT = true
 ·rw [if_neg (fun h => by have := t1 h1; have := t3 h; omega), if_neg (fun h => by have := t1 h1; have := t2 h; omega), if_pos h1, if_pos h1]
 ·by_cases h2 : wordB s i wF = true
  ·rw [if_neg (fun h => by have := t2 h2; have := t3 h; omega), if_pos h2, if_neg h1, if_pos h2]
  ·by_cases h3 : wordB s i wN = true
   ·rw [if_pos h3, if_neg h1, if_neg h2, if_pos h3]
   ·rw [if_neg h3, if_neg h2, if_neg h1, if_neg h1, if_neg h2, if_neg h3]
theorem sign_st {s : ByteArray} {i : Nat} (h : i < s.size) (hm : markI (byteI s i) = 0) (hq : byteI s i ≠ 34) (hn : ¬ (byteI s i = 45 ∨ figI (byteI s i) = true)) : signB s i = if (stW s i 3).2 < 0 then (sign0, -1) else (⟨(stW s i 3).1, ⟨#[]⟩, 0, i⟩, (stW s i 3).2) := by
 rw [sign_word h hm hq hn, stW_end]
 by_cases h1 : wordB s i wT = true
 ·rw [if_pos h1, if_pos h1, if_neg (by simp only; omega)]
 ·rw [if_neg h1, if_neg h1]
  by_cases h2 : wordB s i wF = true
  ·rw [if_pos h2, if_pos h2, if_neg (by simp only; omega)]
  ·rw [if_neg h2, if_neg h2]
   by_cases h3 : wordB s i wN = true
   ·rw [if_pos h3, if_pos h3, if_neg (by simp only; omega)]
   ·rw [if_neg h3, if_neg h3, if_pos (by decide)]
theorem stW_range (s : ByteArray) (i : Nat) : ∀ k, k <= 3 -> ((stW s i k).2 < 0 ∨ ((i : Int) < (stW s i k).2 /\ (stW s i k).2 <= s.size /\ (stW s i k).2 <= i + 5)) /\ 0 <= (stW s i k).1 /\ (stW s i k).1 <= 11
 | 0, _ => by unfold stW; simp
 | k + 1, hk => by
  have ih := stW_range s i k (by omega)
  unfold stW
  by_cases h : wordB s i (if k = 0 then wT else if k = 1 then wF else wN) = true
  ·rw [if_pos h]
   rcases (show k = 0 ∨ k = 1 ∨ k = 2 by omega) with rfl | rfl | rfl
   ·have := word_fits (by decide) h; simp [wT] at this ⊢; omega
   ·have := word_fits (by decide) h; simp [wF] at this ⊢; omega
   ·have := word_fits (by decide) h; simp [wN] at this ⊢; omega
  ·rw [if_neg h]
   exact ih
theorem c_impl_SignAt (s : ByteArray) (i : Nat) (w : World) (hs : s.size <= 1048576) (hi : i <= 1048576) (hV : CTab w) (hT : Tabs w) (hE : ErrR w) :
  Calls Tryz.prog 131 #[.string s, .int .i64 i] w fun e w' => e = .returned (.tuple #[.agg (signC (signB s i).1), .int .i64 (signB s i).2]) /\ Below w.heap.size w w' := by
 have HVT := hid (And.intro hV (And.intro hT hE))
 clear hV hT hE
 by_cases hlt : (i : Int) < s.size
 ·have hii : i < s.size := by omega
  have h1 : decide ((s.size : Int) <= i) = false := decide_eq_false (by omega)
  have h2 : decide (s.size <= i) = false := decide_eq_false (by omega)
  have h3 : decide ((i : Int) < 0) = false := decide_eq_false (by omega)
  have hz0 : (0 : Int) <= i := by omega
  obtain ⟨b, hb⟩ : ∃ b : Nat, b = (s.get! i).toNat := ⟨_, rfl⟩
  have hx : (s[i]'hii).toNat = b := by rw [hb]; exact get_byte s i hii
  have hby : byteI s i = b := by unfold byteI; rw [hb]
  have hb2 : b < 256 := by have := (s.get! i).toNat_lt; omega
  obtain ⟨m, hm⟩ : ∃ m, m = markI b := ⟨_, rfl⟩
  have hmr := markI_range b
  rw [<- hm] at hmr
  obtain ⟨hm0, hm6⟩ := hmr
  have HBy := hid hby
  have HM := hid hm
  clear hb hby hm
  by_cases c0 : m = 0
  ·obtain rfl := c0
   by_cases c34 : (b : Int) = 34
   ·have HS2 := hid (show signB s i = if (quotB s i).2 < 0 then (sign0, -1) else (⟨7, (quotB s i).1, 0, i⟩, (quotB s i).2) from sign_quot hii (by rw [HBy.out]; exact c34))
    have d34 : ((b : Int) == 34) = true := beq_iff_eq.2 c34
    clear c34
    obtain ⟨q, hq⟩ : ∃ q, q = (quotB s i).2 := ⟨_, rfl⟩
    obtain ⟨t, ht⟩ : ∃ t, t = (quotB s i).1 := ⟨_, rfl⟩
    have hqn := quotB_next s i
    rw [<- hq] at hqn
    rw [<- hq, <- ht] at HS2
    have HQT := hid (And.intro ht hq)
    have HQN := hid hqn
    clear hq ht hqn
    by_cases q0 : q < 0
    ·have HF := hid (show signB s i = (sign0, -1) by rw [HS2.out, if_pos q0])
     go_enter Tryz.func131, Tryz.ntmps131
     go_wp2_with (first | (go_at_call 130; refine (c_IndexMark b hb2 _).mono ?_; rintro e w9 ⟨rfl, rfl⟩; rw [<- HM.out]) | (go_at_call 201; refine (c_impl_isDigit _ _).mono ?_; rintro e w' ⟨rfl, rfl⟩))
     refine (c_impl_ReadQuoted s i _ hs hi (HVT.out.1.below bel) (HVT.out.2.1.below bel)).mono ?_
     rintro e w1 ⟨rfl, hb1⟩
     rw [<- HQT.out.1, <- HQT.out.2]
     have Z4 : w1.heap[w.heap.size]? = some (.cells #[.int .i64 0, .string ⟨#[]⟩, .int .i64 0, .int .i64 0] 92 (0, 0)) := (hb1.block w.heap.size (by simp; omega)).trans ((Below.heap_alloc _ _ _ (by simp)).trans (heap_at (by simp)))
     have Z6 : w1.heap[w.heap.size + 1]? = some (.cells #[.int .i64 7, .string ⟨#[]⟩, .int .i64 0, .int .i64 i] 92 (0, 0)) := (hb1.block (w.heap.size + 1) (by simp)).trans (heap_at (by simp))
     obtain ⟨x0, x1, x2, x3, xf⟩ := row4 Z4
     obtain ⟨y0, y1, y2, y3, yf⟩ := row4 Z6
     have l4 := row_lt Z4
     have l6 := row_lt Z6
     clear Z4 Z6
     go_wp2_with fail
     exact bodyPost_ret (v := .tuple #[.agg #[.int .i64 0, .string ⟨#[]⟩, .int .i64 0, .int .i64 0], .int .i64 (-1)]) (by simp only [results, Tryz.results131]; go_simp) rfl ⟨by rw [HF.out]; rfl, bel⟩
    ·have HF := hid (show signB s i = (⟨7, t, 0, i⟩, q) by rw [HS2.out, if_neg q0])
     have q1 : decide (q < 0) = false := decide_eq_false q0
     have q2 : 0 <= q := by omega
     clear q0
     go_enter Tryz.func131, Tryz.ntmps131
     go_wp2_with (first | (go_at_call 130; refine (c_IndexMark b hb2 _).mono ?_; rintro e w9 ⟨rfl, rfl⟩; rw [<- HM.out]) | (go_at_call 201; refine (c_impl_isDigit _ _).mono ?_; rintro e w' ⟨rfl, rfl⟩))
     refine (c_impl_ReadQuoted s i _ hs hi (HVT.out.1.below bel) (HVT.out.2.1.below bel)).mono ?_
     rintro e w1 ⟨rfl, hb1⟩
     rw [<- HQT.out.1, <- HQT.out.2]
     have Z4 : w1.heap[w.heap.size]? = some (.cells #[.int .i64 0, .string ⟨#[]⟩, .int .i64 0, .int .i64 0] 92 (0, 0)) := (hb1.block w.heap.size (by simp; omega)).trans ((Below.heap_alloc _ _ _ (by simp)).trans (heap_at (by simp)))
     have Z6 : w1.heap[w.heap.size + 1]? = some (.cells #[.int .i64 7, .string ⟨#[]⟩, .int .i64 0, .int .i64 i] 92 (0, 0)) := (hb1.block (w.heap.size + 1) (by simp)).trans (heap_at (by simp))
     obtain ⟨x0, x1, x2, x3, xf⟩ := row4 Z4
     obtain ⟨y0, y1, y2, y3, yf⟩ := row4 Z6
     have l4 := row_lt Z4
     have l6 := row_lt Z6
     clear Z4 Z6
     go_wp2_with fail
     exact bodyPost_ret (v := .tuple #[.agg #[.int .i64 7, .string t, .int .i64 0, .int .i64 i], .int .i64 q]) (by simp only [results, Tryz.results131]; go_simp) rfl ⟨by rw [HF.out]; rfl, bel⟩
   ·have HN34 := hid c34
    have d34 : ((b : Int) == 34) = false := beq_eq_false_iff_ne.2 c34
    clear c34
    by_cases cn : (b : Int) = 45 ∨ figI b = true
    ·have HS3 := hid (show signB s i = if (wholeB s i).2 < 0 then (sign0, -1) else (⟨8, ⟨#[]⟩, (wholeB s i).1, i⟩, (wholeB s i).2) from sign_num hii (by rw [HBy.out]; exact HM.out.symm) (by rw [HBy.out]; exact HN34.out) (by rw [HBy.out]; exact cn))
     have test : ∀ P : Prop, (((b : Int) == 45) = true -> P) -> (((b : Int) == 45) = false -> digitB (b : Int) = true -> P) -> P := by
      intro P k1 k2
      by_cases h8 : (b : Int) = 45
      ·exact k1 (beq_iff_eq.2 h8)
      ·exact k2 (beq_eq_false_iff_ne.2 h8) (by rw [digit_fig]; exact cn.resolve_left h8)
     clear cn
     obtain ⟨q, hq⟩ : ∃ q, q = (wholeB s i).2 := ⟨_, rfl⟩
     obtain ⟨t, ht⟩ : ∃ t, t = (wholeB s i).1 := ⟨_, rfl⟩
     have hqn := wholeB_next s i
     rw [<- hq, <- ht] at hqn
     rw [<- hq, <- ht] at HS3
     have HQT := hid (And.intro ht hq)
     have HQN := hid hqn
     clear hq ht hqn
     by_cases q0 : q < 0
     ·have HF := hid (show signB s i = (sign0, -1) by rw [HS3.out, if_pos q0])
      refine test _ (fun t1 => ?_) (fun t1 t2 => ?_)
      all_goals
       clear test
       go_enter Tryz.func131, Tryz.ntmps131
       go_wp2_with (first | (go_at_call 130; refine (c_IndexMark b hb2 _).mono ?_; rintro e w9 ⟨rfl, rfl⟩; rw [<- HM.out]) | (go_at_call 201; refine (c_impl_isDigit _ _).mono ?_; rintro e w' ⟨rfl, rfl⟩))
       refine (c_impl_ReadWhole s i _ hs hi (HVT.out.2.2.below bel)).mono ?_
       rintro e w1 ⟨rfl, hb1⟩
       rw [<- HQT.out.1, <- HQT.out.2]
       have Z4 : w1.heap[w.heap.size]? = some (.cells #[.int .i64 0, .string ⟨#[]⟩, .int .i64 0, .int .i64 0] 92 (0, 0)) := (hb1.block w.heap.size (by simp; omega)).trans ((Below.heap_alloc _ _ _ (by simp)).trans (heap_at (by simp)))
       have Z6 : w1.heap[w.heap.size + 1]? = some (.cells #[.int .i64 8, .string ⟨#[]⟩, .int .i64 0, .int .i64 i] 92 (0, 0)) := (hb1.block (w.heap.size + 1) (by simp)).trans (heap_at (by simp))
       obtain ⟨x0, x1, x2, x3, xf⟩ := row4 Z4
       obtain ⟨y0, y1, y2, y3, yf⟩ := row4 Z6
       have l4 := row_lt Z4
       have l6 := row_lt Z6
       clear Z4 Z6
       go_wp2_with fail
       exact bodyPost_ret (v := .tuple #[.agg #[.int .i64 0, .string ⟨#[]⟩, .int .i64 0, .int .i64 0], .int .i64 (-1)]) (by simp only [results, Tryz.results131]; go_simp) rfl ⟨by rw [HF.out]; rfl, bel⟩
     ·have HF := hid (show signB s i = (⟨8, ⟨#[]⟩, t, i⟩, q) by rw [HS3.out, if_neg q0])
      have q1 : decide (q < 0) = false := decide_eq_false q0
      have q2 : 0 <= q := by omega
      clear q0
      refine test _ (fun t1 => ?_) (fun t1 t2 => ?_)
      all_goals
       clear test
       go_enter Tryz.func131, Tryz.ntmps131
       go_wp2_with (first | (go_at_call 130; refine (c_IndexMark b hb2 _).mono ?_; rintro e w9 ⟨rfl, rfl⟩; rw [<- HM.out]) | (go_at_call 201; refine (c_impl_isDigit _ _).mono ?_; rintro e w' ⟨rfl, rfl⟩))
       refine (c_impl_ReadWhole s i _ hs hi (HVT.out.2.2.below bel)).mono ?_
       rintro e w1 ⟨rfl, hb1⟩
       rw [<- HQT.out.1, <- HQT.out.2]
       have Z4 : w1.heap[w.heap.size]? = some (.cells #[.int .i64 0, .string ⟨#[]⟩, .int .i64 0, .int .i64 0] 92 (0, 0)) := (hb1.block w.heap.size (by simp; omega)).trans ((Below.heap_alloc _ _ _ (by simp)).trans (heap_at (by simp)))
       have Z6 : w1.heap[w.heap.size + 1]? = some (.cells #[.int .i64 8, .string ⟨#[]⟩, .int .i64 0, .int .i64 i] 92 (0, 0)) := (hb1.block (w.heap.size + 1) (by simp)).trans (heap_at (by simp))
       obtain ⟨x0, x1, x2, x3, xf⟩ := row4 Z4
       obtain ⟨y0, y1, y2, y3, yf⟩ := row4 Z6
       have l4 := row_lt Z4
       have l6 := row_lt Z6
       clear Z4 Z6
       go_wp2_with fail
       exact bodyPost_ret (v := .tuple #[.agg #[.int .i64 8, .string ⟨#[]⟩, .int .i64 t, .int .i64 i], .int .i64 q]) (by simp only [results, Tryz.results131]; go_simp) rfl ⟨by rw [HF.out]; rfl, bel⟩
    ·have HS3 := hid (sign_st hii (by rw [HBy.out]; exact HM.out.symm) (by rw [HBy.out]; exact HN34.out) (by rw [HBy.out]; exact cn))
     have d45 : ((b : Int) == 45) = false := beq_eq_false_iff_ne.2 (fun h => cn (.inl h))
     have ddg : digitB (b : Int) = false := by rw [digit_fig]; rcases h9 : figI (b : Int) with _ | _; rfl; exact absurd (.inr h9) cn
     clear cn
     have hisz : (i : Int) <= s.size := by omega
     have hex := hid (extract_drop s i)
     go_enter Tryz.func131, Tryz.ntmps131
     go_wp2_with (first | (go_at_call 130; refine (c_IndexMark b hb2 _).mono ?_; rintro e w9 ⟨rfl, rfl⟩; rw [<- HM.out]) | (go_at_call 201; refine (c_impl_isDigit _ _).mono ?_; rintro e w' ⟨rfl, rfl⟩))
     go_loopw [7, 30] (fun s7 s30 wr => ∃ (k : Nat) (K E : Int), k <= 3 /\ s30 = .int .i64 k /\ s7 = .int .i64 E /\ stW s i k = (K, E) /\ wr.heap[w.heap.size + 1]? = some (.cells #[.int .i64 K, .string ⟨#[]⟩, .int .i64 0, .int .i64 i] 92 (0, 0)) /\ wr.heap[w.heap.size]? = some (.cells #[.int .i64 0, .string ⟨#[]⟩, .int .i64 0, .int .i64 0] 92 (0, 0)) /\ wr.heap[w.heap.size + 1 + 1]? = some (.cells #[.string ⟨#[116, 114, 117, 101]⟩, .string ⟨#[102, 97, 108, 115, 101]⟩, .string ⟨#[110, 117, 108, 108]⟩] 9 (0, 0)) /\ Below w.heap.size w wr) (fun _ s30 _ => 3 - (Lib.intOf s30).toNat)
     case atStart => exact ⟨0, 0, -1, by omega, rfl, rfl, rfl, (Below.heap_alloc _ _ _ (by simp)).trans (heap_at (by simp)), (Below.heap_alloc _ _ _ (by simp; omega)).trans ((Below.heap_alloc _ _ _ (by simp)).trans (heap_at (by simp))), heap_at (by simp), bel⟩
     case round =>
      obtain ⟨k, K, E, hk, rfl, rfl, hst, hr6, hr4, hrw, hbr⟩ := hrel
      obtain ⟨x0, x1, x2, x3, xf⟩ := row4 hr6
      obtain ⟨y0, y1, y2, y3, yf⟩ := row4 hr4
      obtain ⟨z0, z1, z2, zf⟩ := row3 hrw
      have l6 := row_lt hr6
      have l4 := row_lt hr4
      have lw := row_lt hrw
      have HR6 := hid hr6
      have HR4 := hid hr4
      have HRw := hid hrw
      have HBr := hid hbr
      have hrg := stW_range s i k hk
      rw [hst] at hrg
      have HSt := hid hst
      have HRg := hid hrg
      clear hr6 hr4 hrw hbr hst hrg
      by_cases hk3 : (k : Int) < 3
      ·have hp : Lib.hasPrefix (s.extract i s.size).data.toList (if k = 0 then wT else if k = 1 then wF else wN) = wordB s i (if k = 0 then wT else if k = 1 then wF else wN) := by rw [hex.out]; exact word_prefix s i _
       have hk3n : k < 3 := by omega
       have HN := hid (show stW s i (k + 1) = if wordB s i (if k = 0 then wT else if k = 1 then wF else wN) = true then (9 + (k : Int), (i : Int) + ((if k = 0 then wT else if k = 1 then wF else wN) : List UInt8).length) else (K, E) by rw [<- HSt.out]; rfl)
       rcases hwb : wordB s i (if k = 0 then wT else if k = 1 then wF else wN) with _ | _
       ·rw [hwb] at hp
        have HN2 := hid (show stW s i (k + 1) = (K, E) by rw [HN.out, hwb]; rfl)
        have HP := hid hp
        clear hp hwb
        rcases (show k = 0 ∨ k = 1 ∨ k = 2 by omega) with rfl | rfl | rfl
        all_goals
         go_wp2_with fail
         refine (c_HasPrefix _ _ _).mono ?_
         rintro e w9 ⟨rfl, rfl⟩
         first | rw [show Lib.hasPrefix (s.extract i s.size).data.toList ({ data := #[116, 114, 117, 101] } : ByteArray).data.toList = false from HP.out] | rw [show Lib.hasPrefix (s.extract i s.size).data.toList ({ data := #[102, 97, 108, 115, 101] } : ByteArray).data.toList = false from HP.out] | rw [show Lib.hasPrefix (s.extract i s.size).data.toList ({ data := #[110, 117, 108, 108] } : ByteArray).data.toList = false from HP.out]
         go_wp2_with fail
         go_roundw
         case rel => first | exact ⟨1, K, E, by omega, rfl, rfl, HN2.out, HR6.out, HR4.out, HRw.out, HBr.out⟩ | exact ⟨2, K, E, by omega, rfl, rfl, HN2.out, HR6.out, HR4.out, HRw.out, HBr.out⟩ | exact ⟨3, K, E, by omega, rfl, rfl, HN2.out, HR6.out, HR4.out, HRw.out, HBr.out⟩
         case measure => simp [Lib.intOf]
       ·rw [hwb] at hp
        have HN2 := hid (show stW s i (k + 1) = (9 + (k : Int), (i : Int) + ((if k = 0 then wT else if k = 1 then wF else wN) : List UInt8).length) by rw [HN.out, hwb]; rfl)
        have HP := hid hp
        clear hp hwb
        rcases (show k = 0 ∨ k = 1 ∨ k = 2 by omega) with rfl | rfl | rfl
        all_goals
         go_wp2_with fail
         refine (c_HasPrefix _ _ _).mono ?_
         rintro e w9 ⟨rfl, rfl⟩
         first | rw [show Lib.hasPrefix (s.extract i s.size).data.toList ({ data := #[116, 114, 117, 101] } : ByteArray).data.toList = true from HP.out] | rw [show Lib.hasPrefix (s.extract i s.size).data.toList ({ data := #[102, 97, 108, 115, 101] } : ByteArray).data.toList = true from HP.out] | rw [show Lib.hasPrefix (s.extract i s.size).data.toList ({ data := #[110, 117, 108, 108] } : ByteArray).data.toList = true from HP.out]
         go_wp2_with fail
         go_roundw
         case rel =>
          first
           | exact ⟨1, 9, (i : Int) + 4, by omega, rfl, rfl, HN2.out, heap_setCell_same _ _ 0 _ _ _ HR6.out, (Below.heap_setCell _ _ _ _ (by simp)).trans HR4.out, (Below.heap_setCell _ _ _ _ (by simp)).trans HRw.out, HBr.out.setCell (by simp) _⟩
           | exact ⟨2, 10, (i : Int) + 5, by omega, rfl, rfl, HN2.out, heap_setCell_same _ _ 0 _ _ _ HR6.out, (Below.heap_setCell _ _ _ _ (by simp)).trans HR4.out, (Below.heap_setCell _ _ _ _ (by simp)).trans HRw.out, HBr.out.setCell (by simp) _⟩
           | exact ⟨3, 11, (i : Int) + 4, by omega, rfl, rfl, HN2.out, heap_setCell_same _ _ 0 _ _ _ HR6.out, (Below.heap_setCell _ _ _ _ (by simp)).trans HR4.out, (Below.heap_setCell _ _ _ _ (by simp)).trans HRw.out, HBr.out.setCell (by simp) _⟩
         case measure => simp [Lib.intOf]
      ·obtain rfl : k = 3 := by omega
       rw [HSt.out] at HS3
       by_cases q0 : E < 0
       ·have HF := hid (show signB s i = (sign0, -1) by rw [HS3.out]; exact if_pos q0)
        go_wp2_with fail
        exact bodyPost_ret (v := .tuple #[.agg #[.int .i64 0, .string ⟨#[]⟩, .int .i64 0, .int .i64 0], .int .i64 (-1)]) (by simp only [results, Tryz.results131]; go_simp) rfl ⟨by rw [HF.out]; rfl, HBr.out.trans (Aside.below (S := fun b => b = w.heap.size) (a := wr) asd HBr.out.size (fun i hi => by omega))⟩
       ·have HF := hid (show signB s i = (⟨K, ⟨#[]⟩, 0, i⟩, E) by rw [HS3.out]; exact if_neg q0)
        have q1 : decide (E < 0) = false := decide_eq_false q0
        have q2 : 0 <= E := by omega
        clear q0
        go_wp2_with fail
        exact bodyPost_ret (v := .tuple #[.agg #[.int .i64 K, .string ⟨#[]⟩, .int .i64 0, .int .i64 i], .int .i64 E]) (by simp only [results, Tryz.results131]; go_simp) rfl ⟨by rw [HF.out]; rfl, HBr.out.trans (Aside.below (S := fun b => b = w.heap.size) (a := wr) asd HBr.out.size (fun i hi => by omega))⟩
  ·have HF := hid (show signB s i = (⟨m, ⟨#[]⟩, 0, i⟩, (i : Int) + 1) by have h9 := sign_mark hii (by rw [HBy.out, <- HM.out]; exact c0); rw [HBy.out, <- HM.out] at h9; exact h9)
   have hm1 : 0 <= m - 1 := by omega
   have hm2 : 1 + (m - 1) = m := by omega
   clear c0
   go_enter Tryz.func131, Tryz.ntmps131
   go_wp2_with (go_at_call 130; refine (c_IndexMark b hb2 _).mono ?_; rintro e w9 ⟨rfl, rfl⟩; rw [<- HM.out])
   exact bodyPost_ret (v := .tuple #[.agg #[.int .i64 m, .string ⟨#[]⟩, .int .i64 0, .int .i64 i], .int .i64 ((i : Int) + 1)]) (by simp only [results, Tryz.results131]; go_simp) rfl ⟨by rw [HF.out]; rfl, bel⟩
 ·have HQ := hid (show signB s i = (sign0, -1) by unfold signB; rw [if_neg (by omega)])
  have hz0 : (0 : Int) <= i := by omega
  go_enter Tryz.func131, Tryz.ntmps131
  go_wp2_with fail
  exact bodyPost_ret (v := .tuple #[.agg #[.int .i64 0, .string ⟨#[]⟩, .int .i64 0, .int .i64 0], .int .i64 (-1)]) (by simp only [results, Tryz.results131]; go_simp) rfl ⟨by rw [HQ.out]; rfl, bel⟩
open Go.RowKit
theorem signB_next (s : ByteArray) (i : Nat) : (signB s i).2 < 0 ∨ ((i : Int) < (signB s i).2 /\ (signB s i).2 <= s.size) := by
 unfold signB
 by_cases h : i < s.size
 ·rw [if_pos h]
  by_cases c1 : markI (byteI s i) ≠ 0
  ·rw [if_pos c1]; right; simp; omega
  ·rw [if_neg c1]
   by_cases c2 : byteI s i = 34
   ·rw [if_pos c2]
    have := quotB_next s i
    by_cases c3 : (quotB s i).2 < 0
    ·rw [if_pos c3]; left; decide
    ·rw [if_neg c3]; right; simp; omega
   ·rw [if_neg c2]
    by_cases c4 : byteI s i = 45 ∨ figI (byteI s i) = true
    ·rw [if_pos c4]
     have := (wholeB_next s i).1
     by_cases c3 : (wholeB s i).2 < 0
     ·rw [if_pos c3]; left; decide
     ·rw [if_neg c3]; right; simp; omega
    ·rw [if_neg c4]
     by_cases c5 : wordB s i wT = true
     ·rw [if_pos c5]
      have := word_fits (by decide) c5
      simp [wT] at this
      right; simp; omega
     ·rw [if_neg c5]
      by_cases c6 : wordB s i wF = true
      ·rw [if_pos c6]
       have := word_fits (by decide) c6
       simp [wF] at this
       right; simp; omega
      ·rw [if_neg c6]
       by_cases c7 : wordB s i wN = true
       ·rw [if_pos c7]
        have := word_fits (by decide) c7
        simp [wN] at this
        right; simp; omega
       ·rw [if_neg c7]; left; decide
 ·rw [if_neg h]; left; decide
def blankI (x : Int) : Bool := decide (x = 32 ∨ x = 9 ∨ x = 10 ∨ x = 13)
def signsR (s : ByteArray) : Nat -> Nat -> List SignD -> List SignD × Flt
 | 0, _, acc => (acc, flt0)
 | k + 1, i, acc => if i < s.size then (if blankI (byteI s i) = true then signsR s k (i + 1) acc else if (signB s i).2 < 0 then ([], ⟨3, i, ⟨#[]⟩⟩) else signsR s k (signB s i).2.toNat (acc ++ [(signB s i).1])) else (acc, flt0)
theorem signsR_fuel (s : ByteArray) : ∀ (k l j : Nat) (acc : List SignD), s.size - j <= k -> s.size - j <= l -> signsR s k j acc = signsR s l j acc
 | 0, 0, _, _, _, _ => rfl
 | 0, l + 1, j, acc, h, _ => by unfold signsR; rw [if_neg (by omega)]
 | k + 1, 0, j, acc, _, h => by unfold signsR; rw [if_neg (by omega)]
 | k + 1, l + 1, j, acc, h1, h2 => by
  unfold signsR
  split
  ·split
   ·exact signsR_fuel s k l _ _ (by omega) (by omega)
   ·split
    ·rfl
    ·have := signB_next s j
     exact signsR_fuel s k l _ _ (by omega) (by omega)
  ·rfl
def signsG (s : ByteArray) (j : Nat) (acc : List SignD) : List SignD × Flt := signsR s (s.size - j) j acc
theorem signsG_end {s : ByteArray} {j : Nat} {acc : List SignD} (h : ¬ j < s.size) : signsG s j acc = (acc, flt0) := by
 unfold signsG
 rw [show s.size - j = 0 by omega]
 rfl
theorem signsG_blank {s : ByteArray} {j : Nat} {acc : List SignD} (h : j < s.size) (hb : blankI (byteI s j) = true) : signsG s j acc = signsG s (j + 1) acc := by
 unfold signsG
 obtain ⟨k, hk⟩ : ∃ k, s.size - j = k + 1 := ⟨s.size - j - 1, by omega⟩
 rw [hk, signsR, if_pos h, if_pos hb]
 exact signsR_fuel s _ _ _ _ (by omega) (by omega)
theorem signsG_bad {s : ByteArray} {j : Nat} {acc : List SignD} (h : j < s.size) (hb : ¬ blankI (byteI s j) = true) (hn : (signB s j).2 < 0) : signsG s j acc = ([], ⟨3, j, ⟨#[]⟩⟩) := by
 unfold signsG
 obtain ⟨k, hk⟩ : ∃ k, s.size - j = k + 1 := ⟨s.size - j - 1, by omega⟩
 rw [hk, signsR, if_pos h, if_neg hb, if_pos hn]
theorem signsG_sign {s : ByteArray} {j : Nat} {acc : List SignD} (h : j < s.size) (hb : ¬ blankI (byteI s j) = true) (hn : ¬ (signB s j).2 < 0) : signsG s j acc = signsG s (signB s j).2.toNat (acc ++ [(signB s j).1]) := by
 unfold signsG
 obtain ⟨k, hk⟩ : ∃ k, s.size - j = k + 1 := ⟨s.size - j - 1, by omega⟩
 rw [hk, signsR, if_pos h, if_neg hb, if_neg hn]
 have := signB_next s j
 exact signsR_fuel s _ _ _ _ (by omega) (by omega)
def signsF (s : ByteArray) : List SignD × Flt := if (textF s).code = 0 then signsG s 0 [] else ([], textF s)
def encSg (x : SignD) : List Value := [.int .i64 x.kind, .string x.text, .int .i64 x.num, .int .i64 x.at']
theorem encSg_len (x : SignD) : (encSg x).length = 4 := rfl
abbrev SignsE (base : Nat) (w : World) (l : List SignD) (v : Value) : Prop := RowE encSg 4 92 base w l v
def blnkI (b : Nat) : Int := if b = 32 then 0 else if b = 9 then 1 else if b = 10 then 2 else if b = 13 then 3 else -1
theorem idx_blank : ∀ i : Fin 256, Lib.indexByte [32, 9, 10, 13] (UInt8.ofNat i.val) = blnkI i.val := by decide
theorem c_IndexBlank (b : Nat) (hb : b < 256) (w : World) : Calls Tryz.prog 130 #[.string { data := #[32, 9, 10, 13] }, .int .u8 b] w fun e w' => e = .returned (.int .i64 (blnkI b)) /\ w = w' := by
 have h := c_strings_IndexByte { data := #[32, 9, 10, 13] } (UInt8.ofNat b) w
 have e1 : (UInt8.ofNat b).toNat = b := by rw [UInt8.toNat_ofNat']; exact Nat.mod_eq_of_lt hb
 rw [e1] at h
 exact h.mono (fun _ _ h => ⟨h.1.trans (congrArg (fun z => Ending.returned (Value.int .i64 z)) (idx_blank ⟨b, hb⟩)), h.2⟩)
theorem blnk_ge (b : Nat) : 0 <= blnkI b ↔ blankI (b : Int) = true := by
 unfold blnkI blankI
 rw [decide_eq_true_iff]
 repeat' split
 all_goals omega
theorem encSg_one (d : SignD) : ∀ v ∈ encSg d, v.oneCell' = true := by intro u hu; simp [encSg] at hu; rcases hu with rfl | rfl | rfl | rfl <;> rfl
def C_Sg (d : SignD) (cs : List Value) : Prop := cs = encSg d
theorem encSg_C (d : SignD) (es : List Value) (h : C_Sg d es) : es = encSg d := h
theorem sl_oneG {D : Type} {C : D -> List Value -> Prop} {enc : D -> List Value} {sz : Nat} (hk : ∀ d, (enc d).length = sz) (w : World) (d : D) (hC : C d (enc d)) (ty : TypeId) (cs : Array Value) (hc : cs = (enc d).toArray) {B : Nat} (hB : B = w.heap.size) :
  SlOf C sz w.heap.size (w.alloc (.cells cs ty)).heap.size (w.alloc (.cells cs ty)) [d] (.slice (some ⟨B, 0, none⟩) 1 1) := by
 subst hB
 exact sl_one hk w d hC ty cs hc
theorem wpList_append_rows {P : Program} {D : Type} {enc : D -> List Value} {C : D -> List Value -> Prop} {w : World} {ops : Array Oper} {rest : List Oper} {o : Oper} {a : Act} {Q : Exit -> Act -> World -> Prop} (hgd : o.guard = none) (s x : Operand) (t : TypeId)
  (ho : o.op = .call { callee := .builtin .append, args := #[s, x], argTypes := #[t, t] }) (base : Nat) (e : TypeId) (i : TypeInfo) (z : Value) (sz bytes : Nat) (ht : P.underlying t = some (.slice e)) (hi : P.info? e = some i) (hz : i.zero = some z)
  (hsize : i.size = sz) (hby : i.bytes = bytes) (hzs : z.cells.size = sz) (hsz : 0 < sz) (hk : ∀ d, (enc d).length = sz) (h1 : ∀ d, ∀ v ∈ enc d, v.oneCell' = true) (hC : ∀ d es, C d es -> es = enc d) (v : Value) (n : Nat) (xs : List D) (hs : a.eval s = v) (hn : xs.length = n) (hown : RowE enc sz e base w xs v)
  (l : List D) (A : Option Addr) (m c lo hi' : Nat) (hx : a.eval x = .slice A m c) (hm : l.length = m) (hl : SlOf C sz lo hi' w l (.slice A m c)) (h63 : n + m <= maxLen) (hbytes : (n + m) * bytes <= 140737488355328) (hbase : base <= w.heap.size)
  (h : ∀ v' w', RowE enc sz e base w' (xs ++ l) v' -> w.grownBy w' v.ownBlock -> (v'.ownBlock = v.ownBlock ∨ v'.ownBlock = some w.heap.size) -> wpList P ops Q rest (a.put o.dst v') w') :
  wpList P ops Q (o :: rest) a w := by
 obtain ⟨v', w', hr, h2, h3, h4⟩ := run_append_rows (P := P) (enc := enc) (C := C) w t o.type base e i z sz bytes ht hi hz hsize hby hzs hsz hk h1 hC v n xs hn hown l A m c lo hi' hm hl h63 hbytes hbase
 exact wpList_append_of hgd s x t ho v _ v' w' hs hx hr (h v' w' h2 h3 h4)
theorem textF_zero {s : ByteArray} (h : (textF s).code = 0) : s.size <= 20000 := by
 unfold textF at h
 split at h
 ·cases h
 ·omega
theorem c_impl_SignsOf (s : ByteArray) (w : World) (hs : s.size <= 1048576) (hV : CTab w) (hT : Tabs w) (hE : ErrR w) :
  Calls Tryz.prog 72 #[.string s] w fun e w' => ∃ (A : Option Addr) (c : Nat), e = .returned (.tuple #[.slice A (signsF s).1.length c, .agg (fltC (signsF s).2)]) /\ SignsE w.heap.size w' (signsF s).1 (.slice A (signsF s).1.length c) /\ Below w.heap.size w w' := by
 obtain ⟨i0, hi, hz0, hz1, hz2⟩ := info_parts (show (Tryz.prog.info? 92).map (fun i => (i.zero, i.size, i.bytes)) = some (some (.agg #[.int .i64 0, .string ⟨#[]⟩, .int .i64 0, .int .i64 0]), 4, 40) from by kernel_rfl)
 have HVT := hid (And.intro hV (And.intro hT hE))
 clear hV hT hE
 obtain ⟨f, hf⟩ : ∃ f, f = textF s := ⟨_, rfl⟩
 obtain ⟨fc, fa, fp⟩ := f
 have HTf := hid hf
 clear hf
 by_cases hc : fc = 0
 ·obtain rfl := hc
  have hl2 : s.size <= 20000 := textF_zero (by rw [<- HTf.out])
  have HF := hid (show signsF s = signsG s 0 [] by unfold signsF; rw [if_pos (by rw [<- HTf.out])])
  go_enter Tryz.func72, Tryz.ntmps72
  go_wp2_with fail
  refine (c_impl_textFault s _ hs (HVT.out.2.1.below bel)).mono ?_
  rintro e w1 ⟨rfl, hb⟩
  rw [<- HTf.out]
  simp only [fltC]
  have hbox : w1.heap[w.heap.size]? = some (.cells #[.int .i64 0, .int .i64 0, .string ⟨#[]⟩] 23 (0, 0)) := (hb.block w.heap.size (by simp)).trans (heap_at (by simp))
  have l1 := row_lt hbox
  have HBox1 := hid hbox
  have hB1 : Below w.heap.size w w1 := bel
  clear hbox
  go_wp2_with fail
  go_loopw [5, 6] (fun s5 s6 wr => ∃ (i n : Nat) (L : List SignD) (A : Option Addr) (c : Nat), i <= s.size /\ s6 = .int .i64 i /\ n = L.length /\ s5 = .slice A n c /\ n <= i /\ signsF s = signsG s i L /\ SignsE (w.heap.size + 1) wr L (.slice A n c) /\ wr.heap[w.heap.size]? = some (.cells #[.int .i64 0, .int .i64 0, .string ⟨#[]⟩] 23 (0, 0)) /\ Below w.heap.size w wr) (fun _ s6 _ => s.size - (Lib.intOf s6).toNat)
  case atStart => exact ⟨0, 0, [], _, _, by omega, rfl, rfl, rfl, by omega, HF.out, own_empty (by simp) (by simp; omega), ((bel : Below w1.heap.size w1 _).block w.heap.size l1).trans HBox1.out, bel⟩
  case round =>
   obtain ⟨i, n, L, A, c, hil, rfl, hn, rfl, hni, hq, hR, hbox, hbr⟩ := hrel
   have HR := hid hR
   have HG := hid hq
   have HBox := hid hbox
   have HBr := hid hbr
   have HN := hid hn
   have lb := row_lt hbox
   clear hR hq hbox hn
   by_cases hlt : (i : Int) < s.size
   ·have hii : i < s.size := by omega
    have h1 : decide ((s.size : Int) <= i) = false := decide_eq_false (by omega)
    have h2 : decide (s.size <= i) = false := decide_eq_false (by omega)
    have h3 : decide ((i : Int) < 0) = false := decide_eq_false (by omega)
    have hzi : (0 : Int) <= i := by omega
    obtain ⟨b, hb⟩ : ∃ b : Nat, b = (s.get! i).toNat := ⟨_, rfl⟩
    have hx : (s[i]'hii).toNat = b := by rw [hb]; exact get_byte s i hii
    have hby : byteI s i = b := by unfold byteI; rw [hb]
    have hb2 : b < 256 := by have := (s.get! i).toNat_lt; omega
    obtain ⟨z, hz⟩ : ∃ z, z = blnkI b := ⟨_, rfl⟩
    have hbl := blnk_ge b
    rw [<- hz, <- hby] at hbl
    have HZ := hid hz
    have HBl := hid hbl
    clear hb hby hz hbl
    by_cases z0 : 0 <= z
    ·have HE := hid (show signsF s = signsG s (i + 1) L by rw [HG.out, signsG_blank hii (HBl.out.1 z0)])
     go_wp2_with (go_at_call 130; refine (c_IndexBlank b hb2 _).mono ?_; rintro e w9 ⟨rfl, rfl⟩; rw [<- HZ.out])
     go_roundw
     case rel => exact ⟨i + 1, n, L, A, c, by omega, by go_num, HN.out, rfl, by omega, HE.out, HR.out, HBox.out, HBr.out⟩
     case measure => simp [Lib.intOf]; omega
    ·have z1 : decide (0 <= z) = false := decide_eq_false z0
     have hnb : ¬ blankI (byteI s i) = true := fun e => z0 (HBl.out.2 e)
     obtain ⟨x, hxx⟩ : ∃ x, x = (signB s i).1 := ⟨_, rfl⟩
     obtain ⟨q, hqq⟩ : ∃ q, q = (signB s i).2 := ⟨_, rfl⟩
     have hqn := signB_next s i
     rw [<- hqq] at hqn
     obtain ⟨xk, xt, xn, xp⟩ := x
     have HXQ := hid (And.intro hxx hqq)
     by_cases q0 : q < 0
     ·have HE := hid (show signsF s = ([], ⟨3, i, ⟨#[]⟩⟩) by rw [HG.out, signsG_bad hii hnb (by rw [<- hqq]; exact q0)])
      clear hxx hqq hqn hnb z0
      go_wp2_with (go_at_call 130; refine (c_IndexBlank b hb2 _).mono ?_; rintro e w9 ⟨rfl, rfl⟩; rw [<- HZ.out])
      refine (c_impl_SignAt s i _ hs (by omega) (HVT.out.1.below HBr.out) (HVT.out.2.1.below HBr.out) (HVT.out.2.2.below HBr.out)).mono ?_
      rintro e w2 ⟨rfl, hb2'⟩
      rw [<- HXQ.out.1, <- HXQ.out.2]
      simp only [signC]
      have B2 : Below w.heap.size w w2 := HBr.out.trans (hb2'.mono HBr.out.size)
      have hbox2 := (hb2'.block _ lb).trans HBox.out
      obtain ⟨a0, a1, a2, af⟩ := row3 hbox2
      have l2 := row_lt hbox2
      clear hbox2
      go_wp2_with fail
      exact bodyPost_ret (v := .tuple #[.slice none 0 0, .agg #[.int .i64 3, .int .i64 i, .string ⟨#[]⟩]]) (by simp only [results, Tryz.results72]; go_simp) rfl ⟨none, 0, by rw [HE.out]; rfl, by rw [HE.out]; exact World.ownsRow_nil _ _ _ _, bel⟩
     ·have HE := hid (show signsF s = signsG s q.toNat (L ++ [⟨xk, xt, xn, xp⟩]) by rw [HG.out, signsG_sign hii hnb (by rw [<- hqq]; exact q0), hxx, hqq])
      obtain ⟨p, rfl⟩ : ∃ p : Nat, q = p := ⟨q.toNat, by omega⟩
      have d0 : decide ((p : Int) < 0) = false := decide_eq_false q0
      have hip : i < p := by omega
      have hps : p <= s.size := by omega
      rw [Int.toNat_natCast] at HE
      clear hxx hqq hqn hnb z0 q0
      go_wp2_with (go_at_call 130; refine (c_IndexBlank b hb2 _).mono ?_; rintro e w9 ⟨rfl, rfl⟩; rw [<- HZ.out])
      refine (c_impl_SignAt s i _ hs (by omega) (HVT.out.1.below HBr.out) (HVT.out.2.1.below HBr.out) (HVT.out.2.2.below HBr.out)).mono ?_
      rintro e w2 ⟨rfl, hb2'⟩
      rw [<- HXQ.out.1, <- HXQ.out.2]
      simp only [signC]
      have B2 : Below w.heap.size w w2 := HBr.out.trans (hb2'.mono HBr.out.size)
      have l2 : w.heap.size < w2.heap.size := Nat.lt_of_lt_of_le lb hb2'.size
      have hR2 := HR.out.below hb2'
      have HR2 := hid hR2
      clear hR2
      go_wp2_with (at_builtin; go_loud (refine wpList_append_rows (C := C_Sg) rfl (.tmp 37) (.tmp 39) 80 rfl (w.heap.size + 1) 92 i0 (.agg #[.int .i64 0, .string ⟨#[]⟩, .int .i64 0, .int .i64 0]) 4 40 Tryz.underlying80 hi hz0 hz1 hz2 rfl (by decide) encSg_len encSg_one encSg_C _ n L rfl HN.out.symm (HR2.out.below bel) [⟨xk, xt, xn, xp⟩] (some ⟨_, 0, none⟩) 1 1 _ _ rfl rfl (sl_oneG encSg_len _ _ rfl 92 _ rfl (by simp)) (by unfold maxLen; omega) (by omega) (by simp; omega) ?_))
      intro v' w3 hR3 hg3 ha3
      obtain ⟨A3, c3, rfl⟩ := hR3.form
      have hb3 : Below (w.heap.size + 1) w2 w3 := Below.grown ((bel : Below w2.heap.size w2 _).mono l2) hg3 (by simp; omega) (fun q hq => (World.ownsRow.lt HR2.out q hq).1)
      have Hb3 := hid hb3
      have HR3 := hid hR3
      have hln : (L ++ [(⟨xk, xt, xn, xp⟩ : SignD)]).length = n + 1 := by rw [List.length_append, <- HN.out]; rfl
      have HL := hid hln
      clear hR3 hg3 ha3 hb3 hln
      go_wp2_with fail
      go_roundw
      case rel => exact ⟨p, n + 1, L ++ [⟨xk, xt, xn, xp⟩], A3, c3, hps, rfl, HL.out.symm, by rw [HL.out], by omega, HE.out, by rw [<- HL.out]; exact HR3.out, ((Hb3.out.block w.heap.size (by omega)).trans (hb2'.block _ lb)).trans HBox.out, B2.trans (Hb3.out.mono (by omega))⟩
      case measure => simp [Lib.intOf]; omega
   ·have HE := hid (show signsF s = (L, flt0) by rw [HG.out, signsG_end (by omega)])
    obtain ⟨a0, a1, a2, af⟩ := row3 HBox.out
    go_wp2_with fail
    exact bodyPost_ret (v := .tuple #[.slice A n c, .agg #[.int .i64 0, .int .i64 0, .string ⟨#[]⟩]]) (by simp only [results, Tryz.results72]; go_simp) rfl ⟨A, c, by rw [HE.out, HN.out]; rfl, by
     rw [HE.out]
     show SignsE _ _ L (.slice A L.length c)
     rw [<- HN.out]
     exact (HR.out.less (Nat.le_succ _)).carry (fun q hq => Aside.block (S := fun b => b = w.heap.size) (w := wr) asd q (World.ownsRow.lt HR.out q hq).2 (by have := (World.ownsRow.lt HR.out q hq).1; omega)), bel⟩
 ·have d1 : (fc == 0) = false := beq_eq_false_iff_ne.2 hc
  have d2 : (fc != 0) = true := bne_iff_ne.2 hc
  have HF := hid (show signsF s = ([], ⟨fc, fa, fp⟩) by unfold signsF; rw [if_neg (by rw [<- HTf.out]; exact hc), HTf.out])
  clear hc
  go_enter Tryz.func72, Tryz.ntmps72
  go_wp2_with fail
  refine (c_impl_textFault s _ hs (HVT.out.2.1.below bel)).mono ?_
  rintro e w1 ⟨rfl, hb⟩
  rw [<- HTf.out]
  simp only [fltC]
  have hbox : w1.heap[w.heap.size]? = some (.cells #[.int .i64 0, .int .i64 0, .string ⟨#[]⟩] 23 (0, 0)) := (hb.block w.heap.size (by simp)).trans (heap_at (by simp))
  have l1 := row_lt hbox
  have hB1 : Below w.heap.size w w1 := bel
  obtain ⟨a0, a1, a2, af⟩ := row3 hbox
  clear hbox
  go_wp2_with fail
  go_region_law (fail)
  all_goals
   (try go_wp2_with fail)
   exact bodyPost_ret (v := .tuple #[.slice none 0 0, .agg #[.int .i64 fc, .int .i64 fa, .string fp]]) (by simp only [results, Tryz.results72]; go_simp) rfl ⟨none, 0, by rw [HF.out]; rfl, by rw [HF.out]; exact World.ownsRow_nil _ _ _ _, bel⟩
end Go.Proofs.YtohcpifekcehjaaGreatDoor
