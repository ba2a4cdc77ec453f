/- Steps to FnIndentedNormal. No conditions. -/
import Derived.Shelf.Lays
import Derived.Shelf.Strings.Trim
import Derived.Test.YtohcpifekcehjaaGreatDoorKfni1
import Derived.Test.YtohcpifekcehjaaGreatDoorKfni4
import Derived.Test.YtohcpifekcehjaaGreatDoorKfni5
import Derived.Test.YtohcpifekcehjaaGreatDoorKfni2
import Derived.Sort.Statements
import Derived.RowKit
import Derived.Deep.Cut
import Derived.Deep.CutRange
import Derived.Deep.RegionLaw
import Derived.Shelf.LaysC
import Derived.Shelf.Strconv.AtoiAll
import Derived.Test.YtohcpifekcehjaaGreatDoorKfni3
import Derived.Deep.CutBlock
import Derived.Shelf.Strings.Prefix
import Derived.Laws.BitsLemmas
set_option maxHeartbeats 16000000
set_option maxRecDepth 20000
namespace Go.Proofs.YtohcpifekcehjaaGreatDoor
open Go.Shelf
def Jcw : Go.Shelf.Ren := ⟨fun | 161 => 175 | 231 => 230 | 227 => 227 | 233 => 231 | 235 => 232 | 228 => 258 | 197 => 224 | 151 => 260 | 260 => 257 | 152 => 279 | 137 => 130 | 119 => 292 | 224 => 234 | 225 => 233 | 217 => 208 | 266 => 249 | n => n, fun | 9 => 9 | 4 => 4 | 3 => 3 | 5 => 5 | 117 => 186 | 116 => 185 | 0 => 0 | 124 => 189 | 105 => 180 | 21 => 21 | 119 => 219 | 46 => 179 | 139 => 222 | 138 => 221 | n => n, fun | 3 => 1 | 4 => 2 | n => n⟩
theorem JiT : Go.Proofs.Lays.n161 Tryz.prog Jcw := {
 mixed := by kernel_rfl
 f119 := Tryz.func292.trans (congrArg some (by kernel_rfl))
 f137 := Tryz.func130.trans (congrArg some (by kernel_rfl))
 f151 := Tryz.func260.trans (congrArg some (by kernel_rfl))
 f152 := Tryz.func279.trans (congrArg some (by kernel_rfl))
 f161 := Tryz.func175.trans (congrArg some (by kernel_rfl))
 f197 := Tryz.func224.trans (congrArg some (by kernel_rfl))
 f217 := Tryz.func208.trans (congrArg some (by kernel_rfl))
 f224 := Tryz.func234.trans (congrArg some (by kernel_rfl))
 f225 := Tryz.func233.trans (congrArg some (by kernel_rfl))
 f227 := Tryz.func227.trans (congrArg some (by kernel_rfl))
 f228 := Tryz.func258.trans (congrArg some (by kernel_rfl))
 f231 := Tryz.func230.trans (congrArg some (by kernel_rfl))
 f233 := Tryz.func231.trans (congrArg some (by kernel_rfl))
 f235 := Tryz.func232.trans (congrArg some (by kernel_rfl))
 f260 := Tryz.func257.trans (congrArg some (by kernel_rfl))
 f266 := Tryz.func249.trans (congrArg some (by kernel_rfl))
 t0 := Tryz.underlying0
 a0 := Tryz.isAgg0
 z0 := Tryz.sizeOf0
 v0 := Tryz.zeroValue0
 t3 := Tryz.underlying3
 a3 := Tryz.isAgg3
 z3 := Tryz.sizeOf3
 v3 := Tryz.zeroValue3
 t4 := Tryz.underlying4
 a4 := Tryz.isAgg4
 z4 := Tryz.sizeOf4
 v4 := Tryz.zeroValue4
 t5 := Tryz.underlying5
 a5 := Tryz.isAgg5
 z5 := Tryz.sizeOf5
 v5 := Tryz.zeroValue5
 t9 := Tryz.underlying9
 a9 := Tryz.isAgg9
 z9 := Tryz.sizeOf9
 v9 := Tryz.zeroValue9
 t21 := Tryz.underlying21
 a21 := Tryz.isAgg21
 z21 := Tryz.sizeOf21
 v21 := Tryz.zeroValue21
 t46 := Tryz.underlying179
 a46 := Tryz.isAgg179
 z46 := Tryz.sizeOf179
 v46 := Tryz.zeroValue179
 t105 := Tryz.underlying180
 a105 := Tryz.isAgg180
 z105 := Tryz.sizeOf180
 v105 := Tryz.zeroValue180
 t116 := Tryz.underlying185
 a116 := Tryz.isAgg185
 z116 := Tryz.sizeOf185
 t117 := Tryz.underlying186
 a117 := Tryz.isAgg186
 z117 := Tryz.sizeOf186
 v117 := Tryz.zeroValue186
 t119 := Tryz.underlying219
 a119 := Tryz.isAgg219
 z119 := Tryz.sizeOf219
 t124 := Tryz.underlying189
 a124 := Tryz.isAgg189
 z124 := Tryz.sizeOf189
 v124 := Tryz.zeroValue189
 t138 := Tryz.underlying221
 a138 := Tryz.isAgg221
 z138 := Tryz.sizeOf221
 v138 := Tryz.zeroValue221
 t139 := Tryz.underlying222
 a139 := Tryz.isAgg222
 z139 := Tryz.sizeOf222
 v139 := Tryz.zeroValue222
 g3 := by kernel_rfl
 g4 := by kernel_rfl }
def JcA : Go.Shelf.Ren := ⟨fun | 162 => 174 | 232 => 226 | 227 => 227 | 234 => 228 | 236 => 229 | 228 => 258 | 271 => 259 | 151 => 260 | 120 => 278 | 197 => 224 | 152 => 279 | 260 => 257 | 137 => 130 | 119 => 292 | 224 => 234 | 225 => 233 | 217 => 208 | 266 => 249 | n => n, fun | 9 => 9 | 4 => 4 | 3 => 3 | 5 => 5 | 117 => 186 | 116 => 185 | 0 => 0 | 124 => 189 | 21 => 21 | 105 => 180 | 46 => 179 | 119 => 219 | 139 => 222 | 138 => 221 | n => n, fun | 3 => 1 | 4 => 2 | n => n⟩
theorem Jh6 : Go.Proofs.Lays.n162 Tryz.prog JcA := {
 mixed := by kernel_rfl
 f119 := Tryz.func292.trans (congrArg some (by kernel_rfl))
 f120 := Tryz.func278.trans (congrArg some (by kernel_rfl))
 f137 := Tryz.func130.trans (congrArg some (by kernel_rfl))
 f151 := Tryz.func260.trans (congrArg some (by kernel_rfl))
 f152 := Tryz.func279.trans (congrArg some (by kernel_rfl))
 f162 := Tryz.func174.trans (congrArg some (by kernel_rfl))
 f197 := Tryz.func224.trans (congrArg some (by kernel_rfl))
 f217 := Tryz.func208.trans (congrArg some (by kernel_rfl))
 f224 := Tryz.func234.trans (congrArg some (by kernel_rfl))
 f225 := Tryz.func233.trans (congrArg some (by kernel_rfl))
 f227 := Tryz.func227.trans (congrArg some (by kernel_rfl))
 f228 := Tryz.func258.trans (congrArg some (by kernel_rfl))
 f232 := Tryz.func226.trans (congrArg some (by kernel_rfl))
 f234 := Tryz.func228.trans (congrArg some (by kernel_rfl))
 f236 := Tryz.func229.trans (congrArg some (by kernel_rfl))
 f260 := Tryz.func257.trans (congrArg some (by kernel_rfl))
 f266 := Tryz.func249.trans (congrArg some (by kernel_rfl))
 f271 := Tryz.func259.trans (congrArg some (by kernel_rfl))
 t0 := Tryz.underlying0
 a0 := Tryz.isAgg0
 z0 := Tryz.sizeOf0
 v0 := Tryz.zeroValue0
 t3 := Tryz.underlying3
 a3 := Tryz.isAgg3
 z3 := Tryz.sizeOf3
 v3 := Tryz.zeroValue3
 t4 := Tryz.underlying4
 a4 := Tryz.isAgg4
 z4 := Tryz.sizeOf4
 v4 := Tryz.zeroValue4
 t5 := Tryz.underlying5
 a5 := Tryz.isAgg5
 z5 := Tryz.sizeOf5
 v5 := Tryz.zeroValue5
 t9 := Tryz.underlying9
 a9 := Tryz.isAgg9
 z9 := Tryz.sizeOf9
 v9 := Tryz.zeroValue9
 t21 := Tryz.underlying21
 a21 := Tryz.isAgg21
 z21 := Tryz.sizeOf21
 v21 := Tryz.zeroValue21
 t46 := Tryz.underlying179
 a46 := Tryz.isAgg179
 z46 := Tryz.sizeOf179
 v46 := Tryz.zeroValue179
 t105 := Tryz.underlying180
 a105 := Tryz.isAgg180
 z105 := Tryz.sizeOf180
 v105 := Tryz.zeroValue180
 t116 := Tryz.underlying185
 a116 := Tryz.isAgg185
 z116 := Tryz.sizeOf185
 t117 := Tryz.underlying186
 a117 := Tryz.isAgg186
 z117 := Tryz.sizeOf186
 v117 := Tryz.zeroValue186
 t119 := Tryz.underlying219
 a119 := Tryz.isAgg219
 z119 := Tryz.sizeOf219
 t124 := Tryz.underlying189
 a124 := Tryz.isAgg189
 z124 := Tryz.sizeOf189
 v124 := Tryz.zeroValue189
 t138 := Tryz.underlying221
 a138 := Tryz.isAgg221
 z138 := Tryz.sizeOf221
 v138 := Tryz.zeroValue221
 t139 := Tryz.underlying222
 a139 := Tryz.isAgg222
 z139 := Tryz.sizeOf222
 v139 := Tryz.zeroValue222
 g3 := by kernel_rfl
 g4 := by kernel_rfl }
open Go.RowKit Go.Lib
def Jex (s : ByteArray) : Int := match readI s with | some u => (u : Int) | none => 0
def Jcg (s : ByteArray) : Bool := (readI s).isSome
theorem YI {s : ByteArray} (h : readI s = none) : Jex s = 0 /\ Jcg s = false := by unfold Jex Jcg; rw [h]; exact ⟨rfl, rfl⟩
theorem JcO {s : ByteArray} {u : Nat} (h : readI s = some u) : Jex s = u /\ Jcg s = true := by unfold Jex Jcg; rw [h]; exact ⟨rfl, rfl⟩
theorem Jdx {s : ByteArray} {c : UInt8} (h : c ∈ s.data.toList) (hc : ¬ Yr c) : readI s = none := by
 rcases h1 : readI s with _ | u
 ·rfl
 exact absurd (Jgl h1 c h) hc
theorem JgS {s : ByteArray} (h : 19 < s.size) : readI s = none := by
 rcases h1 : readI s with _ | u
 ·rfl
 have := (JiH h1).1; omega
theorem Jib {s : ByteArray} {j : Nat} (h : 9223372036854775807 < QW 0 (s.data.toList.take j)) : readI s = none := by
 unfold readI;rw [if_neg];intro hc;have h1 := XA (s.data.toList.take j) (s.data.toList.drop j) 0;rw [List.take_append_drop] at h1;have h2 := Jd6 (s.data.toList.drop j) (QW 0 (s.data.toList.take j));omega
theorem JiN {s : ByteArray} (h : QW 0 s.data.toList <= 9223372036854775807) : readI s = if Qv (QW 0 s.data.toList : Int) = s then some (QW 0 s.data.toList) else none := by
 by_cases hd : Qv (QW 0 s.data.toList : Int) = s
 ·rw [if_pos hd]; exact Jfo h hd
 rw [if_neg hd];rcases h1 : readI s with _ | u
 ·rfl
 obtain ⟨_, h2, h3⟩ := WV h1;rw [h3, JaY] at hd;exact absurd h2 hd
theorem Jfu {s : ByteArray} {j : Nat} (h : j < s.size) : s.data.toList.take (j + 1) = s.data.toList.take j ++ [s.get! j] := by
 have h2 : j < s.data.toList.length := by rw [Array.length_toList]; exact h
 rw [List.take_add_one, List.getElem?_eq_getElem h2];congr 1
 rw [Array.getElem_toList];show [s.data[j]] = [s.data[j]!]
 rw [getElem!_pos s.data j h]
theorem Jhw {s : ByteArray} {j : Nat} (h : j < s.size) : s.get! j ∈ s.data.toList := by
 have := Jfu h;exact List.mem_of_mem_take (i := j + 1) (by rw [this]; simp)
theorem Jic {s : ByteArray} {j : Nat} (h : j < s.size) : QW 0 (s.data.toList.take (j + 1)) = QW 0 (s.data.toList.take j) * 10 + ((s.get! j).toNat - 48) := by
 rw [Jfu h, XA, V2, Yo]
theorem JA (s : ByteArray) (i : Nat) (h : i < s.size) : (s[i]'h).toNat = (s.get! i).toNat := by
 show _ = (s.data[i]!).toNat
 rw [getElem!_pos s.data i h];rfl
theorem Je4 {a b : ByteArray} (h : a = b) : (a.toList == b.toList) = true := by rw [h]; exact beq_self_eq_true _
theorem JhV {a b : ByteArray} (h : a ≠ b) : (a.toList == b.toList) = false := JmH (fun e => h (by
 rw [Lib.toList_data, Lib.toList_data] at e
 exact ByteArray.ext (Array.toList_inj.1 e)))
theorem Jbb (s : ByteArray) (w : World) (hs : s.size <= 1048576) :
  Calls Tryz.prog 127 #[.string s] w fun e w' => e = .returned (.tuple #[.int .i64 (Jex s), .bool (Jcg s)]) /\ Below w.heap.size w w' := by
 by_cases hl : (19 : Int) < s.size
 ·have Hf := hid (YI (JgS (s := s) (by omega)))
  go_enter Tryz.func127, Tryz.ntmps127
  go_wp2_with fail
  go_ret2
  exact ⟨by rw [Hf.out.1, Hf.out.2]; rfl, Below.refl _ _⟩
 have hl2 : decide ((19 : Int) < s.size) = false := JmF hl;have hs2 : s.size <= 19 := by omega
 clear hl hs;go_enter Tryz.func127, Tryz.ntmps127
 go_wp2_with fail
 go_loopw [4, 5] (fun s4 s5 wr => ∃ (j : Nat) (a : Int), j <= s.size /\ s5 = .int .i64 j /\ s4 = .int .i64 a /\ 0 <= a /\ a <= 9223372036854775807 /\ a = (QW 0 (s.data.toList.take j) : Int) /\ Below w.heap.size w wr) (fun _ s5 _ => s.size - (intOf s5).toNat)
 case atStart => exact ⟨0, 0, Nat.zero_le _, rfl, rfl, by omega, by omega, by rw [List.take_zero, Yo]; rfl, Jj⟩
 case round =>
  obtain ⟨j, a, hjl, rfl, rfl, ha0, ha1, hav, hbr⟩ := hrel;have HA := hid hav;have HBr := hid hbr;clear hav hbr;by_cases hlt : (j : Int) < s.size
  ·have hjj : j < s.size := by omega
   have hj0 : (0 : Int) <= j := by omega
   obtain ⟨b, hb⟩ : ∃ b : Nat, b = (s.get! j).toNat := ⟨_, rfl⟩
   have hx : (s[j]'hjj).toNat = b := by rw [hb]; exact JA s j hjj
   have HBy := hid hb;have hb2 : (b : Int) < 256 := by have := (s.get! j).toNat_lt; omega
   clear hb;by_cases e48 : (b : Int) < 48
   ·have Hf := hid (YI (Jdx (Jhw hjj) (show ¬ Yr (s.get! j) by unfold Yr; rw [<- HBy.out]; omega)))
    go_wp2_with fail
    go_ret2
    exact ⟨by rw [Hf.out.1, Hf.out.2]; rfl, HBr.out⟩
   have d48 : decide ((b : Int) < 48) = false := JmF e48;by_cases e57 : (57 : Int) < b
   ·have Hf := hid (YI (Jdx (Jhw hjj) (show ¬ Yr (s.get! j) by unfold Yr; rw [<- HBy.out]; omega)))
    clear e48;go_wp2_with fail
    go_ret2
    exact ⟨by rw [Hf.out.1, Hf.out.2]; rfl, HBr.out⟩
   have d57 : decide ((57 : Int) < b) = false := JmF e57;obtain ⟨x, hxx⟩ : ∃ x : Int, x = (b : Int) - 48 := ⟨_, rfl⟩
   have hx0 : 0 <= x := by omega
   have hx9 : x <= 9 := by omega
   have HX := hid hxx;have hxe : (b : Int) - 48 = x := hxx.symm
   have HV := hid (show (QW 0 (s.data.toList.take (j + 1)) : Int) = 10 * a + x by
    have h1 := Jic hjj;rw [h1, HA.out, hxx, HBy.out];have := HBy.out
    omega)
   clear e48 e57 hxx;by_cases hov : (9223372036854775807 - x) / 10 < a
   ·have Hf := hid (YI (Jib (s := s) (j := j + 1) (by have := HV.out; omega)))
    have hov1 : decide ((9223372036854775807 - x) / 10 < a) = true := JmG hov;have hq : (0 : Int) <= 9223372036854775807 - x := by omega
    clear hov;go_wp2_with fail
    go_ret2
    exact ⟨by rw [Hf.out.1, Hf.out.2]; rfl, HBr.out⟩
   have hov1 : decide ((9223372036854775807 - x) / 10 < a) = false := JmF hov;have hn1 : 10 * a + x <= 9223372036854775807 := by omega
   have hn0 : 0 <= 10 * a + x := by omega
   have hq : (0 : Int) <= 9223372036854775807 - x := by omega
   have hm : 10 * a <= 9223372036854775807 := by omega
   clear hov;go_wp2_with fail
   go_roundw
   case rel => exact ⟨j + 1, 10 * a + x, by omega, by go_num, rfl, hn0, hn1, HV.out.symm, HBr.out⟩
   case measure => simp [intOf]; omega
  have hjl2 : j = s.size := by omega
  have HAA := hid (show a = (QW 0 s.data.toList : Int) by
   rw [HA.out, List.take_of_length_le (by rw [Array.length_toList, hjl2]; exact Nat.le_refl _)])
  have HE := hid (JiN (s := s) (by have := HAA.out; omega));clear HA;by_cases hd : Qv a = s
  ·have Hf := hid (JcO (s := s) (u := QW 0 s.data.toList) (by rw [HE.out, <- HAA.out, if_pos hd]))
   have hdd := Je4 hd;have HD := hid hd;clear hd;go_wp2_with fail
   refine (YX a _ ⟨by omega, ha1⟩).mono ?_;rintro e w1 ⟨rfl, hb⟩;go_wp2_with fail
   go_ret2
   exact ⟨by rw [Hf.out.1, Hf.out.2, <- HAA.out]; rfl, HBr.out.trans (hb.mono HBr.out.size)⟩
  have Hf := hid (YI (s := s) (by rw [HE.out, <- HAA.out, if_neg hd]));have hdd := JhV hd;clear hd;go_wp2_with fail
  refine (YX a _ ⟨by omega, ha1⟩).mono ?_;rintro e w1 ⟨rfl, hb⟩;go_wp2_with fail
  go_ret2
  exact ⟨by rw [Hf.out.1, Hf.out.2]; rfl, HBr.out.trans (hb.mono HBr.out.size)⟩
theorem WI (s : ByteArray) (w : World) : Calls Tryz.prog 175 #[.string s, .string ⟨#[32]⟩] w fun e w' => e = .returned (.string (bs (trimLeftB s.data.toList 32))) /\ w = w' := by
 have h := Any.strings_TrimLeft_one JiT s 32 (by decide) w;change Calls Tryz.prog 175 _ _ _ at h
 exact h.mono (fun _ _ h => ⟨h.1, h.2.symm⟩)
theorem JeX (s : ByteArray) (w : World) (hs : s.size <= 9223372036854775807) : Calls Tryz.prog 174 #[.string s, .string ⟨#[32]⟩] w fun e w' => e = .returned (.string (bs (trimRightB s.data.toList 32))) /\ w = w' := by
 have h := Any.strings_TrimRight_one Jh6 s 32 (by decide) w hs;change Calls Tryz.prog 174 _ _ _ at h
 exact h.mono (fun _ _ h => ⟨h.1, h.2.symm⟩)
theorem ZG (l : List UInt8) (c : UInt8) : (trimLeftB l c).length <= l.length := (List.dropWhile_sublist _).length_le
theorem Jij (l : List UInt8) (c : UInt8) : (trimRightB l c).length <= l.length := by unfold trimRightB; rw [List.length_reverse]; exact Nat.le_trans (List.dropWhile_sublist _).length_le (Nat.le_of_eq List.length_reverse)
theorem Jp (s : ByteArray) : s.data.toList.length = s.size := Array.length_toList
theorem J7 {s : ByteArray} {i : Nat} (h : i < s.size) : s.data.toList[i]? = some (s.get! i) := by
 have h2 : i < s.data.toList.length := by rw [Jp]; exact h
 rw [List.getElem?_eq_getElem h2, Array.getElem_toList];congr 1
 exact (getElem!_pos s.data i h).symm
theorem Jhq {s : ByteArray} {k : Nat} (hk : k <= s.size) (h1 : ∀ j, j < k -> Jb s j = 32) (h2 : k < s.size -> Jb s k ≠ 32) : trimLeftB s.data.toList 32 = s.data.toList.drop k /\ Vh s.data.toList = k := by
 have e : trimLeftB s.data.toList 32 = s.data.toList.drop k := by
  refine trimLeftB_drop _ _ k (by rw [Jp]; exact hk) (fun j b hj hb => ?_) (fun b hb => ?_)
  ·rw [J7 (by omega)] at hb
   cases hb
   have := h1 j hj;unfold Jb at this;exact UInt8.toNat_inj.1 (by have e : (32 : UInt8).toNat = 32 := rfl; omega)
  have hlt : k < s.size := by
   rcases Nat.lt_or_ge k s.size with h | h
   ·exact h
   rw [List.getElem?_eq_none (by rw [Jp]; exact h)] at hb; cases hb
  rw [J7 hlt] at hb;cases hb
  intro e;refine h2 hlt ?_;unfold Jb;rw [e];rfl
 refine ⟨e, ?_⟩;unfold Vh;rw [e, List.length_drop, Jp];omega
theorem Vz (s : ByteArray) (w : World) (hs : s.size <= 1048576) :
  Calls Tryz.prog 108 #[.string s] w fun e w' => e = .returned (.int .i64 (Vh s.data.toList : Nat)) /\ w = w' := by
 go_enter Tryz.func108, Tryz.ntmps108
 go_wp2_with fail
 go_loop [3] (fun s3 => ∃ k : Nat, s3 = .int .i64 k /\ k <= s.size /\ ∀ j, j < k -> Jb s j = 32) (fun s3 => s.size - (intOf s3).toNat)
 case atStart => exact ⟨0, rfl, Nat.zero_le _, fun j hj => absurd hj (by omega)⟩
 case round =>
  obtain ⟨k, rfl, hk, hb⟩ := hrel;have hkz : (0 : Int) <= k := by omega
  have HB := hid hb;clear hb;by_cases hlt : (k : Int) < s.size
  ·have hkk : k < s.size := by omega
   have hd : decide ((k : Int) < s.size) = true := JmG hlt;obtain ⟨b, hb⟩ : ∃ b : Nat, b = (s.get! k).toNat := ⟨_, rfl⟩
   have hx : (s[k]'hkk).toNat = b := by rw [hb]; exact JA s k hkk
   have hby : Jb s k = b := by unfold Jb; rw [hb]
   by_cases h32 : (b : Int) = 32
   ·have h1 : ((b : Int) == 32) = true := beq_iff_eq.2 h32
    go_wp2_with fail
    go_round
    ·exact ⟨k + 1, by go_num, by omega, fun j hj => by
      rcases Nat.lt_or_ge j k with h | h
      ·exact HB.out j h
      rw [show j = k by omega, hby]; exact h32⟩
    first | omega | (simp [intOf]; omega)
   have h1 : ((b : Int) == 32) = false := JmH h32;go_wp2_with fail
   go_ret
   exact ⟨by rw [(Jhq hk HB.out (fun _ => by rw [hby]; exact h32)).2]; rfl, rfl⟩
  have hd : decide ((k : Int) < s.size) = false := JmF hlt;go_wp2_with fail
  go_ret
  exact ⟨by rw [(Jhq hk HB.out (fun h => by omega)).2]; rfl, rfl⟩
theorem JaJ (s : ByteArray) (w : World) (hs : s.size <= 1048576) :
  Calls Tryz.prog 96 #[.string s] w fun e w' => e = .returned (.int .i64 (Vh s.data.toList : Nat)) /\ w = w' := by
 have hl := ZG s.data.toList 32;have hz : (bs (trimLeftB s.data.toList 32)).size = (trimLeftB s.data.toList 32).length := size_mk _;have hk : ((Vh s.data.toList : Nat) : Int) = (s.size : Int) - ((bs (trimLeftB s.data.toList 32)).size : Int) := by unfold Vh; rw [hz, Jp] at *; omega
 rw [Jp] at hl;obtain ⟨t, ht⟩ : ∃ t, t = bs (trimLeftB s.data.toList 32) := ⟨_, rfl⟩
 have K := hid (WI s w);rw [<- ht] at K hz hk;rw [hk];have htz : t.size <= 1048576 := by omega
 clear ht hk hl hz;go_enter Tryz.func96, Tryz.ntmps96
 go_wp2_with fail
 refine K.out.mono ?_;rintro e w1 ⟨rfl, rfl⟩;go_wp2_with fail
 go_ret
 exact ⟨rfl, rfl⟩
def Q9 (s : ByteArray) (i : Nat) : Bool := decide (i = 0) || decide (Jb s (i - 1) = 32)
structure BareAt (s : ByteArray) (T i e : Nat) (q : Bool) : Prop where
 run : (e = s.size /\ ((i <= s.size /\ ∃ f, (q = false -> f = Q9 s i) /\ i + JR f q (s.data.toList.drop i) = T) ∨ (i = s.size + 1 /\ T = s.size))) ∨ (e = T /\ i = T + 1 /\ T < s.size)
theorem YO {s : ByteArray} {i : Nat} (h : i < s.size) : s.data.toList.drop i = s.get! i :: s.data.toList.drop (i + 1) := by
 have h2 : i < s.data.toList.length := by rw [Jp]; exact h
 rw [List.drop_eq_getElem_cons h2];congr 1
 have := J7 h;rw [List.getElem?_eq_getElem h2] at this;exact Option.some.inj this
theorem ZF {s : ByteArray} {i : Nat} (h : s.size <= i) : s.data.toList.drop i = [] := List.drop_eq_nil_of_le (by rw [Jp]; exact h)
theorem VN {s : ByteArray} {i : Nat} {c : UInt8} : (s.get! i == c) = decide (Jb s i = (c.toNat : Int)) := by
 rw [Bool.eq_iff_iff];simp only [beq_iff_eq, decide_eq_true_eq];unfold Jb;constructor
 ·intro h; rw [h]
 intro h; exact UInt8.toNat_inj.1 (by omega)
theorem BareAt.start (s : ByteArray) : BareAt s (JR true false s.data.toList) 0 s.size false :=
 ⟨.inl ⟨rfl, .inl ⟨Nat.zero_le _, true, fun _ => rfl, by rw [List.drop_zero, Nat.zero_add]⟩⟩⟩
theorem BareAt.at' {s : ByteArray} {T i e : Nat} {q : Bool} (h : BareAt s T i e q) (hi : i < e) : e = s.size /\ i < s.size /\ ∃ f, (q = false -> f = Q9 s i) /\ i + JR f q (s.get! i :: s.data.toList.drop (i + 1)) = T := by
 rcases h.run with ⟨rfl, ⟨h1, f, h2, h3⟩ | ⟨h1, -⟩⟩ | ⟨h1, h2, -⟩
 ·exact ⟨rfl, hi, f, h2, by rw [<- YO hi]; exact h3⟩
 ·omega
 omega
theorem BareAt.done {s : ByteArray} {T i e : Nat} {q : Bool} (h : BareAt s T i e q) (hi : ¬ i < e) : e = T /\ T <= s.size := by
 rcases h.run with ⟨rfl, ⟨h1, f, -, h3⟩ | ⟨-, h2⟩⟩ | ⟨h1, -, h3⟩
 ·rw [ZF (by omega)] at h3
  have : JR f q [] = 0 := by unfold JR; rfl
  rw [this] at h3;omega
 ·exact ⟨h2.symm, by omega⟩
 exact ⟨h1, by omega⟩
theorem Zj (s : ByteArray) (i : Nat) : Q9 s (i + 1) = decide (Jb s i = 32) := by
 unfold Q9;simp
theorem BareAt.esc {s : ByteArray} {T i e : Nat} (h : BareAt s T i e true) (hi : i < e) (hb : Jb s i = 92) : BareAt s T (i + 2) e true := by
 obtain ⟨rfl, hlt, f, -, h3⟩ := h.at' hi;refine ⟨.inl ⟨rfl, ?_⟩⟩;rcases Nat.lt_or_ge (i + 1) s.size with hl | hl
 ·rw [YO hl] at h3
  have e1 : s.get! i = 92 := by have := @VN s i 92; rw [hb] at this; exact beq_iff_eq.1 (by rw [this]; rfl)
  rw [e1] at h3;unfold JR at h3;simp only [if_true] at h3;exact .inl ⟨hl, false, (fun h => by cases h), by show i + 2 + JR false true (s.data.toList.drop (i + 1 + 1)) = T; omega⟩
 rw [ZF hl] at h3;have e1 : JR f true [s.get! i] = 1 := by unfold JR; rfl
 rw [e1] at h3;exact .inr ⟨by omega, by omega⟩
theorem BareAt.in' {s : ByteArray} {T i e : Nat} (h : BareAt s T i e true) (hi : i < e) (hb : Jb s i ≠ 92) {q : Bool} (hq : q = !decide (Jb s i = 34)) : BareAt s T (i + 1) e q := by
 obtain ⟨rfl, hlt, f, -, h3⟩ := h.at' hi;refine ⟨.inl ⟨rfl, .inl ⟨hlt, ?_⟩⟩⟩;rcases Nat.lt_or_ge (i + 1) s.size with hl | hl
 ·rw [YO hl] at h3
  have e1 : ¬ s.get! i = 92 := fun e => hb (by unfold Jb; rw [e]; rfl)
  have e2 : (s.get! i != 34) = q := by rw [hq]; unfold bne; rw [VN]; rfl
  unfold JR at h3;rw [if_neg e1, e2, <- YO hl] at h3;refine ⟨false, fun hf => ?_, by omega⟩;rw [Zj];rw [hf] at hq;have : Jb s i = 34 := by simpa using hq.symm
  rw [this];rfl
 have e1 : JR f true (s.get! i :: s.data.toList.drop (i + 1)) = 1 := by rw [ZF hl]; unfold JR; rfl
 rw [e1] at h3;have e2 : ∀ f, JR f q (s.data.toList.drop (i + 1)) = 0 := fun f => by rw [ZF hl]; unfold JR; rfl
 exact ⟨Q9 s (i + 1), fun _ => rfl, by rw [e2]; omega⟩
theorem Jbw (f : Bool) (c : UInt8) (r : List UInt8) : JR f false (c :: r) = if f && c == 34 then 1 + JR false true r else if f && c == 35 then 0 else 1 + JR (c == 32) false r := by
 cases r with
 | nil => unfold JR; rfl
 | cons d t => rw [JR] <;> (intros; simp_all)
theorem BareAt.open' {s : ByteArray} {T i e : Nat} (h : BareAt s T i e false) (hi : i < e) (hf : Q9 s i = true) (hb : Jb s i = 34) : BareAt s T (i + 1) e true := by
 obtain ⟨rfl, hlt, f, h2, h3⟩ := h.at' hi;rw [h2 rfl, hf, Jbw, VN, VN] at h3;rw [if_pos (by rw [hb]; rfl)] at h3;exact ⟨.inl ⟨rfl, .inl ⟨hlt, false, (fun h => by cases h), by omega⟩⟩⟩
theorem BareAt.rem {s : ByteArray} {T i e : Nat} (h : BareAt s T i e false) (hi : i < e) (hf : Q9 s i = true) (hb : Jb s i = 35) : BareAt s T (i + 1) i false /\ i = T /\ T <= s.size := by
 obtain ⟨rfl, hlt, f, h2, h3⟩ := h.at' hi;rw [h2 rfl, hf, Jbw, VN, VN] at h3;rw [if_neg (by rw [hb]; decide), if_pos (by rw [hb]; rfl)] at h3;exact ⟨⟨.inr ⟨h3, by omega, by omega⟩⟩, h3, by omega⟩
theorem BareAt.go {s : ByteArray} {T i e : Nat} (h : BareAt s T i e false) (hi : i < e) (hf : Q9 s i = true -> ¬ Jb s i = 34 /\ ¬ Jb s i = 35) : BareAt s T (i + 1) e false := by
 obtain ⟨rfl, hlt, f, h2, h3⟩ := h.at' hi;rw [h2 rfl, Jbw, VN, VN, VN] at h3
 have n1 : ¬ (Q9 s i && decide (Jb s i = ((34 : UInt8).toNat : Int))) = true := by
  intro e;simp only [Bool.and_eq_true, decide_eq_true_eq] at e;exact (hf e.1).1 e.2
 have n2 : ¬ (Q9 s i && decide (Jb s i = ((35 : UInt8).toNat : Int))) = true := by
  intro e;simp only [Bool.and_eq_true, decide_eq_true_eq] at e;exact (hf e.1).2 e.2
 rw [if_neg n1, if_neg n2] at h3;exact ⟨.inl ⟨rfl, .inl ⟨hlt, Q9 s (i + 1), fun _ => rfl, by rw [Zj]; exact (by have e : ((32 : UInt8).toNat : Int) = 32 := rfl; rw [e] at h3; omega)⟩⟩⟩
theorem JeM {s : ByteArray} {k T : Nat} (hT : T = JR true false s.data.toList) (hTs : T <= s.size) (hk : k <= T) (h1 : ∀ j, k <= j -> j < T -> Jb s j = 32) (h2 : 0 < k -> Jb s (k - 1) ≠ 32) : bs (JK s.data.toList) = s.extract 0 k := by
 unfold JK;rw [<- hT];have hl : (s.data.toList.take T).length = T := by rw [List.length_take, Jp]; omega
 rw [trimRightB_take (s.data.toList.take T) 32 k (by omega) (fun j b hj hb => ?_) (fun b hp hb => ?_)]
 ·rw [extract_upto, List.take_take, Nat.min_eq_left hk]; rfl
 ·have hjT : j < T := by
   rcases Nat.lt_or_ge j T with h | h
   ·exact h
   rw [List.getElem?_eq_none (by omega)] at hb; cases hb
  rw [List.getElem?_take_of_lt hjT, J7 (by omega)] at hb;cases hb
  have := h1 j hj hjT;unfold Jb at this;exact UInt8.toNat_inj.1 (by have e : (32 : UInt8).toNat = 32 := rfl; omega)
 rw [List.getElem?_take_of_lt (by omega), J7 (by omega)] at hb;cases hb
 intro e;refine h2 hp ?_;unfold Jb;rw [e];rfl
open Go.RowKit
theorem Jdg : ∀ a b : List UInt8, Op.bytesLess a b = false -> Op.bytesLess b a = false -> a = b
 | [], [], _, _ => rfl
 | [], _ :: _, h, _ => by simp [Op.bytesLess] at h
 | _ :: _, [], _, h => by simp [Op.bytesLess] at h
 | x :: a, y :: b, h1, h2 => by
  simp only [Op.bytesLess, Bool.or_eq_false_iff, Bool.and_eq_false_iff, decide_eq_false_iff_not, beq_eq_false_iff_ne] at h1 h2;have hxy : x = y := UInt8.le_antisymm (UInt8.not_lt.1 h2.1) (UInt8.not_lt.1 h1.1);subst hxy;rw [Jdg a b (h1.2.resolve_left (by simp)) (h2.2.resolve_left (by simp))]
theorem Xu : ∀ a b c : List UInt8, Op.bytesLess a b = true -> Op.bytesLess b c = true -> Op.bytesLess a c = true
 | _, _, [], _, h => by cases ‹List UInt8› <;> simp [Op.bytesLess] at h
 | [], _, _ :: _, _, _ => by simp [Op.bytesLess]
 | _ :: _, [], _ :: _, h, _ => by simp [Op.bytesLess] at h
 | x :: a, y :: b, z :: c, h1, h2 => by
  simp only [Op.bytesLess, Bool.or_eq_true, Bool.and_eq_true, decide_eq_true_eq, beq_iff_eq] at h1 h2 ⊢;rcases h1 with h1 | ⟨rfl, h1⟩
  ·rcases h2 with h2 | ⟨rfl, h2⟩
   ·exact .inl (UInt8.lt_trans h1 h2)
   exact .inl h1
  rcases h2 with h2 | ⟨rfl, h2⟩
  ·exact .inl h2
  exact .inr ⟨rfl, Xu a b c h1 h2⟩
theorem WS : ∀ a : List UInt8, Op.bytesLess a a = false
 | [] => rfl
 | x :: a => by unfold Op.bytesLess; simp [UInt8.lt_irrefl, WS a]
theorem toList_inj {a b : ByteArray} (h : a.toList = b.toList) : a = b := by
 rw [ByteArray.toList_eq, ByteArray.toList_eq] at h;cases a; cases b
 simp at h;rw [h]
def JiQ (s : ByteArray) : List Value := [.string s]
theorem Jbm (d : ByteArray) : (JiQ d).length = 1 := rfl
theorem Jfj (d : ByteArray) : ∀ v ∈ JiQ d, v.oneCell' = true := by intro u hu; simp [JiQ] at hu; subst hu; rfl
theorem Jjq (d : ByteArray) (es : List Value) (h : Jho d es) : es = JiQ d := h.1
def Ug : Go.Shelf.Ren := ⟨fun | 172 => 204 | 244 => 246 | 245 => 247 | 247 => 268 | 279 => 269 | 280 => 270 | 281 => 271 | 282 => 272 | 287 => 284 | 316 => 285 | 171 => 128 | 205 => 286 | 321 => 296 | 322 => 297 | 243 => 206 | 246 => 248 | 283 => 273 | 284 => 274 | 285 => 275 | 286 => 276 | 129 => 288 | 317 => 287 | 318 => 289 | 319 => 290 | 320 => 291 | 337 => 298 | 338 => 299 | n => n, fun | 9 => 9 | 3 => 3 | 75 => 141 | 76 => 142 | 4 => 4 | 5 => 5 | 167 => 206 | 37 => 28 | 0 => 0 | 85 => 207 | 2 => 2 | 168 => 209 | 53 => 213 | 175 => 227 | 46 => 179 | 210 => 230 | 127 => 175 | 145 => 242 | 143 => 240 | 21 => 21 | 171 => 212 | 173 => 216 | 212 => 233 | 51 => 202 | 20 => 20 | 213 => 234 | 232 => 247 | 233 => 248 | 80 => 144 | n => n, fun | 15 => 3 | 16 => 4 | 17 => 5 | 18 => 6 | 19 => 7 | n => n⟩
theorem Jft : Go.Proofs.LaysC.n172 Tryz.prog Ug := {
 mixed := by kernel_rfl
 f129 := Tryz.func288.trans (congrArg some (by kernel_rfl))
 f171 := Tryz.func128.trans (congrArg some (by kernel_rfl))
 f172 := Tryz.func204.trans (congrArg some (by kernel_rfl))
 f205 := Tryz.func286.trans (congrArg some (by kernel_rfl))
 f243 := Tryz.func206.trans (congrArg some (by kernel_rfl))
 f244 := Tryz.func246.trans (congrArg some (by kernel_rfl))
 f245 := Tryz.func247.trans (congrArg some (by kernel_rfl))
 f246 := Tryz.func248.trans (congrArg some (by kernel_rfl))
 f247 := Tryz.func268.trans (congrArg some (by kernel_rfl))
 f279 := Tryz.func269.trans (congrArg some (by kernel_rfl))
 f280 := Tryz.func270.trans (congrArg some (by kernel_rfl))
 f281 := Tryz.func271.trans (congrArg some (by kernel_rfl))
 f282 := Tryz.func272.trans (congrArg some (by kernel_rfl))
 f283 := Tryz.func273.trans (congrArg some (by kernel_rfl))
 f284 := Tryz.func274.trans (congrArg some (by kernel_rfl))
 f285 := Tryz.func275.trans (congrArg some (by kernel_rfl))
 f286 := Tryz.func276.trans (congrArg some (by kernel_rfl))
 f287 := Tryz.func284.trans (congrArg some (by kernel_rfl))
 f316 := Tryz.func285.trans (congrArg some (by kernel_rfl))
 f317 := Tryz.func287.trans (congrArg some (by kernel_rfl))
 f318 := Tryz.func289.trans (congrArg some (by kernel_rfl))
 f319 := Tryz.func290.trans (congrArg some (by kernel_rfl))
 f320 := Tryz.func291.trans (congrArg some (by kernel_rfl))
 f321 := Tryz.func296.trans (congrArg some (by kernel_rfl))
 f322 := Tryz.func297.trans (congrArg some (by kernel_rfl))
 f337 := Tryz.func298.trans (congrArg some (by kernel_rfl))
 f338 := Tryz.func299.trans (congrArg some (by kernel_rfl))
 t0 := Tryz.underlying0
 a0 := Tryz.isAgg0
 z0 := Tryz.sizeOf0
 v0 := Tryz.zeroValue0
 t2 := Tryz.underlying2
 a2 := Tryz.isAgg2
 z2 := Tryz.sizeOf2
 v2 := Tryz.zeroValue2
 t3 := Tryz.underlying3
 a3 := Tryz.isAgg3
 z3 := Tryz.sizeOf3
 v3 := Tryz.zeroValue3
 t4 := Tryz.underlying4
 a4 := Tryz.isAgg4
 z4 := Tryz.sizeOf4
 v4 := Tryz.zeroValue4
 t5 := Tryz.underlying5
 a5 := Tryz.isAgg5
 z5 := Tryz.sizeOf5
 v5 := Tryz.zeroValue5
 t9 := Tryz.underlying9
 a9 := Tryz.isAgg9
 z9 := Tryz.sizeOf9
 v9 := Tryz.zeroValue9
 t20 := Tryz.underlying20
 a20 := Tryz.isAgg20
 z20 := Tryz.sizeOf20
 v20 := Tryz.zeroValue20
 t21 := Tryz.underlying21
 a21 := Tryz.isAgg21
 z21 := Tryz.sizeOf21
 v21 := Tryz.zeroValue21
 t37 := Tryz.underlying28
 a37 := Tryz.isAgg28
 z37 := Tryz.sizeOf28
 v37 := Tryz.zeroValue28
 t46 := Tryz.underlying179
 a46 := Tryz.isAgg179
 z46 := Tryz.sizeOf179
 v46 := Tryz.zeroValue179
 t51 := Tryz.underlying202
 a51 := Tryz.isAgg202
 z51 := Tryz.sizeOf202
 v51 := Tryz.zeroValue202
 t53 := Tryz.underlying213
 a53 := Tryz.isAgg213
 z53 := Tryz.sizeOf213
 v53 := Tryz.zeroValue213
 t75 := Tryz.underlying141
 a75 := Tryz.isAgg141
 z75 := Tryz.sizeOf141
 v75 := Tryz.zeroValue141
 t76 := Tryz.underlying142
 a76 := Tryz.isAgg142
 z76 := Tryz.sizeOf142
 v76 := Tryz.zeroValue142
 t85 := Tryz.underlying207
 a85 := Tryz.isAgg207
 z85 := Tryz.sizeOf207
 v85 := Tryz.zeroValue207
 t127 := Tryz.underlying175
 a127 := Tryz.isAgg175
 z127 := Tryz.sizeOf175
 v127 := Tryz.zeroValue175
 t143 := Tryz.underlying240
 a143 := Tryz.isAgg240
 z143 := Tryz.sizeOf240
 v143 := Tryz.zeroValue240
 t145 := Tryz.underlying242
 a145 := Tryz.isAgg242
 z145 := Tryz.sizeOf242
 v145 := Tryz.zeroValue242
 t167 := Tryz.underlying206
 a167 := Tryz.isAgg206
 z167 := Tryz.sizeOf206
 v167 := Tryz.zeroValue206
 t168 := Tryz.underlying209
 a168 := Tryz.isAgg209
 z168 := Tryz.sizeOf209
 v168 := Tryz.zeroValue209
 t171 := Tryz.underlying212
 a171 := Tryz.isAgg212
 z171 := Tryz.sizeOf212
 v171 := Tryz.zeroValue212
 t173 := Tryz.underlying216
 a173 := Tryz.isAgg216
 z173 := Tryz.sizeOf216
 v173 := Tryz.zeroValue216
 t175 := Tryz.underlying227
 a175 := Tryz.isAgg227
 z175 := Tryz.sizeOf227
 v175 := Tryz.zeroValue227
 t210 := Tryz.underlying230
 a210 := Tryz.isAgg230
 z210 := Tryz.sizeOf230
 v210 := Tryz.zeroValue230
 t212 := Tryz.underlying233
 a212 := Tryz.isAgg233
 z212 := Tryz.sizeOf233
 v212 := Tryz.zeroValue233
 t213 := Tryz.underlying234
 a213 := Tryz.isAgg234
 z213 := Tryz.sizeOf234
 t232 := Tryz.underlying247
 a232 := Tryz.isAgg247
 z232 := Tryz.sizeOf247
 v232 := Tryz.zeroValue247
 t233 := Tryz.underlying248
 a233 := Tryz.isAgg248
 z233 := Tryz.sizeOf248
 v233 := Tryz.zeroValue248
 g15 := by kernel_rfl
 g16 := by kernel_rfl
 g17 := by kernel_rfl
 g18 := by kernel_rfl
 g19 := by kernel_rfl
 t80 := Tryz.underlying144
 a80 := Tryz.isAgg144
 z80 := Tryz.sizeOf144
 v80 := Tryz.zeroValue144
 i0 := by kernel_rfl
 i2 := by kernel_rfl
 i3 := by kernel_rfl
 i4 := by kernel_rfl
 i5 := by kernel_rfl
 i9 := by kernel_rfl
 i20 := by kernel_rfl
 i21 := by kernel_rfl
 i37 := by kernel_rfl
 i46 := by kernel_rfl
 i51 := by kernel_rfl
 i53 := by kernel_rfl
 i75 := by kernel_rfl
 i76 := by kernel_rfl
 i80 := by kernel_rfl
 i85 := by kernel_rfl
 i127 := by kernel_rfl
 i143 := by kernel_rfl
 i145 := by kernel_rfl
 i167 := by kernel_rfl
 i168 := by kernel_rfl
 i171 := by kernel_rfl
 i173 := by kernel_rfl
 i175 := by kernel_rfl
 i210 := by kernel_rfl
 i212 := by kernel_rfl
 i232 := by kernel_rfl
 i233 := by kernel_rfl
 m15 := by kernel_rfl
 m16 := by kernel_rfl
 m17 := by kernel_rfl
 m18 := by kernel_rfl
 m19 := by kernel_rfl
 c0 := by kernel_rfl
 c2 := by kernel_rfl
 c3 := by kernel_rfl
 c4 := by kernel_rfl
 c5 := by kernel_rfl
 c9 := by kernel_rfl
 c20 := by kernel_rfl
 c21 := by kernel_rfl
 c37 := by kernel_rfl
 c46 := by kernel_rfl
 c51 := by kernel_rfl
 c53 := by kernel_rfl
 c75 := by kernel_rfl
 c76 := by kernel_rfl
 c80 := by kernel_rfl
 c85 := by kernel_rfl
 c127 := by kernel_rfl
 c143 := by kernel_rfl
 c145 := by kernel_rfl
 c167 := by kernel_rfl
 c168 := by kernel_rfl
 c171 := by kernel_rfl
 c173 := by kernel_rfl
 c175 := by kernel_rfl
 c210 := by kernel_rfl
 c212 := by kernel_rfl
 c213 := by kernel_rfl
 c232 := by kernel_rfl
 c233 := by kernel_rfl }
def ErrR (w : World) : Prop := ∃ ev, w.cell? ⟨Ug.g 16, 0, none⟩ = some ev /\ (ev = .nilIface ∨ ∃ te pe, ev = .iface te pe)
theorem ErrR.below {w w' : World} (h : ErrR w) (hb : Below w.heap.size w w') : ErrR w' := by
 obtain ⟨ev, h1, h2⟩ := h;exact ⟨ev, (hb.cell (p := ⟨Ug.g 16, 0, none⟩) (Lib.lt_of_cell h1)).trans h1, h2⟩
theorem JcD (s : ByteArray) (v : Int) (w : World) (hs : s.size <= 1048576) (h : Lib.atoiAll s.data.toList = .ok v) :
  Calls Tryz.prog 204 #[.string s] w fun e w' => e = .returned (.tuple #[.int .i64 v, .nilIface]) /\ Below w.heap.size w w' := by
 have h1 := Any.strconv_Atoi_ok Jft s (by omega) v h w;change Calls Tryz.prog 204 _ _ _ at h1
 refine h1.mono ?_;rintro e w' ⟨rfl, hw⟩;refine ⟨rfl, ?_⟩;rcases hw with rfl | ⟨t, rfl⟩
 ·exact Below.refl _ _
 exact Lib.bytesWorld_below _ _ _
theorem Xp (s : ByteArray) (w : World) (hs : s.size <= 1048576) (h : Lib.atoiAll s.data.toList = .range) (hE : ErrR w) :
  Calls Tryz.prog 204 #[.string s] w fun e w' => ∃ x N, e = .returned (.tuple #[.int .i64 x, .iface 209 (.pointer (some ⟨N, 0, none⟩))]) /\ Below w.heap.size w w' := by
 obtain ⟨ev, h2, h3⟩ := hE;have h1 := Any.strconv_Atoi_range Jft s (by omega) h ev w h2 h3;change Calls Tryz.prog 204 _ _ _ at h1
 refine h1.mono ?_;rintro e w' ⟨N, rfl, -, -, hb⟩;exact ⟨_, N, rfl, hb⟩
theorem JcF (x : Int) : Zy x = ZA x := by
 unfold Zy ZA;rw [Bool.eq_iff_iff];simp
def JgW (b : Nat) : Int := if b = 46 then 0 else if b = 101 then 1 else if b = 69 then 2 else -1
theorem JkP : ∀ i : Fin 256, Lib.indexByte [46, 101, 69] (UInt8.ofNat i.val) = JgW i.val := by decide
theorem WG (b : Nat) (hb : b < 256) (w : World) : Calls Tryz.prog 130 #[.string { data := #[46, 101, 69] }, .int .u8 b] w fun e w' => e = .returned (.int .i64 (JgW b)) /\ w = w' := by
 have h := QB { data := #[46, 101, 69] } (UInt8.ofNat b) w;have e1 : (UInt8.ofNat b).toNat = b := by rw [UInt8.toNat_ofNat']; exact Nat.mod_eq_of_lt hb
 rw [e1] at h;exact h.mono (fun _ _ h => ⟨h.1.trans (congrArg (fun z => Ending.returned (Value.int .i64 z)) (JkP ⟨b, hb⟩)), h.2⟩)
theorem XU (s : ByteArray) (i : Nat) (w : World) (hs : s.size <= 1048576) (hi : i <= 1048576) (hE : ErrR w) :
  Calls Tryz.prog 209 #[.string s, .int .i64 i] w fun e w' => e = .returned (.tuple #[.int .i64 (JF s i).1, .int .i64 (JF s i).2]) /\ Below w.heap.size w w' := by
 have HE := hid hE;clear hE;by_cases hlt : (i : Int) < s.size
 ·have hii : i < s.size := by omega
  have h1 : decide ((s.size : Int) <= i) = false := JmF (by omega);have h2 : decide (s.size <= i) = false := JmF (by omega);have h3 : decide ((i : Int) < 0) = false := JmF (by omega);have hz0 : (0 : Int) <= i := by omega
  obtain ⟨b, hb⟩ : ∃ b : Nat, b = (s.get! i).toNat := ⟨_, rfl⟩
  have hx : (s[i]'hii).toNat = b := by rw [hb]; exact JA s i hii
  have hby : Jb s i = b := by unfold Jb; rw [hb]
  obtain ⟨a, ha⟩ : ∃ a, a = if Jb s i = 45 then i + 1 else i := ⟨_, rfl⟩
  have HBy := hid hby;have HA := hid ha;have hia : i <= a /\ a <= i + 1 := by rw [ha]; split <;> omega
  obtain ⟨e0, he0⟩ : ∃ e0, e0 = Qg s a := ⟨_, rfl⟩
  have hE0 := U9 s a;rw [<- he0] at hE0;have hae : a <= e0 := hE0.1;have hes : e0 <= s.size := hE0.2 (by omega);have HE0 := hid he0;obtain ⟨hia1, hia2⟩ := hia;clear hb hby ha he0 hE0;go_enter Tryz.func209, Tryz.ntmps209
  go_upto_if 22 with fail
  go_cut [6] from 19 to 24 (fun s6 wx => s6 = .int .i64 a /\ wx = w)
  case first =>
   by_cases e45 : (b : Int) = 45
   ·have haa : (i : Int) + 1 = a := by have := HA.out; rw [HBy.out, if_pos e45] at this; omega
    obtain rfl : b = 45 := by omega
    go_wp2_with fail
    go_meet
    exact ⟨rfl, rfl⟩
   have f45 : ((b : Int) == 45) = false := JmH e45;have haa : i = a := by have := HA.out; rw [HBy.out, if_neg e45] at this; omega
   have HAA := hid haa;clear haa e45;go_wp2_with fail
   go_meet
   exact ⟨by rw [HAA.out], rfl⟩
  case rest =>
   obtain ⟨rfl, rfl⟩ := hcut;go_upto_block 0 with fail
   go_cut [6] from 26 to 37 (fun s6 wx => s6 = .int .i64 e0 /\ wx = wc)
   case first =>
    go_wp2_with fail
    go_loopw [6] (fun s6 wr => ∃ j : Nat, a <= j /\ j <= e0 /\ s6 = .int .i64 j /\ Qg s j = e0 /\ wr = wc) (fun s6 _ => s.size - (Lib.intOf s6).toNat)
    case atStart => exact ⟨a, Nat.le_refl _, hae, rfl, HE0.out.symm, rfl⟩
    case round =>
     obtain ⟨j, haj, hje, rfl, hdj, rfl⟩ := hrel;have HJ := hid hdj;clear hdj;by_cases hjl : (j : Int) < s.size
     ·have hjj : j < s.size := by omega
      have hj0 : (0 : Int) <= j := by omega
      obtain ⟨c, hc⟩ : ∃ c : Nat, c = (s.get! j).toNat := ⟨_, rfl⟩
      have hxj : (s[j]'hjj).toNat = c := by rw [hc]; exact JA s j hjj
      have hbj : Jb s j = c := by unfold Jb; rw [hc]
      have HC := hid hbj;have HD := hid (HJ.out.symm.trans (JaZ hjj));clear hc hbj;rcases hf : Zy (c : Int) with _ | _
      ·have HF := hid (show e0 = j by have h9 := HD.out; rw [HC.out, <- JcF, hf, if_neg (by decide)] at h9; exact h9)
       go_wp2_with (first | (go_at_call 201; refine (Y8 _ _).mono ?_; rintro e w' ⟨rfl, rfl⟩))
       go_meet
       exact ⟨by rw [HF.out], rfl⟩
      have HF := hid (show Qg s (j + 1) = e0 by have h9 := HD.out; rw [HC.out, <- JcF, hf, if_pos rfl] at h9; exact h9.symm);have hle := (U9 s (j + 1)).1;rw [HF.out] at hle;go_wp2_with (first | (go_at_call 201; refine (Y8 _ _).mono ?_; rintro e w' ⟨rfl, rfl⟩))
      go_roundw
      case rel => exact ⟨j + 1, by omega, hle, by go_num, HF.out, by first | rfl | exact True.intro⟩
      case measure => simp [Lib.intOf]; omega
     have HF := hid (show e0 = j by rw [<- HJ.out]; exact JbI (by omega));go_wp2_with fail
     go_meet
     exact ⟨by rw [HF.out], rfl⟩
   case rest =>
    obtain ⟨rfl, rfl⟩ := hcut;by_cases c1 : (e0 : Int) = a
    ·have HQ := hid (show JF s i = (0, -1) by rw [ZR hii HA.out]; exact YN (.inl (by rw [<- HE0.out]; omega)))
     have HC1 := hid c1;have g1 : ((e0 : Int) == a) = true := beq_iff_eq.2 c1;clear c1;go_wp2_with fail
     go_ret2
     exact ⟨by rw [HQ.out]; rfl, Below.refl _ _⟩
    have g1 : ((e0 : Int) == a) = false := JmH c1;have hlt2 : a < e0 := by omega
    have ham : a < s.size := by omega
    have haI : (a : Int) < s.size := by omega
    have ha0 : (0 : Int) <= a := by omega
    obtain ⟨ca, hca⟩ : ∃ c : Nat, c = (s.get! a).toNat := ⟨_, rfl⟩
    have hxa : (s[a]'ham).toNat = ca := by rw [hca]; exact JA s a ham
    have HCa := hid (show Jb s a = ca by unfold Jb; rw [hca]);clear hca c1;by_cases c2 : (ca : Int) = 48 /\ (a : Int) + 1 < e0
    ·have HQ := hid (show JF s i = (0, -1) by rw [ZR hii HA.out]; exact YN (.inr (.inl ⟨by rw [HCa.out]; exact c2.1, by rw [<- HE0.out]; omega⟩)))
     obtain ⟨c21, c22⟩ := c2;obtain rfl : ca = 48 := by omega
     go_wp2_with fail
     go_ret2
     exact ⟨by rw [HQ.out]; rfl, Below.refl _ _⟩
    have tail : ∀ P : Prop, (((ca : Int) == 48) = false -> P) -> (ca = 48 -> decide ((a : Int) + 1 < e0) = false -> P) -> P := by
     intro P k1 k2;by_cases c : (ca : Int) = 48
     ·exact k2 (by omega) (JmF (fun h => c2 ⟨c, h⟩))
     exact k1 (JmH c)
    have HC2 := hid c2;clear c2;by_cases c3 : (e0 : Int) < s.size
    ·have hej : e0 < s.size := by omega
     have he0 : (0 : Int) <= e0 := by omega
     obtain ⟨ce, hce⟩ : ∃ c : Nat, c = (s.get! e0).toNat := ⟨_, rfl⟩
     have hxe : (s[e0]'hej).toNat = ce := by rw [hce]; exact JA s e0 hej
     have HCe := hid (show Jb s e0 = ce by unfold Jb; rw [hce]);have hc256 : ce < 256 := by have := (s.get! e0).toNat_lt; omega
     clear hce;by_cases c4 : ce = 46 ∨ ce = 101 ∨ ce = 69
     ·have HQ := hid (show JF s i = (0, -1) by
       rw [ZR hii HA.out];refine YN (.inr (.inr ⟨by rw [<- HE0.out]; exact hej, ?_⟩));rw [<- HE0.out, HCe.out]
       omega)
      have hd0 : ¬ JgW ce < 0 := by unfold JgW; rcases c4 with rfl | rfl | rfl <;> decide
      obtain ⟨dv, hdv⟩ : ∃ d, d = JgW ce := ⟨_, rfl⟩
      have hd1 : 0 <= dv := by omega
      have HDv := hid hdv;clear hd0 hdv c4;refine tail _ (fun t1 => ?_) (fun t1 t2 => ?_)
      all_goals
       clear tail
       (try subst t1)
       go_wp2_with (go_at_call 130; refine (WG ce hc256 _).mono ?_; rintro e w9 ⟨rfl, rfl⟩; rw [<- HDv.out])
       go_ret2
       exact ⟨by rw [HQ.out]; rfl, Below.refl _ _⟩
     have HDv := hid (show JgW ce = -1 by unfold JgW; rw [if_neg (by omega), if_neg (by omega), if_neg (by omega)])
     have HW := hid (Jbf hii HA.out (by
      rw [<- HE0.out, HCa.out, HCe.out];rintro (h | h | h)
      ·omega
      ·exact HC2.out ⟨h.1, by omega⟩
      omega))
     rw [<- HE0.out] at HW;have hie : i <= e0 := by omega
     have hieI : (i : Int) <= e0 := by omega
     have hesI : (e0 : Int) <= s.size := by omega
     clear c4;refine tail _ (fun t1 => ?_) (fun t1 t2 => ?_)
     all_goals
      clear tail
      (try subst t1)
      rcases HW.out with ⟨v, hv1, hv2⟩ | ⟨hv1, hv2⟩
      focus
       have HV := hid hv1;have HQ := hid hv2;clear hv1 hv2;go_wp2_with (first | (go_at_call 130; refine (WG ce hc256 _).mono ?_; rintro e w9 ⟨rfl, rfl⟩; rw [HDv.out]) | (go_at_call 204; refine (JcD _ v _ (by simp; omega) HV.out).mono ?_; rintro e w9 ⟨rfl, hb9⟩))
      rotate_left
      focus
       have HV := hid hv1;have HQ := hid hv2;clear hv1 hv2;go_wp2_with (first | (go_at_call 130; refine (WG ce hc256 _).mono ?_; rintro e w9 ⟨rfl, rfl⟩; rw [HDv.out]) | (go_at_call 204; refine (Xp _ _ (by simp; omega) HV.out HE.out).mono ?_; rintro e w9 ⟨xv, nv, rfl, hb9⟩))
      rotate_left
      all_goals
       go_ret2
       exact ⟨by rw [HQ.out]; rfl, Jj⟩
    have heq : e0 = s.size := by omega
    have HW := hid (Jbf hii HA.out (by
     rw [<- HE0.out, HCa.out];rintro (h | h | h)
     ·omega
     ·exact HC2.out ⟨h.1, by omega⟩
     omega))
    rw [<- HE0.out] at HW;have hie : i <= e0 := by omega
    have hieI : (i : Int) <= e0 := by omega
    have hesI : (e0 : Int) <= s.size := by omega
    have hsz3 : decide ((e0 : Int) < s.size) = false := JmF c3;have hsz4 : decide (e0 < s.size) = false := JmF (by omega);clear heq c3;refine tail _ (fun t1 => ?_) (fun t1 t2 => ?_)
    all_goals
     clear tail
     (try subst t1)
     rcases HW.out with ⟨v, hv1, hv2⟩ | ⟨hv1, hv2⟩
     focus
      have HV := hid hv1;have HQ := hid hv2;clear hv1 hv2;go_wp2_with ((go_at_call 204; refine (JcD _ v _ (by simp; omega) HV.out).mono ?_; rintro e w9 ⟨rfl, hb9⟩))
     rotate_left
     focus
      have HV := hid hv1;have HQ := hid hv2;clear hv1 hv2;go_wp2_with ((go_at_call 204; refine (Xp _ _ (by simp; omega) HV.out HE.out).mono ?_; rintro e w9 ⟨xv, nv, rfl, hb9⟩))
     rotate_left
     all_goals
      go_ret2
      exact ⟨by rw [HQ.out]; rfl, Jj⟩
 have HQ := hid (show JF s i = (0, -1) by unfold JF; rw [if_neg (by omega)]);have hz0 : (0 : Int) <= i := by omega
 go_enter Tryz.func209, Tryz.ntmps209
 go_wp2_with fail
 go_ret2
 exact ⟨by rw [HQ.out]; rfl, Below.refl _ _⟩
def JfY : Go.Shelf.Ren := ⟨fun | 99 => 177 | 206 => 236 | n => n, fun | 9 => 9 | 4 => 4 | 3 => 3 | n => n, fun | n => n⟩
theorem JkW : Go.Proofs.Lays.n99 Tryz.prog JfY := {
 mixed := by kernel_rfl
 f99 := Tryz.func177.trans (congrArg some (by kernel_rfl))
 f206 := Tryz.func236.trans (congrArg some (by kernel_rfl))
 t3 := Tryz.underlying3
 a3 := Tryz.isAgg3
 z3 := Tryz.sizeOf3
 v3 := Tryz.zeroValue3
 t4 := Tryz.underlying4
 a4 := Tryz.isAgg4
 z4 := Tryz.sizeOf4
 v4 := Tryz.zeroValue4
 t9 := Tryz.underlying9
 a9 := Tryz.isAgg9
 z9 := Tryz.sizeOf9
 v9 := Tryz.zeroValue9 }
def wF : List UInt8 := [102, 97, 108, 115, 101]
theorem Uy (s p : ByteArray) (w : World) : Calls Tryz.prog 177 #[.string s, .string p] w fun e w' => e = .returned (.bool (Lib.hasPrefix s.data.toList p.data.toList)) /\ w = w' := by
 have h := Any.strings_HasPrefix JkW s p w;change Calls Tryz.prog 177 _ _ _ at h
 exact h.mono (fun _ _ h => ⟨h.1, h.2.symm⟩)
def Jjo (x : Int) : Int := if x = 123 then 1 else if x = 125 then 2 else if x = 91 then 3 else if x = 93 then 4 else if x = 58 then 5 else if x = 44 then 6 else 0
theorem Jbo (s : ByteArray) (i : Nat) : (Jr s i).2 < 0 ∨ ((i : Int) < (Jr s i).2 /\ (Jr s i).2 <= s.size) := by
 have key : ∀ (k j : Nat) (acc : List UInt8), i < j -> ((Za s k j acc).2 < 0 ∨ ((i : Int) < (Za s k j acc).2 /\ (Za s k j acc).2 <= s.size)) := by
  intro k;induction k with
  | zero => intro j acc _; unfold Za; left; decide
  | succ k ih =>
   intro j acc hj;unfold Za;split
   ·split
    ·right; simp only; omega
    split
    ·left; decide
    have h := (YW s j).1;exact ih _ _ (by omega)
   left; decide
 unfold Jr;split
 ·split
  ·exact key _ _ _ (by omega)
  left; decide
 left; decide
theorem JhK {D : Type} {C : D -> List Value -> Prop} {enc : D -> List Value} {sz : Nat} (hk : ∀ d, (enc d).length = sz) (w : World) (d : D) (hC : C d (enc d)) (ty : TypeId) (cs : Array Value) (hc : cs = (enc d).toArray) {B : Nat} (hB : B = w.heap.size) :
  SlOf C sz w.heap.size (w.alloc (.cells cs ty)).heap.size (w.alloc (.cells cs ty)) [d] (.slice (some ⟨B, 0, none⟩) 1 1) := by
 subst hB;exact JjU hk w d hC ty cs hc
theorem QK {P : Program} {D : Type} {enc : D -> List Value} {C : D -> List Value -> Prop} {w : World} {ops : Array Oper} {rest : List Oper} {o : Oper} {a : Act} {Q : Exit -> Act -> World -> Prop} (hgd : o.guard = none) (s x : Operand) (t : TypeId)
  (ho : o.op = .call { callee := .builtin .append, args := #[s, x], argTypes := #[t, t] }) (base : Nat) (e : TypeId) (i : TypeInfo) (z : Value) (sz bytes : Nat) (ht : P.underlying t = some (.slice e)) (hi : P.info? e = some i) (hz : i.zero = some z)
  (hsize : i.size = sz) (hby : i.bytes = bytes) (hzs : z.cells.size = sz) (hsz : 0 < sz) (hk : ∀ d, (enc d).length = sz) (h1 : ∀ d, ∀ v ∈ enc d, v.oneCell' = true) (hC : ∀ d es, C d es -> es = enc d) (v : Value) (n : Nat) (xs : List D) (hs : a.eval s = v) (hn : xs.length = n) (hown : RowE enc sz e base w xs v)
  (l : List D) (A : Option Addr) (m c lo hi' : Nat) (hx : a.eval x = .slice A m c) (hm : l.length = m) (hl : SlOf C sz lo hi' w l (.slice A m c)) (h63 : n + m <= maxLen) (hbytes : (n + m) * bytes <= 140737488355328) (hbase : base <= w.heap.size)
  (h : ∀ v' w', RowE enc sz e base w' (xs ++ l) v' -> w.grownBy w' v.ownBlock -> (v'.ownBlock = v.ownBlock ∨ v'.ownBlock = some w.heap.size) -> wpList P ops Q rest (a.put o.dst v') w') :
  wpList P ops Q (o :: rest) a w := by
 obtain ⟨v', w', hr, h2, h3, h4⟩ := Us (P := P) (enc := enc) (C := C) w t o.type base e i z sz bytes ht hi hz hsize hby hzs hsz hk h1 hC v n xs hn hown l A m c lo hi' hm hl h63 hbytes hbase;exact Ji hgd s x t ho v _ v' w' hs hx hr (h v' w' h2 h3 h4)
theorem WH {s : ByteArray} (h : (QN s).code = 0) : s.size <= 20000 := by
 unfold QN at h;split at h
 ·cases h
 omega
open Go.RowKit Go.ChangeShapes Go.WideShapes Go.ChangeAt
def Z9 (b : UInt8) (cs : List Value) : Prop := cs = [.int .u8 b.toNat]
def CurAt (code : List UInt8) (p : Nat) (w : World) : Prop :=
 ∃ A c i h, w.heap[p]? = some (.cells #[.slice A code.length c, .int .i64 (i : Nat), .int .i64 h] 136 (0, 0)) /\ QA h /\ i <= code.length /\ code.length <= 1048576 /\ SlOf Z9 1 0 p w code (.slice A code.length c)
structure Dr (code : List UInt8) (p : Nat) (w w' : World) : Prop where
 aside : Aside (fun b => b = p) w w'
 cur : CurAt code p w'
theorem CurAt.lt {code : List UInt8} {p : Nat} {w : World} (h : CurAt code p w) : p < w.heap.size := by
 obtain ⟨A, c, i, x, hg, -⟩ := h;exact Ja hg
theorem CurAt.keep {code : List UInt8} {p : Nat} {w w' : World} (h : CurAt code p w) (hb : ∀ b, b <= p -> w'.heap[b]? = w.heap[b]?) : CurAt code p w' := by
 obtain ⟨A, c, i, x, hg, h1, h2, h3, h4⟩ := h;exact ⟨A, c, i, x, (hb p (Nat.le_refl _)).trans hg, h1, h2, h3, SlOf.keep h4 (fun b o _ hlt => World.cell?_of_block (hb b (Nat.le_of_lt hlt))) (Nat.le_refl _) (Nat.le_refl _) (fun _ _ _ h => h)⟩
theorem CurAt.below {code : List UInt8} {p : Nat} {w w' : World} (h : CurAt code p w) (hb : Below w.heap.size w w') : CurAt code p w' := h.keep (fun b hle => hb.block b (Nat.lt_of_le_of_lt hle h.lt))
theorem Dr.refl {code : List UInt8} {p : Nat} {w : World} (h : CurAt code p w) : Dr code p w w := ⟨Aside.refl _ _, h⟩
theorem Dr.trans {code : List UInt8} {p : Nat} {a b c : World} (h : Dr code p a b) (k : Dr code p b c) : Dr code p a c := ⟨h.aside.trans k.aside, k.cur⟩
theorem Dr.step {code : List UInt8} {p : Nat} {a b c : World} (h : Dr code p a b) (k : Below b.heap.size b c) : Dr code p a c := ⟨h.aside.trans (Aside.of_below k), h.cur.below k⟩
theorem Dr.cell {code : List UInt8} {p : Nat} {a b : World} (h : Dr code p a b) {g o : Nat} (hg : g < a.heap.size) (hp : g ≠ p) : b.cell? ⟨g, o, none⟩ = a.cell? ⟨g, o, none⟩ := World.cell?_of_block (h.aside.block g hg hp)
theorem Dr.below {code : List UInt8} {p B : Nat} {a b : World} (h : Dr code p a b) (hB : B <= a.heap.size) (hp : B <= p) : Below B a b := h.aside.below hB (fun b hb => by subst hb; exact hp)
theorem JgO (n : Int) : bits .and .i64 n 255 = n % 256 := by
 have h255 : (BitVec.ofInt 64 255).toNat = 2 ^ 8 - 1 := by decide
 have key : (BitVec.ofInt 64 n &&& BitVec.ofInt 64 255).toNat = (n % ((2 ^ 64 : Nat) : Int)).toNat % 2 ^ 8 := by
  rw [BitVec.toNat_and, BitVec.toNat_ofInt, h255, Nat.and_two_pow_sub_one_eq_mod]
 show IntKind.i64.wrap ((BitVec.ofInt 64 n &&& BitVec.ofInt 64 255).toNat : Nat) = n % 256
 rw [key, IntKind.wrap_i64];omega
theorem JkO (n : Int) : 0 <= n % 256 /\ n % 256 <= 255 := by omega
theorem JkZ (n : Int) : QA (wrap64 n) := by
 unfold wrap64 QA;omega
theorem Ya (code : List UInt8) (p : Nat) (w : World) (h : CurAt code p w) :
  Calls Tryz.prog 164 #[.pointer (some ⟨p, 0, none⟩)] w fun e w' => ∃ x : Int, e = .returned (.int .i64 x) /\ 0 <= x /\ x <= 255 /\ Dr code p w w' := by
 have hcur := h;obtain ⟨A, c, i, h0, hg, hh, hi, hn, hs⟩ := h;obtain ⟨c0, c1, c2, cf⟩ := Qi hg;have hpl := Ja hg;have hand := JgO;have Hs := Lib.hid hs;go_enter Tryz.func164, Tryz.ntmps164
 go_wp2_with fail
 have hXI := JkZ (wrap64 (h0 * 6364136223846793005) + 1442695040888963407);generalize wrap64 (wrap64 (h0 * 6364136223846793005) + 1442695040888963407) = X at *;have hg1 : (w.setCell ⟨p, 2, none⟩ (.int .i64 X)).heap[p]? = some (.cells #[.slice A code.length c, .int .i64 (i : Nat), .int .i64 X] 136 (0, 0)) := heap_setCell_same w p 2 _ _ _ hg;have hA1 : Aside (fun b => b = p) w (w.setCell ⟨p, 2, none⟩ (.int .i64 X)) := Aside.setCell (p := ⟨p, 2, none⟩) (Aside.refl _ _) rfl
 generalize w.setCell ⟨p, 2, none⟩ (.int .i64 X) = w1 at *;clear c0 c1 c2 cf hg hs hcur;obtain ⟨c0, c1, c2, cf⟩ := Qi hg1;have hpl1 := Ja hg1;refine Jm 12 (by kernel_rfl) (by kernel_rfl) (by decide) ?_
 iterate 3 refine ds ?_
 refine ds ?_
 iterate 4 refine ds ?_
 refine ds ?_
 iterate 3 refine ds ?_
 intro w1 hb
 (first | (have hcu2 := Cum.join hcu hb; (try clear hcu); (try clear hc); (try clear hfz); (try clear hsz); (try clear hs0); (try clear hs1); (try clear hs2); (try clear hs3); (try clear hs4); ) | have hcu2 := Cum.mk hb); have hcu := hcu2; clear hcu2; obtain ⟨hc, hfz⟩ := JE hcu.h; have hsz := hcu.h.size; (try simp at hsz); (try have hs0 := Jd hsz); (try (have hs1 := Jc hsz; (try (have hs2 := Jc hs1; (try (have hs3 := Jc hs2; (try have hs4 := Jc hs3)))))))
 (try simp only [Act.put, List.setIfInBounds_toArray, List.set_cons_zero, List.set_cons_succ])
 (try simp only [List.drop_succ_cons, List.drop_zero])
 have hg2 := (hb.block p hpl1).trans hg1;have hA2 := hA1.trans (Aside.of_below hb);have hpl2 := Ja hg2;clear c0 c1 c2 cf hg1 hA1 hpl1 hb
 (try clear hcu); (try clear hc); (try clear hfz); (try clear hsz); (try clear hs0); (try clear hs1); (try clear hs2); (try clear hs3); (try clear hs4)
 obtain ⟨c0, c1, c2, cf⟩ := Qi hg2;have hki : (i : Int) <= 9223372036854775806 := by omega
 have hkn : (code.length : Int) <= 9223372036854775806 := by omega
 by_cases hlt : i < code.length
 ·have hlt2 : (i : Int) < code.length := by omega
  have hlt0 : (0 : Int) <= i := by omega
  go_wp2_with fail
  refine Jm 10 (by kernel_rfl) (by kernel_rfl) (by decide) ?_
  iterate 3 refine ds ?_
  refine ds ?_
  iterate 3 refine ds ?_
  refine ds ?_
  iterate 2 refine ds ?_
  intro w1 hb
  (first | (have hcu2 := Cum.join hcu hb; (try clear hcu); (try clear hc); (try clear hfz); (try clear hsz); (try clear hs0); (try clear hs1); (try clear hs2); (try clear hs3); (try clear hs4); ) | have hcu2 := Cum.mk hb); have hcu := hcu2; clear hcu2; obtain ⟨hc, hfz⟩ := JE hcu.h; have hsz := hcu.h.size; (try simp at hsz); (try have hs0 := Jd hsz); (try (have hs1 := Jc hsz; (try (have hs2 := Jc hs1; (try (have hs3 := Jc hs2; (try have hs4 := Jc hs3)))))))
  (try simp only [Act.put, List.setIfInBounds_toArray, List.set_cons_zero, List.set_cons_succ])
  (try simp only [List.drop_succ_cons, List.drop_nil])
  have hg3 := (hb.block p hpl2).trans hg2;have hA3 := hA2.trans (Aside.of_below hb);have hpl3 := Ja hg3;clear c0 c1 c2 cf hg2 hA2 hpl2 hb
  (try clear hcu); (try clear hc); (try clear hfz); (try clear hsz); (try clear hs0); (try clear hs1); (try clear hs2); (try clear hs3); (try clear hs4)
  obtain ⟨c0, c1, c2, cf⟩ := Qi hg3;obtain ⟨A', c', hv, -, -, hbytes⟩ := Hs.out;simp only [Value.slice.injEq, true_and] at hv;obtain ⟨rfl, rfl⟩ := hv;obtain ⟨b, o, rfl, -, hbp, hcell⟩ := hbytes (by omega);obtain ⟨y, hy⟩ := Jg hlt;obtain ⟨es, -, hes, rfl⟩ := hcell i y hy;have hbw : b < w.heap.size := by omega
  have hbne : ¬ b = p := by omega
  have hby : w1.cell? ⟨b, o + i, none⟩ = some (.int .u8 y.toNat) := by
   rw [World.cell?_of_block (hA3.block b hbw hbne)];have := hes 0 (by omega)
   simpa using this
  have hbl3 : b < w1.heap.size := by omega
  have hy8 : (y.toNat : Int) <= 255 := by have := y.toNat_lt; omega
  have hy0 : (0 : Int) <= y.toNat := by omega
  clear hes hcell hbytes hy;go_wp2_with fail
  refine Jm 14 (by kernel_rfl) (by kernel_rfl) (by decide) ?_
  iterate 4 refine ds ?_
  refine ds ?_
  iterate 3 refine ds ?_
  refine ds ?_;refine ds ?_;refine ds ?_
  iterate 3 refine ds ?_
  intro w1 hb
  (first | (have hcu2 := Cum.join hcu hb; (try clear hcu); (try clear hc); (try clear hfz); (try clear hsz); (try clear hs0); (try clear hs1); (try clear hs2); (try clear hs3); (try clear hs4); ) | have hcu2 := Cum.mk hb); have hcu := hcu2; clear hcu2; obtain ⟨hc, hfz⟩ := JE hcu.h; have hsz := hcu.h.size; (try simp at hsz); (try have hs0 := Jd hsz); (try (have hs1 := Jc hsz; (try (have hs2 := Jc hs1; (try (have hs3 := Jc hs2; (try have hs4 := Jc hs3)))))))
  (try simp only [Act.put, List.setIfInBounds_toArray, List.set_cons_zero, List.set_cons_succ])
  (try simp only [List.drop_succ_cons, List.drop_zero])
  have hg4 := (hb.block p hpl3).trans hg3;have hA4 := hA3.trans (Aside.of_below hb);have hpl4 := Ja hg4;clear c0 c1 c2 cf hg3 hA3 hpl3 hb
  (try clear hcu); (try clear hc); (try clear hfz); (try clear hsz); (try clear hs0); (try clear hs1); (try clear hs2); (try clear hs3); (try clear hs4)
  obtain ⟨c0, c1, c2, cf⟩ := Qi hg4;go_wp2_with fail
  go_ret
  refine ⟨_, rfl, (JkO _).1, (JkO _).2, hA4.setCell (p := ⟨p, 1, none⟩) rfl, _, _, i + 1, X, ?_, hXI, by omega, hn, Hs.out.keep (fun b o _ hlt => World.cell?_of_block ((Aside.setCell (p := ⟨p, 1, none⟩) hA4 rfl).block b (by omega) (by omega))) (Nat.le_refl _) (Nat.le_refl _) (fun _ _ _ h => h)⟩;rw [show ((i + 1 : Nat) : Int) = (i : Int) + 1 from by omega];exact heap_setCell_same _ p 1 _ _ _ hg4
 have hlt2 : ¬ (i : Int) < code.length := by omega
 go_wp2_with fail
 refine Jm 10 (by kernel_rfl) (by kernel_rfl) (by decide) ?_
 iterate 3 refine ds ?_
 refine ds ?_
 iterate 3 refine ds ?_
 refine ds ?_
 iterate 2 refine ds ?_
 intro w1 hb
 (first | (have hcu2 := Cum.join hcu hb; (try clear hcu); (try clear hc); (try clear hfz); (try clear hsz); (try clear hs0); (try clear hs1); (try clear hs2); (try clear hs3); (try clear hs4); ) | have hcu2 := Cum.mk hb); have hcu := hcu2; clear hcu2; obtain ⟨hc, hfz⟩ := JE hcu.h; have hsz := hcu.h.size; (try simp at hsz); (try have hs0 := Jd hsz); (try (have hs1 := Jc hsz; (try (have hs2 := Jc hs1; (try (have hs3 := Jc hs2; (try have hs4 := Jc hs3)))))))
 (try simp only [Act.put, List.setIfInBounds_toArray, List.set_cons_zero, List.set_cons_succ])
 (try simp only [List.drop_succ_cons, List.drop_nil])
 have hg3 := (hb.block p hpl2).trans hg2;have hA3 := hA2.trans (Aside.of_below hb);have hpl3 := Ja hg3;clear c0 c1 c2 cf hg2 hA2 hpl2 hb
 (try clear hcu); (try clear hc); (try clear hfz); (try clear hsz); (try clear hs0); (try clear hs1); (try clear hs2); (try clear hs3); (try clear hs4)
 obtain ⟨c0, c1, c2, cf⟩ := Qi hg3;go_wp2_with fail
 go_ret
 exact ⟨_, rfl, (JkO _).1, (JkO _).2, hA3, _, _, i, X, hg3, hXI, hi, hn, Hs.out.keep (fun b o _ hlt => World.cell?_of_block (hA3.block b (by omega) (by omega))) (Nat.le_refl _) (Nat.le_refl _) (fun _ _ _ h => h)⟩
theorem Dr.pre {code : List UInt8} {p : Nat} {a b c : World} (h : Aside (fun b => b = p) a b) (k : Dr code p b c) : Dr code p a c := ⟨h.trans k.aside, k.cur⟩
theorem Dr.alloc {code : List UInt8} {p : Nat} {a b : World} (h : Dr code p a b) (o : Obj) : Dr code p a (b.alloc o) := h.step (QI (Below.refl _ _))
theorem JiS {S : Nat -> Prop} {a b : World} (h : Aside S a b) {q o : Nat} (hq : a.heap.size <= q) (u : Value) : Aside S a (b.setCell ⟨q, o, none⟩ u) :=
 ⟨h.os, h.tape, h.output, by have := h.size; simp [World.setCell]; omega, fun i hi hn => (Below.heap_setCell b ⟨q, o, none⟩ u i (by simp; omega)).trans (h.block i hi hn)⟩
theorem Dr.set {code : List UInt8} {p : Nat} {a b : World} (h : Dr code p a b) (hp : p < a.heap.size) {q o : Nat} (hq : a.heap.size <= q) (u : Value) : Dr code p a (b.setCell ⟨q, o, none⟩ u) :=
 ⟨JiS h.aside hq u, h.cur.keep (fun i hle => Below.heap_setCell b ⟨q, o, none⟩ u i (by simp; omega))⟩
theorem Dr.cut {code : List UInt8} {p : Nat} {a b : World} {o : Obj} (h : Dr code p (a.alloc o) b) : Dr code p a b := Dr.pre (Vn (Aside.refl _ _)) h
theorem Dr.block {code : List UInt8} {p : Nat} {a b : World} (h : Dr code p a b) {g : Nat} (hg : g < a.heap.size) (hp : g ≠ p) : b.heap[g]? = a.heap[g]? := h.aside.block g hg hp
theorem Dr.size {code : List UInt8} {p : Nat} {a b : World} (h : Dr code p a b) : a.heap.size <= b.heap.size := h.aside.size
theorem Jah (w : World) (ss : List ByteArray) (hs : ∀ s ∈ ss, s.size <= 9223372036854775807) (hn : ss.length <= 9223372036854775807) (ty : TypeId) (cs : Array Value) (hc : cs = (ss.map Value.string).toArray) :
  Sl_Str w.heap.size (w.alloc (.cells cs ty)).heap.size (w.alloc (.cells cs ty)) ss (.slice (some ⟨w.heap.size, 0, none⟩) ss.length ss.length) := by
 subst hc;refine ⟨_, _, rfl, Nat.le_refl _, hn, fun _ => ⟨w.heap.size, 0, rfl, Nat.le_refl _, by simp, fun i d hd => ⟨[.string d], rfl, fun j hj => ?_, rfl, hs d (List.mem_of_getElem? hd)⟩⟩⟩;obtain rfl : j = 0 := by omega
 rw [cell_of_row _ _ _ _ _ _ (heap_alloc_new w _)];simp [hd]
theorem JC (code : List UInt8) (p : Nat) (n : Int) (w : World) (h : CurAt code p w) (hn : -9223372036854775808 <= n /\ n <= 9223372036854775807) :
  Calls Tryz.prog 88 #[.pointer (some ⟨p, 0, none⟩), .int .i64 n] w fun e w' => ∃ x : Int, e = .returned (.int .i64 x) /\ 0 <= x /\ (0 < n -> x < n) /\ (n <= 0 -> x = 0) /\ Dr code p w w' := by
 obtain ⟨hn1, hn2⟩ := hn;have H := Lib.hid h;clear h;by_cases h0 : n <= 0
 ·go_enter Tryz.func88, Tryz.ntmps88
  go_wp2_with fail
  go_ret
  exact ⟨0, rfl, Int.le_refl _, fun h => by omega, fun _ => rfl, Dr.refl H.out⟩
 have h1 : 0 < n := by omega
 by_cases h2 : n <= 256
 ·go_enter Tryz.func88, Tryz.ntmps88
  go_wp2_with fail
  refine (Ya code p _ H.out).mono ?_;rintro e w1 ⟨x, rfl, hx0, hx1, hd⟩;have HD := Lib.hid hd;clear hd;go_wp2_with fail
  go_ret
  exact ⟨_, rfl, Int.emod_nonneg _ (by omega), fun _ => Int.emod_lt_of_pos _ h1, fun h => by omega, HD.out⟩
 go_enter Tryz.func88, Tryz.ntmps88
 go_wp2_with fail
 refine (Ya code p _ H.out).mono ?_;rintro e w1 ⟨x, rfl, hx0, hx1, hd⟩;have HD := Lib.hid hd;clear hd;go_wp2_with fail
 refine (Ya code p _ HD.out.cur).mono ?_;rintro e w2 ⟨y, rfl, hy0, hy1, hd⟩;have HD2 := Lib.hid (HD.out.trans hd);clear hd;go_wp2_with fail
 refine (Ya code p _ HD2.out.cur).mono ?_;rintro e w3 ⟨z, rfl, hz0, hz1, hd⟩;have HD3 := Lib.hid (HD2.out.trans hd);clear hd;go_wp2_with fail
 refine (Ya code p _ HD3.out.cur).mono ?_;rintro e w4 ⟨u, rfl, hu0, hu1, hd⟩;have HD4 := Lib.hid (HD3.out.trans hd);clear hd;go_wp2_with fail
 go_ret
 exact ⟨_, rfl, Int.emod_nonneg _ (by omega), fun _ => Int.emod_lt_of_pos _ h1, fun h => by omega, HD4.out⟩
theorem YL (code : List UInt8) (p : Nat) (n : Int) (w : World) (h : CurAt code p w) (hn : -9223372036854775808 <= n /\ n <= 9223372036854775807) :
  Calls Tryz.prog 87 #[.pointer (some ⟨p, 0, none⟩), .int .i64 n] w fun e w' => ∃ x : Bool, e = .returned (.bool x) /\ Dr code p w w' := by
 go_enter Tryz.func87, Tryz.ntmps87
 go_wp2_with fail
 refine (JC code p n _ h hn).mono ?_;rintro e w1 ⟨x, rfl, -, -, -, hd⟩;go_wp2_with fail
 go_ret
 exact ⟨_, rfl, hd⟩
theorem Wi (code : List UInt8) (p : Nat) (l : List ByteArray) (v : Value) (lo : Nat) (w : World) (h : CurAt code p w) (hl : Sl_Str lo w.heap.size w l v) (hp : p < lo) (h1 : 0 < l.length) (h2 : l.length <= 1048576) :
  Calls Tryz.prog 169 #[.pointer (some ⟨p, 0, none⟩), v] w fun e w' => ∃ s : ByteArray, e = .returned (.string s) /\ s ∈ l /\ Dr code p w w' := by
 have Hl := Lib.hid hl;obtain ⟨A, c, rfl, hlc, hc, hA⟩ := hl;obtain ⟨b, o, rfl, hb1, hb2, hcell⟩ := hA h1;have hi1 : (0 : Int) < l.length := by omega
 have HC := Lib.hid hcell;clear hA hcell;go_enter Tryz.func169, Tryz.ntmps169
 go_wp2_with fail
 refine (JC code p l.length _ h (by omega)).mono ?_;rintro e w1 ⟨x, rfl, hx0, hx1, -, hd⟩;have hx2 := hx1 hi1;obtain ⟨k, rfl⟩ : ∃ k : Nat, x = k := ⟨x.toNat, by omega⟩
 obtain ⟨s, hs⟩ := Jg (show k < l.length by omega);obtain ⟨es, -, hes, rfl, -⟩ := HC.out k s hs
 have hy : w1.cell? ⟨b, o + k, none⟩ = some (.string s) := by
  have := hes 0 (by omega);rw [hd.cell hb2 (by omega)]
  simpa using this
 have Hs := Lib.hid (List.mem_of_getElem? hs);clear hes hs hx1;have HD := Lib.hid hd;clear hd;go_wp2_with fail
 go_ret
 exact ⟨s, rfl, Hs.out, HD.out⟩
theorem Jif (n : Int) : bits .and .i64 n 1073741823 = n % 1073741824 := by
 have h255 : (BitVec.ofInt 64 1073741823).toNat = 2 ^ 30 - 1 := by decide
 have key : (BitVec.ofInt 64 n &&& BitVec.ofInt 64 1073741823).toNat = (n % ((2 ^ 64 : Nat) : Int)).toNat % 2 ^ 30 := by
  rw [BitVec.toNat_and, BitVec.toNat_ofInt, h255, Nat.and_two_pow_sub_one_eq_mod]
 show IntKind.i64.wrap ((BitVec.ofInt 64 n &&& BitVec.ofInt 64 1073741823).toNat : Nat) = n % 1073741824
 rw [key, IntKind.wrap_i64];omega
theorem JkK (n : Int) : QA (n % 1073741824) := by unfold QA; omega
theorem JjV (code : List UInt8) (v : Value) (lo : Nat) (w : World) (hs : SlOf Z9 1 lo w.heap.size w code v) (hn : code.length <= 1048576) :
  Calls Tryz.prog 80 #[v] w fun e w' => ∃ p : Nat, e = .returned (.pointer (some ⟨p, 0, none⟩)) /\ w.heap.size <= p /\ CurAt code p w' /\ Below w.heap.size w w' := by
 have Hs := Lib.hid hs;obtain ⟨A, c, rfl, hlc, hc, hA⟩ := hs;have HA := Lib.hid hA;have hand := Jif;clear hA;go_enter Tryz.func80, Tryz.ntmps80
 go_wp2_with fail
 go_loopw [3, 4] (fun s3 s4 wr => ∃ (x : Int) (k : Nat), s3 = .int .i64 x /\ QA x /\ s4 = .int .i64 k /\ k <= code.length /\ wr = w) (fun _ s4 _ => code.length - (intOf s4).toNat)
 case atStart => exact ⟨_, 0, rfl, ⟨by omega, by omega⟩, rfl, Nat.zero_le _, rfl⟩
 case round =>
  obtain ⟨x, k, rfl, hx, rfl, hk, rfl⟩ := hrel;have Hx := Lib.hid hx;clear hx
  have fin : CurAt code wr.heap.size (wr.alloc (.cells #[.slice A code.length c, .int .i64 0, .int .i64 x] 136)) :=
   ⟨A, c, 0, x, heap_alloc_new _ _, Hx.out, Nat.zero_le _, hn, Hs.out.keep (fun b o _ hlt => World.cell?_of_block (Below.heap_alloc _ _ _ hlt)) (Nat.zero_le _) (Nat.le_refl _) (fun _ _ _ h => h)⟩
  have Fin := Lib.hid fin;clear fin;by_cases hlt : k < code.length
  focus
   by_cases h4 : k < 4000
   ·obtain ⟨b, o, rfl, -, hbp, hcell⟩ := HA.out (by omega)
    obtain ⟨y, hy⟩ := Jg hlt;obtain ⟨es, -, hes, rfl⟩ := hcell k y hy
    have hby : wr.cell? ⟨b, o + k, none⟩ = some (.int .u8 y.toNat) := by
     have := hes 0 (by omega)
     simpa using this
    have hk0 : (0 : Int) <= k := by omega
    have hk1 : (k : Int) < code.length := by omega
    have hk2 : (k : Int) < 4000 := by omega
    have hy8 : (y.toNat : Int) <= 255 := by have := y.toNat_lt; omega
    have hy0 : (0 : Int) <= y.toNat := by omega
    clear hes hcell hy;go_wp2_with fail
    go_roundw
    case rel => exact ⟨_, k + 1, rfl, JkK _, by go_num, by omega, by first | trivial | rfl⟩
    case measure => simp [intOf]; omega
   have hk1 : (k : Int) < code.length := by omega
   have hk2 : ¬ (k : Int) < 4000 := by omega
  rotate_left
  focus
   have hk1 : ¬ (k : Int) < code.length := by omega
  rotate_left
  all_goals
   go_wp2_with fail
   go_ret
   exact ⟨_, rfl, Nat.le_refl _, Fin.out, Jj⟩
theorem Jcz (code : List UInt8) (A : Option Addr) (c : Nat) (w : World) (h : code.length <= 1048576) :
  Calls Tryz.prog 16 #[.slice A code.length c] w fun e w' => e = .returned (.bool false) /\ w = w' := by
 have h1 : ¬ (1048576 : Int) < code.length := by omega
 have h2 : decide ((1048576 : Int) < code.length) = false := JmF h1;go_enter Tryz.func16, Tryz.ntmps16
 go_wp2_with fail
 go_ret
 exact ⟨by first | rfl | (rw [h2]; rfl), rfl⟩
theorem Jcb (code : List UInt8) (A : Option Addr) (c : Nat) (w : World) (h : ¬ code.length <= 1048576) :
  Calls Tryz.prog 16 #[.slice A code.length c] w fun e w' => e = .returned (.bool true) /\ w = w' := by
 have h1 : (1048576 : Int) < code.length := by omega
 have h2 : decide ((1048576 : Int) < code.length) = true := JmG h1;go_enter Tryz.func16, Tryz.ntmps16
 go_wp2_with fail
 go_ret
 exact ⟨by first | rfl | (rw [h2]; rfl), rfl⟩
section
variable {H : Type} {enc : TypeId × Value -> H} {w : World} {base : Nat} {spare : Nat -> Bool} {held : Bool} {fuel : Nat} {cs : List Value} {x : DataW H × List MemPlace} {r : Reach} {b0 : Nat} {v : Value} {d : DataW H} {p : List MemPlace}
theorem JkM {t : TypeId} (ht : Tryz.prog.underlying t = some (.int .u8)) (h : DataW.trod enc Tryz.prog w base spare held fuel t cs = some x) : ∃ b : UInt8, Z9 b cs := by
 obtain ⟨n, h1, -, h2⟩ := DataW.trod_int ht h
 have hn : 0 <= n /\ n <= 255 := by
  simp [Lit.wf, IntKind.min, IntKind.max, IntKind.signed, IntKind.bits] at h2;omega
 refine ⟨UInt8.ofNat n.toNat, ?_⟩;unfold Z9;rw [h1, UInt8.toNat_ofNat'];congr 2
 omega
theorem JkX (h : DataW.trod enc Tryz.prog w base spare held fuel 28 cs = some x) : ∃ v l, cs = [v] /\ SlOf Z9 1 0 w.heap.size w l v :=
 Jfi Z9 Tryz.underlying28 (by kernel_rfl) (by decide) h (fun _ _ _ h' => JkM Tryz.underlying5 h')
abbrev JhM (w : World) (l : List UInt8) (v : Value) : Prop := SlOf Z9 1 0 w.heap.size w l v
theorem Jk0 (hv : Value.okWide Tryz.prog w r b0 28 v) (h : DataW.Trod enc Tryz.prog w base spare held 28 v d p) : ∃ x, JhM w x v := by
 obtain ⟨a, len, cap, rfl⟩ := okWide_slice Tryz.underlying28 hv;obtain ⟨fuel, hf⟩ := h;obtain ⟨v', l, he, hs⟩ := JkX hf;simp [Value.cells] at he;subst he;exact ⟨l, hs⟩
end
theorem JeJ (acc : List UInt8) : QH acc [] = [acc] := rfl
theorem Jea (acc r : List UInt8) : QH acc (10 :: r) = acc :: QH [] r := rfl
theorem Jeo {c : UInt8} (hc : ¬ c = 10) (acc r : List UInt8) : QH acc (c :: r) = QH (acc ++ [c]) r := if_neg hc
structure CutAt (s : ByteArray) (b i : Nat) (done : List ByteArray) : Prop where
 run : (i <= s.size /\ b <= i /\ done.map (fun x => x.data.toList) ++ QH ((s.data.toList.drop b).take (i - b)) (s.data.toList.drop i) = QH [] s.data.toList) ∨ (i = s.size + 1 /\ done.map (fun x => x.data.toList) = QH [] s.data.toList)
theorem CutAt.start (s : ByteArray) : CutAt s 0 0 [] := ⟨.inl ⟨Nat.zero_le _, Nat.le_refl _, rfl⟩⟩
theorem Jlz (s : ByteArray) (b i : Nat) : (s.extract b i).data.toList = (s.data.toList.drop b).take (i - b) := by
 rw [extract_eq]
theorem CutAt.in' {s : ByteArray} {b i : Nat} {done : List ByteArray} (h : CutAt s b i done) (hi : i < s.size) : b <= i /\ done.map (fun x => x.data.toList) ++ QH ((s.data.toList.drop b).take (i - b)) (s.get! i :: s.data.toList.drop (i + 1)) = QH [] s.data.toList := by
 rcases h.run with ⟨h1, h2, h3⟩ | ⟨h1, -⟩
 ·rw [YO hi] at h3
  exact ⟨h2, h3⟩
 omega
theorem CutAt.cut {s : ByteArray} {b i : Nat} {done : List ByteArray} (h : CutAt s b i done) (hi : i < s.size) (hb : Jb s i = 10) : CutAt s (i + 1) (i + 1) (done ++ [s.extract b i]) := by
 obtain ⟨h2, h3⟩ := h.in' hi;have e : s.get! i = 10 := by have := @VN s i 10; rw [hb] at this; exact beq_iff_eq.1 (by rw [this]; rfl)
 rw [e, Jea] at h3;refine ⟨.inl ⟨hi, Nat.le_refl _, ?_⟩⟩;rw [List.map_append, List.append_assoc, Nat.sub_self, List.take_zero, <- h3];simp only [List.map_cons, List.map_nil, List.cons_append, List.nil_append, Jlz]
theorem CutAt.on {s : ByteArray} {b i : Nat} {done : List ByteArray} (h : CutAt s b i done) (hi : i < s.size) (hb : Jb s i ≠ 10) : CutAt s b (i + 1) done := by
 obtain ⟨h2, h3⟩ := h.in' hi;have e : ¬ s.get! i = 10 := fun e => hb (by unfold Jb; rw [e]; rfl)
 rw [Jeo e] at h3;refine ⟨.inl ⟨hi, by omega, ?_⟩⟩;rw [<- h3];congr 2
 have hl : s.data.toList.length = s.size := Jp s;have e2 : i + 1 - b = (i - b) + 1 := by omega
 have e3 : (s.data.toList.drop b)[i - b]? = some (s.get! i) := by rw [List.getElem?_drop, show b + (i - b) = i by omega, J7 hi]
 rw [e2, List.take_add_one, e3];rfl
theorem CutAt.last {s : ByteArray} {b : Nat} {done : List ByteArray} (h : CutAt s b s.size done) : CutAt s (s.size + 1) (s.size + 1) (done ++ [s.extract b s.size]) := by
 rcases h.run with ⟨h1, h2, h3⟩ | ⟨h1, -⟩
 ·rw [ZF (Nat.le_refl _), JeJ] at h3
  refine ⟨.inr ⟨rfl, ?_⟩⟩;rw [List.map_append, <- h3];simp only [List.map_cons, List.map_nil, Jlz]
 omega
theorem CutAt.done {s : ByteArray} {b i : Nat} {done : List ByteArray} (h : CutAt s b i done) (hi : s.size < i) : done.map (fun x => x.data.toList) = QH [] s.data.toList := by
 rcases h.run with ⟨h1, -, -⟩ | ⟨-, h2⟩
 ·omega
 exact h2
theorem CutAt.begin {s : ByteArray} {b i : Nat} {done : List ByteArray} (h : CutAt s b i done) (hi : i <= s.size) : b <= i := by
 rcases h.run with ⟨h1, h2, -⟩ | ⟨h1, h2⟩ <;> omega
theorem JfT (s : ByteArray) (w : World) (hs : s.size <= 20000) :
  Calls Tryz.prog 54 #[.string s, .int .u8 10] w fun e w' => ∃ (l : List ByteArray) (v : Value), e = .returned v /\ l.map (fun x => x.data.toList) = QH [] s.data.toList /\ l.length <= s.size + 1 /\ RowE JiQ 1 9 w.heap.size w' l v /\ Below w.heap.size w w' := by
 obtain ⟨i0, hi, hz0, hz1, hz2⟩ := info_parts (show (Tryz.prog.info? 9).map (fun i => (i.zero, i.size, i.bytes)) = some (some (.string ⟨#[]⟩), 1, 16) from by kernel_rfl);have HS := hid (CutAt.start s);go_enter Tryz.func54, Tryz.ntmps54
 go_wp2_with fail
 go_loopw [5, 6, 7] (fun s5 s6 s7 wr => ∃ (l : List ByteArray) (b i : Nat), s6 = .int .i64 b /\ s7 = .int .i64 i /\ i <= s.size + 1 /\ l.length <= i /\ CutAt s b i l /\ RowE JiQ 1 9 w.heap.size wr l s5 /\ Below w.heap.size w wr) (fun _ _ s7 _ => s.size + 1 - (intOf s7).toNat)
 case atStart => exact ⟨[], 0, 0, rfl, rfl, Nat.zero_le _, Nat.le_refl _, HS.out, JV rfl (Nat.le_refl _), Jj⟩
 case round =>
  obtain ⟨l, b, i, rfl, rfl, hi1, hl, hc, hR, hB⟩ := hrel;obtain ⟨A, c, rfl⟩ := hR.form;have HR := hid hR;have HC := hid hc;have HB := hid hB;have hwz := hB.size;clear hR hc hB;obtain ⟨k, hk⟩ : ∃ k, k = l.length := ⟨_, rfl⟩
  have HL := hid hk;rw [<- hk] at HR ⊢;have hlk : k <= i := by omega
  clear hk hl;by_cases hle : (i : Int) <= s.size
  ·have hd : decide ((i : Int) <= s.size) = true := JmG hle
   have hbi := HC.out.begin (by omega);have hbi0 : (b : Int) <= i := by omega
   rcases Nat.lt_or_ge i s.size with hii | hge
   ·have he : ((i : Int) == s.size) = false := JmH (by omega)
    have hz : (0 : Int) <= i := by omega
    have hlt : (i : Int) < s.size := by omega
    obtain ⟨x, hxx⟩ : ∃ x : Nat, x = (s.get! i).toNat := ⟨_, rfl⟩
    have hx : (s[i]'hii).toNat = x := by rw [hxx]; exact JA s i hii
    have HY : Hid (Jb s i = x) := hid (by unfold Jb; rw [hxx]);clear hxx;by_cases h10 : (x : Int) = 10
    ·have h1 : ((x : Int) == 10) = true := beq_iff_eq.2 h10
     go_wp2_with (at_builtin; go_loud (refine QK (C := Jho) rfl (.tmp 26) (.tmp 31) 31 rfl w.heap.size 9 i0 (.string ⟨#[]⟩) 1 16 Tryz.underlying31 hi hz0 hz1 hz2 rfl (by decide) Jbm Jfj Jjq _ k l rfl HL.out.symm (HR.out.below Jj) [s.extract b i] (some ⟨_, 0, none⟩) 1 1 _ _ rfl rfl (Jah wr [s.extract b i] (fun x hx => by simp at hx; rw [hx, ByteArray.size_extract]; omega) (by simp) 9 _ rfl) (by unfold maxLen; omega) (by omega) (by simp; omega) ?_))
     intro v' w4 hR4 hg4 ha4;obtain ⟨A4, c4, rfl⟩ := hR4.form;have HR4 := hid hR4;have hb4 : Below w.heap.size wr w4 := Below.grown ((Jj : Below wr.heap.size wr _).mono hwz) hg4 (by simp; omega) (fun q hq => (World.ownsRow.lt HR.out q hq).1);have HB4 := hid (HB.out.trans hb4);clear hR4 hg4 ha4 hb4;go_wp2_with fail
     go_roundw
     case rel => exact ⟨l ++ [s.extract b i], i + 1, i + 1, by go_num, by go_num, by omega, by rw [List.length_append, <- HL.out]; simp; omega, HC.out.cut hii (by rw [HY.out]; exact h10), HR4.out, HB4.out⟩
     case measure => first | omega | (simp [intOf]; done) | (simp [intOf]; omega)
    have h1 : ((x : Int) == 10) = false := JmH h10;go_wp2_with fail
    go_roundw
    case rel => exact ⟨l, b, i + 1, rfl, by go_num, by omega, by rw [<- HL.out]; omega, HC.out.on hii (by rw [HY.out]; exact h10), HR.out, HB.out⟩
    case measure => first | omega | (simp [intOf]; done) | (simp [intOf]; omega)
   obtain rfl : i = s.size := by omega
   go_wp2_with (at_builtin; go_loud (refine QK (C := Jho) rfl (.tmp 26) (.tmp 31) 31 rfl w.heap.size 9 i0 (.string ⟨#[]⟩) 1 16 Tryz.underlying31 hi hz0 hz1 hz2 rfl (by decide) Jbm Jfj Jjq _ k l rfl HL.out.symm (HR.out.below Jj) [s.extract b s.size] (some ⟨_, 0, none⟩) 1 1 _ _ rfl rfl (Jah wr [s.extract b s.size] (fun x hx => by simp at hx; rw [hx, ByteArray.size_extract]; omega) (by simp) 9 _ rfl) (by unfold maxLen; omega) (by omega) (by simp; omega) ?_))
   intro v' w4 hR4 hg4 ha4;obtain ⟨A4, c4, rfl⟩ := hR4.form;have HR4 := hid hR4;have hb4 : Below w.heap.size wr w4 := Below.grown ((Jj : Below wr.heap.size wr _).mono hwz) hg4 (by simp; omega) (fun q hq => (World.ownsRow.lt HR.out q hq).1);have HB4 := hid (HB.out.trans hb4);clear hR4 hg4 ha4 hb4;go_wp2_with fail
   go_roundw
   case rel => exact ⟨l ++ [s.extract b s.size], s.size + 1, s.size + 1, by go_num, by go_num, by omega, by rw [List.length_append, <- HL.out]; simp; omega, HC.out.last, HR4.out, HB4.out⟩
   case measure => first | omega | (simp [intOf]; done) | (simp [intOf]; omega)
  have hd : decide ((i : Int) <= s.size) = false := JmF hle;go_wp2_with fail
  go_ret
  exact ⟨l, _, rfl, HC.out.done (by omega), by rw [<- HL.out]; omega, HR.out, HB.out⟩
def YA (x : LineD) : List Value := [.int .i64 (x.ind : Nat), .string x.text, .int .i64 (x.at' : Nat)]
theorem YM (x : LineD) : (YA x).length = 3 := rfl
theorem Jdl (d : LineD) : ∀ v ∈ YA d, v.oneCell' = true := by intro u hu; simp [YA] at hu; rcases hu with rfl | rfl | rfl <;> rfl
def Jl7 (d : LineD) (cs : List Value) : Prop := cs = YA d
theorem JhC (d : LineD) (es : List Value) (h : Jl7 d es) : es = YA d := h
structure LnAt (s : ByteArray) (P : List ByteArray) (i : Nat) (L : List LineD) : Prop where
 fit : (QN s).code = 0
 cut : P.map (fun x => x.data.toList) = QH [] s.data.toList
 low : ∀ j, j < i -> ∀ x, P[j]? = some x -> Zf x.data.toList = false
 out : L = Zz (QH [] s.data.toList) i
 size : L.length <= i
theorem LnAt.start {s : ByteArray} {P : List ByteArray} (h : (QN s).code = 0) (hc : P.map (fun x => x.data.toList) = QH [] s.data.toList) : LnAt s P 0 [] :=
 ⟨h, hc, fun j hj => absurd hj (by omega), rfl, Nat.le_refl _⟩
theorem LnAt.at' {s : ByteArray} {P : List ByteArray} {i : Nat} {L : List LineD} (h : LnAt s P i L) {x : ByteArray} (hx : P[i]? = some x) : (QH [] s.data.toList)[i]? = some x.data.toList := by
 rw [<- h.cut, List.getElem?_map, hx];rfl
theorem LnAt.next {s : ByteArray} {P : List ByteArray} {i : Nat} {L : List LineD} (h : LnAt s P i L) {x : ByteArray} (hx : P[i]? = some x) (hl : Zf x.data.toList = false) : LnAt s P (i + 1) (L ++ Zr (i + 1) x.data.toList) := by
 refine ⟨h.fit, h.cut, fun j hj y hy => ?_, ?_, ?_⟩
 ·rcases Nat.lt_or_ge j i with g | g
  ·exact h.low j g y hy
  rw [show j = i by omega, hx] at hy;cases hy
  exact hl
 ·show _ = Zz (QH [] s.data.toList) i ++ _
  rw [h.at' hx, <- h.out]
 rw [List.length_append];have : (Zr (i + 1) x.data.toList).length <= 1 := by unfold Zr; split <;> simp
 have := h.size;omega
theorem LnAt.skip {s : ByteArray} {P : List ByteArray} {i : Nat} {L : List LineD} (h : LnAt s P i L) {x : ByteArray} (hx : P[i]? = some x) (hl : Zf x.data.toList = false) (hb : JK x.data.toList = []) : LnAt s P (i + 1) L := by
 have := h.next hx hl;unfold Zr at this;rw [if_pos hb, List.append_nil] at this;exact this
theorem LnAt.add {s : ByteArray} {P : List ByteArray} {i : Nat} {L : List LineD} (h : LnAt s P i L) {x : ByteArray} (hx : P[i]? = some x) (hl : Zf x.data.toList = false) (hb : ¬ JK x.data.toList = []) : LnAt s P (i + 1) (L ++ [⟨Vh (JK x.data.toList), bs (trimLeftB (JK x.data.toList) 32), i + 1⟩]) := by
 have := h.next hx hl;unfold Zr at this;rw [if_neg hb] at this;exact this
theorem WM {s : ByteArray} (h : ¬ (QN s).code = 0) : JM s = ([], QN s) := by
 unfold JM;rw [if_pos h]
theorem LnAt.bad {s : ByteArray} {P : List ByteArray} {i : Nat} {L : List LineD} (h : LnAt s P i L) {x : ByteArray} (hx : P[i]? = some x) (hl : Zf x.data.toList = true) : JM s = ([], ⟨3, ((i + 1 : Nat) : Int), ⟨#[]⟩⟩) := by
 have e : (QH [] s.data.toList).findIdx? Zf = some i := by
  rw [List.findIdx?_eq_some_iff_getElem];obtain ⟨h1, h2⟩ := List.getElem?_eq_some_iff.1 (h.at' hx);refine ⟨h1, by rw [h2]; exact hl, fun j hj => ?_⟩
  have hjl : j < P.length := by
   have := congrArg List.length h.cut;rw [List.length_map] at this;omega
  have h3 := h.low j hj P[j] (List.getElem?_eq_getElem hjl);have h4 : (QH [] s.data.toList)[j]? = some P[j].data.toList := by rw [<- h.cut, List.getElem?_map, List.getElem?_eq_getElem hjl]; rfl
  rw [List.getElem?_eq_getElem (by omega)] at h4;rw [Option.some.inj h4, h3];decide
 unfold JM;rw [if_neg (by rw [h.fit]; decide), e]
theorem LnAt.end' {s : ByteArray} {P : List ByteArray} {i : Nat} {L : List LineD} (h : LnAt s P i L) (hi : i = P.length) : JM s = (L, Jv) := by
 have hlen : (QH [] s.data.toList).length = P.length := by rw [<- h.cut, List.length_map]
 have e : (QH [] s.data.toList).findIdx? Zf = none := by
  rw [List.findIdx?_eq_none_iff];intro y hy;rw [<- h.cut] at hy;obtain ⟨x, hx, rfl⟩ := List.mem_map.1 hy;obtain ⟨j, hj⟩ := List.getElem?_of_mem hx;exact h.low j (by have := (List.getElem?_eq_some_iff.1 hj).1; omega) x hj
 unfold JM;rw [if_neg (by rw [h.fit]; decide), e, h.out, hi, hlen]
theorem Z8 : ∀ (l acc p : List UInt8), p ∈ QH acc l -> p.length <= acc.length + l.length
 | [], acc, p, h => by
  rw [JeJ] at h;simp at h;rw [h];exact Nat.le_refl _
 | c :: l, acc, p, h => by
  by_cases hc : c = 10
  ·subst hc
   rw [Jea] at h;rcases List.mem_cons.1 h with rfl | h
   ·exact Nat.le_add_right _ _
   have := Z8 l [] p h;simp at this;simp;omega
  rw [Jeo hc] at h;have := Z8 l (acc ++ [c]) p h;simp at this;simp;omega
theorem LnAt.small {s : ByteArray} {P : List ByteArray} {i : Nat} {L : List LineD} (h : LnAt s P i L) {x : ByteArray} (hx : P[i]? = some x) : x.size <= s.size := by
 have h1 := List.mem_of_getElem? (h.at' hx);have h2 := Z8 _ _ _ h1;rw [Jp, Jp] at h2;simp at h2;exact h2
theorem JlV {x : ByteArray} (h : ∀ t, t < x.size -> 32 <= Jb x t) : Zf x.data.toList = false := by
 unfold Zf;rw [List.any_eq_false];intro c hc;obtain ⟨t, ht⟩ := List.getElem?_of_mem hc;have hl : t < x.size := by rw [<- Jp]; exact (List.getElem?_eq_some_iff.1 ht).1
 rw [J7 hl] at ht;have := h t hl;cases ht
 unfold Jb at this;simp;omega
theorem Jhy {x : ByteArray} {t : Nat} (ht : t < x.size) (h : Jb x t < 32) : Zf x.data.toList = true := by
 unfold Zf;rw [List.any_eq_true];refine ⟨x.get! t, List.mem_of_getElem? (J7 ht), ?_⟩;unfold Jb at h;simp;omega
theorem Jc2 (l : List UInt8) (c : UInt8) : trimLeftB l c = l.drop (l.length - (trimLeftB l c).length) := List.suffix_iff_eq_drop.1 (List.dropWhile_suffix _)
theorem Jer (l : List UInt8) : (bs l).extract (Vh l) (bs l).size = bs (trimLeftB l 32) := by
 rw [extract_from, Jc2 l 32];rfl
theorem XV (l : List UInt8) : (JK l).length <= l.length := by
 unfold JK;exact Nat.le_trans (Jij _ _) (by rw [List.length_take]; exact Nat.min_le_right _ _)
end Go.Proofs.YtohcpifekcehjaaGreatDoor
