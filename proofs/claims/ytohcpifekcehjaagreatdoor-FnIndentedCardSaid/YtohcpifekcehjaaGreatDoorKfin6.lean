/- Steps to FnIndented. No conditions. -/
import Derived.Test.YtohcpifekcehjaaGreatDoorKfin3
import Derived.Test.YtohcpifekcehjaaGreatDoorKfin5
import Derived.Test.YtohcpifekcehjaaGreatDoorKfin2
import Derived.Sort.Statements
import Derived.Test.YtohcpifekcehjaaGreatDoorKfin1
import Derived.RowKit
import Derived.Shelf.LaysC
import Derived.Shelf.Strconv.AtoiAll
import Derived.Test.YtohcpifekcehjaaGreatDoorKfin4
import Derived.Deep.CutBlock
import Derived.Deep.CutRange
import Derived.Shelf.Lays
import Derived.Shelf.Strings.Prefix
import Derived.Laws.BitsLemmas
import Derived.Deep.Cut
import Derived.Deep.RegionLaw
import Derived.Lib.Split
import Derived.Lib.SplitLaws
import Derived.Lib.Replace
import Derived.Lib.SpaceUEq
import Derived.SizedLaws
import Derived.Shelf.Vars
set_option maxHeartbeats 16000000
set_option maxRecDepth 20000
namespace Go.Proofs.YtohcpifekcehjaaGreatDoor
open Go.RowKit Go.Lib
theorem get_byte (s : ByteArray) (i : Nat) (h : i < s.size) : (s[i]'h).toNat = (s.get! i).toNat := by
 show _ = (s.data[i]!).toNat
 rw [getElem!_pos s.data i h]
 rfl
theorem c_TrimLeft (s : ByteArray) (w : World) : Calls Tryz.prog 175 #[.string s, .string ⟨#[32]⟩] w fun e w' => e = .returned (.string (bs (trimLeftB s.data.toList 32))) /\ w = w' := by
 have h := Any.strings_TrimLeft_one laysTrimL s 32 (by decide) w
 change Calls Tryz.prog 175 _ _ _ at h
 exact h.mono (fun _ _ h => ⟨h.1, h.2.symm⟩)
theorem c_TrimRight (s : ByteArray) (w : World) (hs : s.size <= 9223372036854775807) : Calls Tryz.prog 174 #[.string s, .string ⟨#[32]⟩] w fun e w' => e = .returned (.string (bs (trimRightB s.data.toList 32))) /\ w = w' := by
 have h := Any.strings_TrimRight_one laysTrimR s 32 (by decide) w hs
 change Calls Tryz.prog 174 _ _ _ at h
 exact h.mono (fun _ _ h => ⟨h.1, h.2.symm⟩)
theorem trimL_len (l : List UInt8) (c : UInt8) : (trimLeftB l c).length <= l.length := (List.dropWhile_sublist _).length_le
theorem trimR_len (l : List UInt8) (c : UInt8) : (trimRightB l c).length <= l.length := by unfold trimRightB; rw [List.length_reverse]; exact Nat.le_trans (List.dropWhile_sublist _).length_le (Nat.le_of_eq List.length_reverse)
theorem list_size (s : ByteArray) : s.data.toList.length = s.size := Array.length_toList
theorem byte_list {s : ByteArray} {i : Nat} (h : i < s.size) : s.data.toList[i]? = some (s.get! i) := by
 have h2 : i < s.data.toList.length := by rw [list_size]; exact h
 rw [List.getElem?_eq_getElem h2, Array.getElem_toList]
 congr 1
 exact (getElem!_pos s.data i h).symm
theorem c_impl_IndentOf (s : ByteArray) (w : World) (hs : s.size <= 1048576) :
  Calls Tryz.prog 96 #[.string s] w fun e w' => e = .returned (.int .i64 (indL s.data.toList : Nat)) /\ w = w' := by
 have hl := trimL_len s.data.toList 32
 have hz : (bs (trimLeftB s.data.toList 32)).size = (trimLeftB s.data.toList 32).length := size_mk _
 have hk : ((indL s.data.toList : Nat) : Int) = (s.size : Int) - ((bs (trimLeftB s.data.toList 32)).size : Int) := by unfold indL; rw [hz, list_size] at *; omega
 rw [list_size] at hl
 obtain ⟨t, ht⟩ : ∃ t, t = bs (trimLeftB s.data.toList 32) := ⟨_, rfl⟩
 have K := hid (c_TrimLeft s w)
 rw [<- ht] at K hz hk
 rw [hk]
 have htz : t.size <= 1048576 := by omega
 clear ht hk hl hz
 go_enter Tryz.func96, Tryz.ntmps96
 go_wp2_with fail
 refine K.out.mono ?_
 rintro e w1 ⟨rfl, rfl⟩
 go_wp2_with fail
 go_ret
 exact ⟨rfl, rfl⟩
def firstA (s : ByteArray) (i : Nat) : Bool := decide (i = 0) || decide (byteI s (i - 1) = 32)
structure BareAt (s : ByteArray) (T i e : Nat) (q : Bool) : Prop where
 run : (e = s.size /\ ((i <= s.size /\ ∃ f, (q = false -> f = firstA s i) /\ i + scanB f q (s.data.toList.drop i) = T) ∨ (i = s.size + 1 /\ T = s.size))) ∨ (e = T /\ i = T + 1 /\ T < s.size)
theorem drop_byte {s : ByteArray} {i : Nat} (h : i < s.size) : s.data.toList.drop i = s.get! i :: s.data.toList.drop (i + 1) := by
 have h2 : i < s.data.toList.length := by rw [list_size]; exact h
 rw [List.drop_eq_getElem_cons h2]
 congr 1
 have := byte_list h
 rw [List.getElem?_eq_getElem h2] at this
 exact Option.some.inj this
theorem drop_none {s : ByteArray} {i : Nat} (h : s.size <= i) : s.data.toList.drop i = [] := List.drop_eq_nil_of_le (by rw [list_size]; exact h)
theorem byte_is {s : ByteArray} {i : Nat} {c : UInt8} : (s.get! i == c) = decide (byteI s i = (c.toNat : Int)) := by
 rw [Bool.eq_iff_iff]
 simp only [beq_iff_eq, decide_eq_true_eq]
 unfold byteI
 constructor
 ·intro h; rw [h]
 ·intro h; exact UInt8.toNat_inj.1 (by omega)
theorem BareAt.start (s : ByteArray) : BareAt s (scanB true false s.data.toList) 0 s.size false :=
 ⟨.inl ⟨rfl, .inl ⟨Nat.zero_le _, true, fun _ => rfl, by rw [List.drop_zero, Nat.zero_add]⟩⟩⟩
theorem BareAt.at' {s : ByteArray} {T i e : Nat} {q : Bool} (h : BareAt s T i e q) (hi : i < e) : e = s.size /\ i < s.size /\ ∃ f, (q = false -> f = firstA s i) /\ i + scanB f q (s.get! i :: s.data.toList.drop (i + 1)) = T := by
 rcases h.run with ⟨rfl, ⟨h1, f, h2, h3⟩ | ⟨h1, -⟩⟩ | ⟨h1, h2, -⟩
 ·exact ⟨rfl, hi, f, h2, by rw [<- drop_byte hi]; exact h3⟩
 ·omega
 ·omega
theorem BareAt.done {s : ByteArray} {T i e : Nat} {q : Bool} (h : BareAt s T i e q) (hi : ¬ i < e) : e = T /\ T <= s.size := by
 rcases h.run with ⟨rfl, ⟨h1, f, -, h3⟩ | ⟨-, h2⟩⟩ | ⟨h1, -, h3⟩
 ·rw [drop_none (by omega)] at h3
  have : scanB f q [] = 0 := by unfold scanB; rfl
  rw [this] at h3
  omega
 ·exact ⟨h2.symm, by omega⟩
 ·exact ⟨h1, by omega⟩
theorem firstA_next (s : ByteArray) (i : Nat) : firstA s (i + 1) = decide (byteI s i = 32) := by
 unfold firstA
 simp
theorem BareAt.esc {s : ByteArray} {T i e : Nat} (h : BareAt s T i e true) (hi : i < e) (hb : byteI s i = 92) : BareAt s T (i + 2) e true := by
 obtain ⟨rfl, hlt, f, -, h3⟩ := h.at' hi
 refine ⟨.inl ⟨rfl, ?_⟩⟩
 rcases Nat.lt_or_ge (i + 1) s.size with hl | hl
 ·rw [drop_byte hl] at h3
  have e1 : s.get! i = 92 := by have := @byte_is s i 92; rw [hb] at this; exact beq_iff_eq.1 (by rw [this]; rfl)
  rw [e1] at h3
  unfold scanB at h3
  simp only [if_true] at h3
  exact .inl ⟨hl, false, (fun h => by cases h), by show i + 2 + scanB false true (s.data.toList.drop (i + 1 + 1)) = T; omega⟩
 ·rw [drop_none hl] at h3
  have e1 : scanB f true [s.get! i] = 1 := by unfold scanB; rfl
  rw [e1] at h3
  exact .inr ⟨by omega, by omega⟩
theorem BareAt.in' {s : ByteArray} {T i e : Nat} (h : BareAt s T i e true) (hi : i < e) (hb : byteI s i ≠ 92) {q : Bool} (hq : q = !decide (byteI s i = 34)) : BareAt s T (i + 1) e q := by
 obtain ⟨rfl, hlt, f, -, h3⟩ := h.at' hi
 refine ⟨.inl ⟨rfl, .inl ⟨hlt, ?_⟩⟩⟩
 rcases Nat.lt_or_ge (i + 1) s.size with hl | hl
 ·rw [drop_byte hl] at h3
  have e1 : ¬ s.get! i = 92 := fun e => hb (by unfold byteI; rw [e]; rfl)
  have e2 : (s.get! i != 34) = q := by rw [hq]; unfold bne; rw [byte_is]; rfl
  unfold scanB at h3
  rw [if_neg e1, e2, <- drop_byte hl] at h3
  refine ⟨false, fun hf => ?_, by omega⟩
  rw [firstA_next]
  rw [hf] at hq
  have : byteI s i = 34 := by simpa using hq.symm
  rw [this]
  rfl
 ·have e1 : scanB f true (s.get! i :: s.data.toList.drop (i + 1)) = 1 := by rw [drop_none hl]; unfold scanB; rfl
  rw [e1] at h3
  have e2 : ∀ f, scanB f q (s.data.toList.drop (i + 1)) = 0 := fun f => by rw [drop_none hl]; unfold scanB; rfl
  exact ⟨firstA s (i + 1), fun _ => rfl, by rw [e2]; omega⟩
theorem scan_out (f : Bool) (c : UInt8) (r : List UInt8) : scanB f false (c :: r) = if f && c == 34 then 1 + scanB false true r else if f && c == 35 then 0 else 1 + scanB (c == 32) false r := by
 cases r with
 | nil => unfold scanB; rfl
 | cons d t => rw [scanB] <;> (intros; simp_all)
theorem BareAt.open' {s : ByteArray} {T i e : Nat} (h : BareAt s T i e false) (hi : i < e) (hf : firstA s i = true) (hb : byteI s i = 34) : BareAt s T (i + 1) e true := by
 obtain ⟨rfl, hlt, f, h2, h3⟩ := h.at' hi
 rw [h2 rfl, hf, scan_out, byte_is, byte_is] at h3
 rw [if_pos (by rw [hb]; rfl)] at h3
 exact ⟨.inl ⟨rfl, .inl ⟨hlt, false, (fun h => by cases h), by omega⟩⟩⟩
theorem BareAt.rem {s : ByteArray} {T i e : Nat} (h : BareAt s T i e false) (hi : i < e) (hf : firstA s i = true) (hb : byteI s i = 35) : BareAt s T (i + 1) i false /\ i = T /\ T <= s.size := by
 obtain ⟨rfl, hlt, f, h2, h3⟩ := h.at' hi
 rw [h2 rfl, hf, scan_out, byte_is, byte_is] at h3
 rw [if_neg (by rw [hb]; decide), if_pos (by rw [hb]; rfl)] at h3
 exact ⟨⟨.inr ⟨h3, by omega, by omega⟩⟩, h3, by omega⟩
theorem BareAt.go {s : ByteArray} {T i e : Nat} (h : BareAt s T i e false) (hi : i < e) (hf : firstA s i = true -> ¬ byteI s i = 34 /\ ¬ byteI s i = 35) : BareAt s T (i + 1) e false := by
 obtain ⟨rfl, hlt, f, h2, h3⟩ := h.at' hi
 rw [h2 rfl, scan_out, byte_is, byte_is, byte_is] at h3
 have n1 : ¬ (firstA s i && decide (byteI s i = ((34 : UInt8).toNat : Int))) = true := by
  intro e
  simp only [Bool.and_eq_true, decide_eq_true_eq] at e
  exact (hf e.1).1 e.2
 have n2 : ¬ (firstA s i && decide (byteI s i = ((35 : UInt8).toNat : Int))) = true := by
  intro e
  simp only [Bool.and_eq_true, decide_eq_true_eq] at e
  exact (hf e.1).2 e.2
 rw [if_neg n1, if_neg n2] at h3
 exact ⟨.inl ⟨rfl, .inl ⟨hlt, firstA s (i + 1), fun _ => rfl, by rw [firstA_next]; exact (by have e : ((32 : UInt8).toNat : Int) = 32 := rfl; rw [e] at h3; omega)⟩⟩⟩
open Go.RowKit
theorem bless_tri : ∀ a b : List UInt8, Op.bytesLess a b = false -> Op.bytesLess b a = false -> a = b
 | [], [], _, _ => rfl
 | [], _ :: _, h, _ => by simp [Op.bytesLess] at h
 | _ :: _, [], _, h => by simp [Op.bytesLess] at h
 | x :: a, y :: b, h1, h2 => by
  simp only [Op.bytesLess, Bool.or_eq_false_iff, Bool.and_eq_false_iff, decide_eq_false_iff_not, beq_eq_false_iff_ne] at h1 h2
  have hxy : x = y := UInt8.le_antisymm (UInt8.not_lt.1 h2.1) (UInt8.not_lt.1 h1.1)
  subst hxy
  rw [bless_tri a b (h1.2.resolve_left (by simp)) (h2.2.resolve_left (by simp))]
theorem bless_trans2 : ∀ a b c : List UInt8, Op.bytesLess a b = true -> Op.bytesLess b c = true -> Op.bytesLess a c = true
 | _, _, [], _, h => by cases ‹List UInt8› <;> simp [Op.bytesLess] at h
 | [], _, _ :: _, _, _ => by simp [Op.bytesLess]
 | _ :: _, [], _ :: _, h, _ => by simp [Op.bytesLess] at h
 | x :: a, y :: b, z :: c, h1, h2 => by
  simp only [Op.bytesLess, Bool.or_eq_true, Bool.and_eq_true, decide_eq_true_eq, beq_iff_eq] at h1 h2 ⊢
  rcases h1 with h1 | ⟨rfl, h1⟩
  ·rcases h2 with h2 | ⟨rfl, h2⟩
   ·exact .inl (UInt8.lt_trans h1 h2)
   ·exact .inl h1
  ·rcases h2 with h2 | ⟨rfl, h2⟩
   ·exact .inl h2
   ·exact .inr ⟨rfl, bless_trans2 a b c h1 h2⟩
theorem bless_self : ∀ a : List UInt8, Op.bytesLess a a = false
 | [] => rfl
 | x :: a => by unfold Op.bytesLess; simp [UInt8.lt_irrefl, bless_self a]
theorem toList_inj {a b : ByteArray} (h : a.toList = b.toList) : a = b := by
 rw [ByteArray.toList_eq, ByteArray.toList_eq] at h
 cases a; cases b
 simp at h
 rw [h]
open Go.Shelf
def laysAtoi_ren : Go.Shelf.Ren := ⟨fun | 172 => 204 | 244 => 246 | 245 => 247 | 247 => 268 | 279 => 269 | 280 => 270 | 281 => 271 | 282 => 272 | 287 => 284 | 316 => 285 | 171 => 128 | 205 => 286 | 321 => 296 | 322 => 297 | 243 => 206 | 246 => 248 | 283 => 273 | 284 => 274 | 285 => 275 | 286 => 276 | 129 => 288 | 317 => 287 | 318 => 289 | 319 => 290 | 320 => 291 | 337 => 298 | 338 => 299 | n => n, fun | 9 => 9 | 3 => 3 | 75 => 141 | 76 => 142 | 4 => 4 | 5 => 5 | 167 => 206 | 37 => 28 | 0 => 0 | 85 => 207 | 2 => 2 | 168 => 209 | 53 => 213 | 175 => 227 | 46 => 179 | 210 => 230 | 127 => 175 | 145 => 242 | 143 => 240 | 21 => 21 | 171 => 212 | 173 => 216 | 212 => 233 | 51 => 202 | 20 => 20 | 213 => 234 | 232 => 247 | 233 => 248 | 80 => 144 | n => n, fun | 15 => 3 | 16 => 4 | 17 => 5 | 18 => 6 | 19 => 7 | n => n⟩
theorem laysAtoi : Go.Proofs.LaysC.n172 Tryz.prog laysAtoi_ren := {
 mixed := by kernel_rfl
 f129 := Tryz.func288.trans (congrArg some (by kernel_rfl))
 f171 := Tryz.func128.trans (congrArg some (by kernel_rfl))
 f172 := Tryz.func204.trans (congrArg some (by kernel_rfl))
 f205 := Tryz.func286.trans (congrArg some (by kernel_rfl))
 f243 := Tryz.func206.trans (congrArg some (by kernel_rfl))
 f244 := Tryz.func246.trans (congrArg some (by kernel_rfl))
 f245 := Tryz.func247.trans (congrArg some (by kernel_rfl))
 f246 := Tryz.func248.trans (congrArg some (by kernel_rfl))
 f247 := Tryz.func268.trans (congrArg some (by kernel_rfl))
 f279 := Tryz.func269.trans (congrArg some (by kernel_rfl))
 f280 := Tryz.func270.trans (congrArg some (by kernel_rfl))
 f281 := Tryz.func271.trans (congrArg some (by kernel_rfl))
 f282 := Tryz.func272.trans (congrArg some (by kernel_rfl))
 f283 := Tryz.func273.trans (congrArg some (by kernel_rfl))
 f284 := Tryz.func274.trans (congrArg some (by kernel_rfl))
 f285 := Tryz.func275.trans (congrArg some (by kernel_rfl))
 f286 := Tryz.func276.trans (congrArg some (by kernel_rfl))
 f287 := Tryz.func284.trans (congrArg some (by kernel_rfl))
 f316 := Tryz.func285.trans (congrArg some (by kernel_rfl))
 f317 := Tryz.func287.trans (congrArg some (by kernel_rfl))
 f318 := Tryz.func289.trans (congrArg some (by kernel_rfl))
 f319 := Tryz.func290.trans (congrArg some (by kernel_rfl))
 f320 := Tryz.func291.trans (congrArg some (by kernel_rfl))
 f321 := Tryz.func296.trans (congrArg some (by kernel_rfl))
 f322 := Tryz.func297.trans (congrArg some (by kernel_rfl))
 f337 := Tryz.func298.trans (congrArg some (by kernel_rfl))
 f338 := Tryz.func299.trans (congrArg some (by kernel_rfl))
 t0 := Tryz.underlying0
 a0 := Tryz.isAgg0
 z0 := Tryz.sizeOf0
 v0 := Tryz.zeroValue0
 t2 := Tryz.underlying2
 a2 := Tryz.isAgg2
 z2 := Tryz.sizeOf2
 v2 := Tryz.zeroValue2
 t3 := Tryz.underlying3
 a3 := Tryz.isAgg3
 z3 := Tryz.sizeOf3
 v3 := Tryz.zeroValue3
 t4 := Tryz.underlying4
 a4 := Tryz.isAgg4
 z4 := Tryz.sizeOf4
 v4 := Tryz.zeroValue4
 t5 := Tryz.underlying5
 a5 := Tryz.isAgg5
 z5 := Tryz.sizeOf5
 v5 := Tryz.zeroValue5
 t9 := Tryz.underlying9
 a9 := Tryz.isAgg9
 z9 := Tryz.sizeOf9
 v9 := Tryz.zeroValue9
 t20 := Tryz.underlying20
 a20 := Tryz.isAgg20
 z20 := Tryz.sizeOf20
 v20 := Tryz.zeroValue20
 t21 := Tryz.underlying21
 a21 := Tryz.isAgg21
 z21 := Tryz.sizeOf21
 v21 := Tryz.zeroValue21
 t37 := Tryz.underlying28
 a37 := Tryz.isAgg28
 z37 := Tryz.sizeOf28
 v37 := Tryz.zeroValue28
 t46 := Tryz.underlying179
 a46 := Tryz.isAgg179
 z46 := Tryz.sizeOf179
 v46 := Tryz.zeroValue179
 t51 := Tryz.underlying202
 a51 := Tryz.isAgg202
 z51 := Tryz.sizeOf202
 v51 := Tryz.zeroValue202
 t53 := Tryz.underlying213
 a53 := Tryz.isAgg213
 z53 := Tryz.sizeOf213
 v53 := Tryz.zeroValue213
 t75 := Tryz.underlying141
 a75 := Tryz.isAgg141
 z75 := Tryz.sizeOf141
 v75 := Tryz.zeroValue141
 t76 := Tryz.underlying142
 a76 := Tryz.isAgg142
 z76 := Tryz.sizeOf142
 v76 := Tryz.zeroValue142
 t85 := Tryz.underlying207
 a85 := Tryz.isAgg207
 z85 := Tryz.sizeOf207
 v85 := Tryz.zeroValue207
 t127 := Tryz.underlying175
 a127 := Tryz.isAgg175
 z127 := Tryz.sizeOf175
 v127 := Tryz.zeroValue175
 t143 := Tryz.underlying240
 a143 := Tryz.isAgg240
 z143 := Tryz.sizeOf240
 v143 := Tryz.zeroValue240
 t145 := Tryz.underlying242
 a145 := Tryz.isAgg242
 z145 := Tryz.sizeOf242
 v145 := Tryz.zeroValue242
 t167 := Tryz.underlying206
 a167 := Tryz.isAgg206
 z167 := Tryz.sizeOf206
 v167 := Tryz.zeroValue206
 t168 := Tryz.underlying209
 a168 := Tryz.isAgg209
 z168 := Tryz.sizeOf209
 v168 := Tryz.zeroValue209
 t171 := Tryz.underlying212
 a171 := Tryz.isAgg212
 z171 := Tryz.sizeOf212
 v171 := Tryz.zeroValue212
 t173 := Tryz.underlying216
 a173 := Tryz.isAgg216
 z173 := Tryz.sizeOf216
 v173 := Tryz.zeroValue216
 t175 := Tryz.underlying227
 a175 := Tryz.isAgg227
 z175 := Tryz.sizeOf227
 v175 := Tryz.zeroValue227
 t210 := Tryz.underlying230
 a210 := Tryz.isAgg230
 z210 := Tryz.sizeOf230
 v210 := Tryz.zeroValue230
 t212 := Tryz.underlying233
 a212 := Tryz.isAgg233
 z212 := Tryz.sizeOf233
 v212 := Tryz.zeroValue233
 t213 := Tryz.underlying234
 a213 := Tryz.isAgg234
 z213 := Tryz.sizeOf234
 t232 := Tryz.underlying247
 a232 := Tryz.isAgg247
 z232 := Tryz.sizeOf247
 v232 := Tryz.zeroValue247
 t233 := Tryz.underlying248
 a233 := Tryz.isAgg248
 z233 := Tryz.sizeOf248
 v233 := Tryz.zeroValue248
 g15 := by kernel_rfl
 g16 := by kernel_rfl
 g17 := by kernel_rfl
 g18 := by kernel_rfl
 g19 := by kernel_rfl
 t80 := Tryz.underlying144
 a80 := Tryz.isAgg144
 z80 := Tryz.sizeOf144
 v80 := Tryz.zeroValue144
 i0 := by kernel_rfl
 i2 := by kernel_rfl
 i3 := by kernel_rfl
 i4 := by kernel_rfl
 i5 := by kernel_rfl
 i9 := by kernel_rfl
 i20 := by kernel_rfl
 i21 := by kernel_rfl
 i37 := by kernel_rfl
 i46 := by kernel_rfl
 i51 := by kernel_rfl
 i53 := by kernel_rfl
 i75 := by kernel_rfl
 i76 := by kernel_rfl
 i80 := by kernel_rfl
 i85 := by kernel_rfl
 i127 := by kernel_rfl
 i143 := by kernel_rfl
 i145 := by kernel_rfl
 i167 := by kernel_rfl
 i168 := by kernel_rfl
 i171 := by kernel_rfl
 i173 := by kernel_rfl
 i175 := by kernel_rfl
 i210 := by kernel_rfl
 i212 := by kernel_rfl
 i232 := by kernel_rfl
 i233 := by kernel_rfl
 m15 := by kernel_rfl
 m16 := by kernel_rfl
 m17 := by kernel_rfl
 m18 := by kernel_rfl
 m19 := by kernel_rfl
 c0 := by kernel_rfl
 c2 := by kernel_rfl
 c3 := by kernel_rfl
 c4 := by kernel_rfl
 c5 := by kernel_rfl
 c9 := by kernel_rfl
 c20 := by kernel_rfl
 c21 := by kernel_rfl
 c37 := by kernel_rfl
 c46 := by kernel_rfl
 c51 := by kernel_rfl
 c53 := by kernel_rfl
 c75 := by kernel_rfl
 c76 := by kernel_rfl
 c80 := by kernel_rfl
 c85 := by kernel_rfl
 c127 := by kernel_rfl
 c143 := by kernel_rfl
 c145 := by kernel_rfl
 c167 := by kernel_rfl
 c168 := by kernel_rfl
 c171 := by kernel_rfl
 c173 := by kernel_rfl
 c175 := by kernel_rfl
 c210 := by kernel_rfl
 c212 := by kernel_rfl
 c213 := by kernel_rfl
 c232 := by kernel_rfl
 c233 := by kernel_rfl }
def ErrR (w : World) : Prop := ∃ ev, w.cell? ⟨laysAtoi_ren.g 16, 0, none⟩ = some ev /\ (ev = .nilIface ∨ ∃ te pe, ev = .iface te pe)
theorem ErrR.below {w w' : World} (h : ErrR w) (hb : Below w.heap.size w w') : ErrR w' := by
 obtain ⟨ev, h1, h2⟩ := h
 exact ⟨ev, (hb.cell (p := ⟨laysAtoi_ren.g 16, 0, none⟩) (Lib.lt_of_cell h1)).trans h1, h2⟩
theorem c_Atoi_ok (s : ByteArray) (v : Int) (w : World) (hs : s.size <= 1048576) (h : Lib.atoiAll s.data.toList = .ok v) :
  Calls Tryz.prog 204 #[.string s] w fun e w' => e = .returned (.tuple #[.int .i64 v, .nilIface]) /\ Below w.heap.size w w' := by
 have h1 := Any.strconv_Atoi_ok laysAtoi s (by omega) v h w
 change Calls Tryz.prog 204 _ _ _ at h1
 refine h1.mono ?_
 rintro e w' ⟨rfl, hw⟩
 refine ⟨rfl, ?_⟩
 rcases hw with rfl | ⟨t, rfl⟩
 ·exact Below.refl _ _
 ·exact Lib.bytesWorld_below _ _ _
theorem c_Atoi_range (s : ByteArray) (w : World) (hs : s.size <= 1048576) (h : Lib.atoiAll s.data.toList = .range) (hE : ErrR w) :
  Calls Tryz.prog 204 #[.string s] w fun e w' => ∃ x N, e = .returned (.tuple #[.int .i64 x, .iface 209 (.pointer (some ⟨N, 0, none⟩))]) /\ Below w.heap.size w w' := by
 obtain ⟨ev, h2, h3⟩ := hE
 have h1 := Any.strconv_Atoi_range laysAtoi s (by omega) h ev w h2 h3
 change Calls Tryz.prog 204 _ _ _ at h1
 refine h1.mono ?_
 rintro e w' ⟨N, rfl, -, -, hb⟩
 exact ⟨_, N, rfl, hb⟩
theorem digit_fig (x : Int) : digitB x = figI x := by
 unfold digitB figI
 rw [Bool.eq_iff_iff]
 simp
def dotI (b : Nat) : Int := if b = 46 then 0 else if b = 101 then 1 else if b = 69 then 2 else -1
theorem idx_dot : ∀ i : Fin 256, Lib.indexByte [46, 101, 69] (UInt8.ofNat i.val) = dotI i.val := by decide
theorem c_IndexDot (b : Nat) (hb : b < 256) (w : World) : Calls Tryz.prog 130 #[.string { data := #[46, 101, 69] }, .int .u8 b] w fun e w' => e = .returned (.int .i64 (dotI b)) /\ w = w' := by
 have h := c_strings_IndexByte { data := #[46, 101, 69] } (UInt8.ofNat b) w
 have e1 : (UInt8.ofNat b).toNat = b := by rw [UInt8.toNat_ofNat']; exact Nat.mod_eq_of_lt hb
 rw [e1] at h
 exact h.mono (fun _ _ h => ⟨h.1.trans (congrArg (fun z => Ending.returned (Value.int .i64 z)) (idx_dot ⟨b, hb⟩)), h.2⟩)
theorem c_impl_ReadWhole (s : ByteArray) (i : Nat) (w : World) (hs : s.size <= 1048576) (hi : i <= 1048576) (hE : ErrR w) :
  Calls Tryz.prog 209 #[.string s, .int .i64 i] w fun e w' => e = .returned (.tuple #[.int .i64 (wholeB s i).1, .int .i64 (wholeB s i).2]) /\ Below w.heap.size w w' := by
 have HE := hid hE
 clear hE
 by_cases hlt : (i : Int) < s.size
 ·have hii : i < s.size := by omega
  have h1 : decide ((s.size : Int) <= i) = false := decide_eq_false (by omega)
  have h2 : decide (s.size <= i) = false := decide_eq_false (by omega)
  have h3 : decide ((i : Int) < 0) = false := decide_eq_false (by omega)
  have hz0 : (0 : Int) <= i := by omega
  obtain ⟨b, hb⟩ : ∃ b : Nat, b = (s.get! i).toNat := ⟨_, rfl⟩
  have hx : (s[i]'hii).toNat = b := by rw [hb]; exact get_byte s i hii
  have hby : byteI s i = b := by unfold byteI; rw [hb]
  obtain ⟨a, ha⟩ : ∃ a, a = if byteI s i = 45 then i + 1 else i := ⟨_, rfl⟩
  have HBy := hid hby
  have HA := hid ha
  have hia : i <= a /\ a <= i + 1 := by rw [ha]; split <;> omega
  obtain ⟨e0, he0⟩ : ∃ e0, e0 = digE s a := ⟨_, rfl⟩
  have hE0 := digE_le s a
  rw [<- he0] at hE0
  have hae : a <= e0 := hE0.1
  have hes : e0 <= s.size := hE0.2 (by omega)
  have HE0 := hid he0
  obtain ⟨hia1, hia2⟩ := hia
  clear hb hby ha he0 hE0
  go_enter Tryz.func209, Tryz.ntmps209
  go_upto_if 22 with fail
  go_cut [6] from 19 to 24 (fun s6 wx => s6 = .int .i64 a /\ wx = w)
  case first =>
   by_cases e45 : (b : Int) = 45
   ·have haa : (i : Int) + 1 = a := by have := HA.out; rw [HBy.out, if_pos e45] at this; omega
    obtain rfl : b = 45 := by omega
    go_wp2_with fail
    go_meet
    exact ⟨rfl, rfl⟩
   ·have f45 : ((b : Int) == 45) = false := beq_eq_false_iff_ne.2 e45
    have haa : i = a := by have := HA.out; rw [HBy.out, if_neg e45] at this; omega
    have HAA := hid haa
    clear haa e45
    go_wp2_with fail
    go_meet
    exact ⟨by rw [HAA.out], rfl⟩
  case rest =>
   obtain ⟨rfl, rfl⟩ := hcut
   go_upto_block 0 with fail
   go_cut [6] from 26 to 37 (fun s6 wx => s6 = .int .i64 e0 /\ wx = wc)
   case first =>
    go_wp2_with fail
    go_loopw [6] (fun s6 wr => ∃ j : Nat, a <= j /\ j <= e0 /\ s6 = .int .i64 j /\ digE s j = e0 /\ wr = wc) (fun s6 _ => s.size - (Lib.intOf s6).toNat)
    case atStart => exact ⟨a, Nat.le_refl _, hae, rfl, HE0.out.symm, rfl⟩
    case round =>
     obtain ⟨j, haj, hje, rfl, hdj, rfl⟩ := hrel
     have HJ := hid hdj
     clear hdj
     by_cases hjl : (j : Int) < s.size
     ·have hjj : j < s.size := by omega
      have hj0 : (0 : Int) <= j := by omega
      obtain ⟨c, hc⟩ : ∃ c : Nat, c = (s.get! j).toNat := ⟨_, rfl⟩
      have hxj : (s[j]'hjj).toNat = c := by rw [hc]; exact get_byte s j hjj
      have hbj : byteI s j = c := by unfold byteI; rw [hc]
      have HC := hid hbj
      have HD := hid (HJ.out.symm.trans (digE_at hjj))
      clear hc hbj
      rcases hf : digitB (c : Int) with _ | _
      ·have HF := hid (show e0 = j by have h9 := HD.out; rw [HC.out, <- digit_fig, hf, if_neg (by decide)] at h9; exact h9)
       go_wp2_with (first | (go_at_call 201; refine (c_impl_isDigit _ _).mono ?_; rintro e w' ⟨rfl, rfl⟩))
       go_meet
       exact ⟨by rw [HF.out], rfl⟩
      ·have HF := hid (show digE s (j + 1) = e0 by have h9 := HD.out; rw [HC.out, <- digit_fig, hf, if_pos rfl] at h9; exact h9.symm)
       have hle := (digE_le s (j + 1)).1
       rw [HF.out] at hle
       go_wp2_with (first | (go_at_call 201; refine (c_impl_isDigit _ _).mono ?_; rintro e w' ⟨rfl, rfl⟩))
       go_roundw
       case rel => exact ⟨j + 1, by omega, hle, by go_num, HF.out, by first | rfl | exact True.intro⟩
       case measure => simp [Lib.intOf]; omega
     ·have HF := hid (show e0 = j by rw [<- HJ.out]; exact digE_end (by omega))
      go_wp2_with fail
      go_meet
      exact ⟨by rw [HF.out], rfl⟩
   case rest =>
    obtain ⟨rfl, rfl⟩ := hcut
    by_cases c1 : (e0 : Int) = a
    ·have HQ := hid (show wholeB s i = (0, -1) by rw [wholeB_at hii HA.out]; exact wholeA_no (.inl (by rw [<- HE0.out]; omega)))
     have HC1 := hid c1
     have g1 : ((e0 : Int) == a) = true := beq_iff_eq.2 c1
     clear c1
     go_wp2_with fail
     go_ret2
     exact ⟨by rw [HQ.out]; rfl, Below.refl _ _⟩
    ·have g1 : ((e0 : Int) == a) = false := beq_eq_false_iff_ne.2 c1
     have hlt2 : a < e0 := by omega
     have ham : a < s.size := by omega
     have haI : (a : Int) < s.size := by omega
     have ha0 : (0 : Int) <= a := by omega
     obtain ⟨ca, hca⟩ : ∃ c : Nat, c = (s.get! a).toNat := ⟨_, rfl⟩
     have hxa : (s[a]'ham).toNat = ca := by rw [hca]; exact get_byte s a ham
     have HCa := hid (show byteI s a = ca by unfold byteI; rw [hca])
     clear hca c1
     by_cases c2 : (ca : Int) = 48 /\ (a : Int) + 1 < e0
     ·have HQ := hid (show wholeB s i = (0, -1) by rw [wholeB_at hii HA.out]; exact wholeA_no (.inr (.inl ⟨by rw [HCa.out]; exact c2.1, by rw [<- HE0.out]; omega⟩)))
      obtain ⟨c21, c22⟩ := c2
      obtain rfl : ca = 48 := by omega
      go_wp2_with fail
      go_ret2
      exact ⟨by rw [HQ.out]; rfl, Below.refl _ _⟩
     ·have tail : ∀ P : Prop, (((ca : Int) == 48) = false -> P) -> (ca = 48 -> decide ((a : Int) + 1 < e0) = false -> P) -> P := by
       intro P k1 k2
       by_cases c : (ca : Int) = 48
       ·exact k2 (by omega) (decide_eq_false (fun h => c2 ⟨c, h⟩))
       ·exact k1 (beq_eq_false_iff_ne.2 c)
      have HC2 := hid c2
      clear c2
      by_cases c3 : (e0 : Int) < s.size
      ·have hej : e0 < s.size := by omega
       have he0 : (0 : Int) <= e0 := by omega
       obtain ⟨ce, hce⟩ : ∃ c : Nat, c = (s.get! e0).toNat := ⟨_, rfl⟩
       have hxe : (s[e0]'hej).toNat = ce := by rw [hce]; exact get_byte s e0 hej
       have HCe := hid (show byteI s e0 = ce by unfold byteI; rw [hce])
       have hc256 : ce < 256 := by have := (s.get! e0).toNat_lt; omega
       clear hce
       by_cases c4 : ce = 46 ∨ ce = 101 ∨ ce = 69
       ·have HQ := hid (show wholeB s i = (0, -1) by
         rw [wholeB_at hii HA.out]
         refine wholeA_no (.inr (.inr ⟨by rw [<- HE0.out]; exact hej, ?_⟩))
         rw [<- HE0.out, HCe.out]
         omega)
        have hd0 : ¬ dotI ce < 0 := by unfold dotI; rcases c4 with rfl | rfl | rfl <;> decide
        obtain ⟨dv, hdv⟩ : ∃ d, d = dotI ce := ⟨_, rfl⟩
        have hd1 : 0 <= dv := by omega
        have HDv := hid hdv
        clear hd0 hdv c4
        refine tail _ (fun t1 => ?_) (fun t1 t2 => ?_)
        all_goals
         clear tail
         (try subst t1)
         go_wp2_with (go_at_call 130; refine (c_IndexDot ce hc256 _).mono ?_; rintro e w9 ⟨rfl, rfl⟩; rw [<- HDv.out])
         go_ret2
         exact ⟨by rw [HQ.out]; rfl, Below.refl _ _⟩
       ·have HDv := hid (show dotI ce = -1 by unfold dotI; rw [if_neg (by omega), if_neg (by omega), if_neg (by omega)])
        have HW := hid (whole_atoi hii HA.out (by
         rw [<- HE0.out, HCa.out, HCe.out]
         rintro (h | h | h)
         ·omega
         ·exact HC2.out ⟨h.1, by omega⟩
         ·omega))
        rw [<- HE0.out] at HW
        have hie : i <= e0 := by omega
        have hieI : (i : Int) <= e0 := by omega
        have hesI : (e0 : Int) <= s.size := by omega
        clear c4
        refine tail _ (fun t1 => ?_) (fun t1 t2 => ?_)
        all_goals
         clear tail
         (try subst t1)
         rcases HW.out with ⟨v, hv1, hv2⟩ | ⟨hv1, hv2⟩
         ·have HV := hid hv1
          have HQ := hid hv2
          clear hv1 hv2
          go_wp2_with (first | (go_at_call 130; refine (c_IndexDot ce hc256 _).mono ?_; rintro e w9 ⟨rfl, rfl⟩; rw [HDv.out]) | (go_at_call 204; refine (c_Atoi_ok _ v _ (by simp; omega) HV.out).mono ?_; rintro e w9 ⟨rfl, hb9⟩))
          go_ret2
          exact ⟨by rw [HQ.out]; rfl, bel⟩
         ·have HV := hid hv1
          have HQ := hid hv2
          clear hv1 hv2
          go_wp2_with (first | (go_at_call 130; refine (c_IndexDot ce hc256 _).mono ?_; rintro e w9 ⟨rfl, rfl⟩; rw [HDv.out]) | (go_at_call 204; refine (c_Atoi_range _ _ (by simp; omega) HV.out HE.out).mono ?_; rintro e w9 ⟨xv, nv, rfl, hb9⟩))
          go_ret2
          exact ⟨by rw [HQ.out]; rfl, bel⟩
      ·have heq : e0 = s.size := by omega
       have HW := hid (whole_atoi hii HA.out (by
        rw [<- HE0.out, HCa.out]
        rintro (h | h | h)
        ·omega
        ·exact HC2.out ⟨h.1, by omega⟩
        ·omega))
       rw [<- HE0.out] at HW
       have hie : i <= e0 := by omega
       have hieI : (i : Int) <= e0 := by omega
       have hesI : (e0 : Int) <= s.size := by omega
       have hsz3 : decide ((e0 : Int) < s.size) = false := decide_eq_false c3
       have hsz4 : decide (e0 < s.size) = false := decide_eq_false (by omega)
       clear heq c3
       refine tail _ (fun t1 => ?_) (fun t1 t2 => ?_)
       all_goals
        clear tail
        (try subst t1)
        rcases HW.out with ⟨v, hv1, hv2⟩ | ⟨hv1, hv2⟩
        ·have HV := hid hv1
         have HQ := hid hv2
         clear hv1 hv2
         go_wp2_with ((go_at_call 204; refine (c_Atoi_ok _ v _ (by simp; omega) HV.out).mono ?_; rintro e w9 ⟨rfl, hb9⟩))
         go_ret2
         exact ⟨by rw [HQ.out]; rfl, bel⟩
        ·have HV := hid hv1
         have HQ := hid hv2
         clear hv1 hv2
         go_wp2_with ((go_at_call 204; refine (c_Atoi_range _ _ (by simp; omega) HV.out HE.out).mono ?_; rintro e w9 ⟨xv, nv, rfl, hb9⟩))
         go_ret2
         exact ⟨by rw [HQ.out]; rfl, bel⟩
 ·have HQ := hid (show wholeB s i = (0, -1) by unfold wholeB; rw [if_neg (by omega)])
  have hz0 : (0 : Int) <= i := by omega
  go_enter Tryz.func209, Tryz.ntmps209
  go_wp2_with fail
  go_ret2
  exact ⟨by rw [HQ.out]; rfl, Below.refl _ _⟩
def laysPre_ren : Go.Shelf.Ren := ⟨fun | 99 => 177 | 206 => 236 | n => n, fun | 9 => 9 | 4 => 4 | 3 => 3 | n => n, fun | n => n⟩
theorem laysPre : Go.Proofs.Lays.n99 Tryz.prog laysPre_ren := {
 mixed := by kernel_rfl
 f99 := Tryz.func177.trans (congrArg some (by kernel_rfl))
 f206 := Tryz.func236.trans (congrArg some (by kernel_rfl))
 t3 := Tryz.underlying3
 a3 := Tryz.isAgg3
 z3 := Tryz.sizeOf3
 v3 := Tryz.zeroValue3
 t4 := Tryz.underlying4
 a4 := Tryz.isAgg4
 z4 := Tryz.sizeOf4
 v4 := Tryz.zeroValue4
 t9 := Tryz.underlying9
 a9 := Tryz.isAgg9
 z9 := Tryz.sizeOf9
 v9 := Tryz.zeroValue9 }
def wF : List UInt8 := [102, 97, 108, 115, 101]
theorem c_HasPrefix (s p : ByteArray) (w : World) : Calls Tryz.prog 177 #[.string s, .string p] w fun e w' => e = .returned (.bool (Lib.hasPrefix s.data.toList p.data.toList)) /\ w = w' := by
 have h := Any.strings_HasPrefix laysPre s p w
 change Calls Tryz.prog 177 _ _ _ at h
 exact h.mono (fun _ _ h => ⟨h.1, h.2.symm⟩)
def markI (x : Int) : Int := if x = 123 then 1 else if x = 125 then 2 else if x = 91 then 3 else if x = 93 then 4 else if x = 58 then 5 else if x = 44 then 6 else 0
theorem quotB_next (s : ByteArray) (i : Nat) : (quotB s i).2 < 0 ∨ ((i : Int) < (quotB s i).2 /\ (quotB s i).2 <= s.size) := by
 have key : ∀ (k j : Nat) (acc : List UInt8), i < j -> ((quotR s k j acc).2 < 0 ∨ ((i : Int) < (quotR s k j acc).2 /\ (quotR s k j acc).2 <= s.size)) := by
  intro k
  induction k with
  | zero => intro j acc _; unfold quotR; left; decide
  | succ k ih =>
   intro j acc hj
   unfold quotR
   split
   ·split
    ·right; simp only; omega
    ·split
     ·left; decide
     ·have h := (quotN_next s j).1
      exact ih _ _ (by omega)
   ·left; decide
 unfold quotB
 split
 ·split
  ·exact key _ _ _ (by omega)
  ·left; decide
 ·left; decide
theorem sl_oneG {D : Type} {C : D -> List Value -> Prop} {enc : D -> List Value} {sz : Nat} (hk : ∀ d, (enc d).length = sz) (w : World) (d : D) (hC : C d (enc d)) (ty : TypeId) (cs : Array Value) (hc : cs = (enc d).toArray) {B : Nat} (hB : B = w.heap.size) :
  SlOf C sz w.heap.size (w.alloc (.cells cs ty)).heap.size (w.alloc (.cells cs ty)) [d] (.slice (some ⟨B, 0, none⟩) 1 1) := by
 subst hB
 exact sl_one hk w d hC ty cs hc
theorem wpList_append_rows {P : Program} {D : Type} {enc : D -> List Value} {C : D -> List Value -> Prop} {w : World} {ops : Array Oper} {rest : List Oper} {o : Oper} {a : Act} {Q : Exit -> Act -> World -> Prop} (hgd : o.guard = none) (s x : Operand) (t : TypeId)
  (ho : o.op = .call { callee := .builtin .append, args := #[s, x], argTypes := #[t, t] }) (base : Nat) (e : TypeId) (i : TypeInfo) (z : Value) (sz bytes : Nat) (ht : P.underlying t = some (.slice e)) (hi : P.info? e = some i) (hz : i.zero = some z)
  (hsize : i.size = sz) (hby : i.bytes = bytes) (hzs : z.cells.size = sz) (hsz : 0 < sz) (hk : ∀ d, (enc d).length = sz) (h1 : ∀ d, ∀ v ∈ enc d, v.oneCell' = true) (hC : ∀ d es, C d es -> es = enc d) (v : Value) (n : Nat) (xs : List D) (hs : a.eval s = v) (hn : xs.length = n) (hown : RowE enc sz e base w xs v)
  (l : List D) (A : Option Addr) (m c lo hi' : Nat) (hx : a.eval x = .slice A m c) (hm : l.length = m) (hl : SlOf C sz lo hi' w l (.slice A m c)) (h63 : n + m <= maxLen) (hbytes : (n + m) * bytes <= 140737488355328) (hbase : base <= w.heap.size)
  (h : ∀ v' w', RowE enc sz e base w' (xs ++ l) v' -> w.grownBy w' v.ownBlock -> (v'.ownBlock = v.ownBlock ∨ v'.ownBlock = some w.heap.size) -> wpList P ops Q rest (a.put o.dst v') w') :
  wpList P ops Q (o :: rest) a w := by
 obtain ⟨v', w', hr, h2, h3, h4⟩ := run_append_rows (P := P) (enc := enc) (C := C) w t o.type base e i z sz bytes ht hi hz hsize hby hzs hsz hk h1 hC v n xs hn hown l A m c lo hi' hm hl h63 hbytes hbase
 exact wpList_append_of hgd s x t ho v _ v' w' hs hx hr (h v' w' h2 h3 h4)
theorem textF_zero {s : ByteArray} (h : (textF s).code = 0) : s.size <= 20000 := by
 unfold textF at h
 split at h
 ·cases h
 ·omega
open Go.RowKit Go.ChangeShapes Go.WideShapes Go.ChangeAt
def C_Byte (b : UInt8) (cs : List Value) : Prop := cs = [.int .u8 b.toNat]
def CurAt (code : List UInt8) (p : Nat) (w : World) : Prop :=
 ∃ A c i h, w.heap[p]? = some (.cells #[.slice A code.length c, .int .i64 (i : Nat), .int .i64 h] 136 (0, 0)) /\ I64 h /\ i <= code.length /\ code.length <= 1048576 /\ SlOf C_Byte 1 0 p w code (.slice A code.length c)
structure Dr (code : List UInt8) (p : Nat) (w w' : World) : Prop where
 aside : Aside (fun b => b = p) w w'
 cur : CurAt code p w'
theorem CurAt.lt {code : List UInt8} {p : Nat} {w : World} (h : CurAt code p w) : p < w.heap.size := by
 obtain ⟨A, c, i, x, hg, -⟩ := h
 exact row_lt hg
theorem CurAt.keep {code : List UInt8} {p : Nat} {w w' : World} (h : CurAt code p w) (hb : ∀ b, b <= p -> w'.heap[b]? = w.heap[b]?) : CurAt code p w' := by
 obtain ⟨A, c, i, x, hg, h1, h2, h3, h4⟩ := h
 exact ⟨A, c, i, x, (hb p (Nat.le_refl _)).trans hg, h1, h2, h3, SlOf.keep h4 (fun b o _ hlt => World.cell?_of_block (hb b (Nat.le_of_lt hlt))) (Nat.le_refl _) (Nat.le_refl _) (fun _ _ _ h => h)⟩
theorem CurAt.below {code : List UInt8} {p : Nat} {w w' : World} (h : CurAt code p w) (hb : Below w.heap.size w w') : CurAt code p w' := h.keep (fun b hle => hb.block b (Nat.lt_of_le_of_lt hle h.lt))
theorem Dr.refl {code : List UInt8} {p : Nat} {w : World} (h : CurAt code p w) : Dr code p w w := ⟨Aside.refl _ _, h⟩
theorem Dr.trans {code : List UInt8} {p : Nat} {a b c : World} (h : Dr code p a b) (k : Dr code p b c) : Dr code p a c := ⟨h.aside.trans k.aside, k.cur⟩
theorem Dr.step {code : List UInt8} {p : Nat} {a b c : World} (h : Dr code p a b) (k : Below b.heap.size b c) : Dr code p a c := ⟨h.aside.trans (Aside.of_below k), h.cur.below k⟩
theorem Dr.cell {code : List UInt8} {p : Nat} {a b : World} (h : Dr code p a b) {g o : Nat} (hg : g < a.heap.size) (hp : g ≠ p) : b.cell? ⟨g, o, none⟩ = a.cell? ⟨g, o, none⟩ := World.cell?_of_block (h.aside.block g hg hp)
theorem Dr.below {code : List UInt8} {p B : Nat} {a b : World} (h : Dr code p a b) (hB : B <= a.heap.size) (hp : B <= p) : Below B a b := h.aside.below hB (fun b hb => by subst hb; exact hp)
theorem i64_and255 (n : Int) : bits .and .i64 n 255 = n % 256 := by
 have h255 : (BitVec.ofInt 64 255).toNat = 2 ^ 8 - 1 := by decide
 have key : (BitVec.ofInt 64 n &&& BitVec.ofInt 64 255).toNat = (n % ((2 ^ 64 : Nat) : Int)).toNat % 2 ^ 8 := by
  rw [BitVec.toNat_and, BitVec.toNat_ofInt, h255, Nat.and_two_pow_sub_one_eq_mod]
 show IntKind.i64.wrap ((BitVec.ofInt 64 n &&& BitVec.ofInt 64 255).toNat : Nat) = n % 256
 rw [key, IntKind.wrap_i64]
 omega
theorem m255 (n : Int) : 0 <= n % 256 /\ n % 256 <= 255 := by omega
theorem w64_I64 (n : Int) : I64 (wrap64 n) := by
 unfold wrap64 I64
 omega
theorem c_l01Byte (code : List UInt8) (p : Nat) (w : World) (h : CurAt code p w) :
  Calls Tryz.prog 164 #[.pointer (some ⟨p, 0, none⟩)] w fun e w' => ∃ x : Int, e = .returned (.int .i64 x) /\ 0 <= x /\ x <= 255 /\ Dr code p w w' := by
 have hcur := h
 obtain ⟨A, c, i, h0, hg, hh, hi, hn, hs⟩ := h
 obtain ⟨c0, c1, c2, cf⟩ := row3 hg
 have hpl := row_lt hg
 have hand := i64_and255
 have Hs := Lib.hid hs
 go_enter Tryz.func164, Tryz.ntmps164
 go_wp2_with fail
 have hXI := w64_I64 (wrap64 (h0 * 6364136223846793005) + 1442695040888963407)
 generalize wrap64 (wrap64 (h0 * 6364136223846793005) + 1442695040888963407) = X at *
 have hg1 : (w.setCell ⟨p, 2, none⟩ (.int .i64 X)).heap[p]? = some (.cells #[.slice A code.length c, .int .i64 (i : Nat), .int .i64 X] 136 (0, 0)) := heap_setCell_same w p 2 _ _ _ hg
 have hA1 : Aside (fun b => b = p) w (w.setCell ⟨p, 2, none⟩ (.int .i64 X)) := Aside.setCell (p := ⟨p, 2, none⟩) (Aside.refl _ _) rfl
 generalize w.setCell ⟨p, 2, none⟩ (.int .i64 X) = w1 at *
 clear c0 c1 c2 cf hg hs hcur
 obtain ⟨c0, c1, c2, cf⟩ := row3 hg1
 have hpl1 := row_lt hg1
 refine wp_region_det 12 (by kernel_rfl) (by kernel_rfl) (by decide) ?_
 iterate 3 refine ds ?_
 refine ds ?_
 iterate 4 refine ds ?_
 refine ds ?_
 iterate 3 refine ds ?_
 intro w1 hb
 (first | (have hcu2 := Cum.join hcu hb; (try clear hcu); (try clear hc); (try clear hfz); (try clear hsz); (try clear hs0); (try clear hs1); (try clear hs2); (try clear hs3); (try clear hs4); ) | have hcu2 := Cum.mk hb); have hcu := hcu2; clear hcu2; obtain ⟨hc, hfz⟩ := bcell hcu.h; have hsz := hcu.h.size; (try simp at hsz); (try have hs0 := lt_of_succ_le hsz); (try (have hs1 := lt_pred hsz; (try (have hs2 := lt_pred hs1; (try (have hs3 := lt_pred hs2; (try have hs4 := lt_pred hs3)))))))
 (try simp only [Act.put, List.setIfInBounds_toArray, List.set_cons_zero, List.set_cons_succ])
 (try simp only [List.drop_succ_cons, List.drop_zero])
 have hg2 := (hb.block p hpl1).trans hg1
 have hA2 := hA1.trans (Aside.of_below hb)
 have hpl2 := row_lt hg2
 clear c0 c1 c2 cf hg1 hA1 hpl1 hb
 (try clear hcu); (try clear hc); (try clear hfz); (try clear hsz); (try clear hs0); (try clear hs1); (try clear hs2); (try clear hs3); (try clear hs4)
 obtain ⟨c0, c1, c2, cf⟩ := row3 hg2
 have hki : (i : Int) <= 9223372036854775806 := by omega
 have hkn : (code.length : Int) <= 9223372036854775806 := by omega
 by_cases hlt : i < code.length
 ·have hlt2 : (i : Int) < code.length := by omega
  have hlt0 : (0 : Int) <= i := by omega
  go_wp2_with fail
  refine wp_region_det 10 (by kernel_rfl) (by kernel_rfl) (by decide) ?_
  iterate 3 refine ds ?_
  refine ds ?_
  iterate 3 refine ds ?_
  refine ds ?_
  iterate 2 refine ds ?_
  intro w1 hb
  (first | (have hcu2 := Cum.join hcu hb; (try clear hcu); (try clear hc); (try clear hfz); (try clear hsz); (try clear hs0); (try clear hs1); (try clear hs2); (try clear hs3); (try clear hs4); ) | have hcu2 := Cum.mk hb); have hcu := hcu2; clear hcu2; obtain ⟨hc, hfz⟩ := bcell hcu.h; have hsz := hcu.h.size; (try simp at hsz); (try have hs0 := lt_of_succ_le hsz); (try (have hs1 := lt_pred hsz; (try (have hs2 := lt_pred hs1; (try (have hs3 := lt_pred hs2; (try have hs4 := lt_pred hs3)))))))
  (try simp only [Act.put, List.setIfInBounds_toArray, List.set_cons_zero, List.set_cons_succ])
  (try simp only [List.drop_succ_cons, List.drop_nil])
  have hg3 := (hb.block p hpl2).trans hg2
  have hA3 := hA2.trans (Aside.of_below hb)
  have hpl3 := row_lt hg3
  clear c0 c1 c2 cf hg2 hA2 hpl2 hb
  (try clear hcu); (try clear hc); (try clear hfz); (try clear hsz); (try clear hs0); (try clear hs1); (try clear hs2); (try clear hs3); (try clear hs4)
  obtain ⟨c0, c1, c2, cf⟩ := row3 hg3
  obtain ⟨A', c', hv, -, -, hbytes⟩ := Hs.out
  simp only [Value.slice.injEq, true_and] at hv
  obtain ⟨rfl, rfl⟩ := hv
  obtain ⟨b, o, rfl, -, hbp, hcell⟩ := hbytes (by omega)
  obtain ⟨y, hy⟩ := exists_at hlt
  obtain ⟨es, -, hes, rfl⟩ := hcell i y hy
  have hbw : b < w.heap.size := by omega
  have hbne : ¬ b = p := by omega
  have hby : w1.cell? ⟨b, o + i, none⟩ = some (.int .u8 y.toNat) := by
   rw [World.cell?_of_block (hA3.block b hbw hbne)]
   have := hes 0 (by omega)
   simpa using this
  have hbl3 : b < w1.heap.size := by omega
  have hy8 : (y.toNat : Int) <= 255 := by have := y.toNat_lt; omega
  have hy0 : (0 : Int) <= y.toNat := by omega
  clear hes hcell hbytes hy
  go_wp2_with fail
  refine wp_region_det 14 (by kernel_rfl) (by kernel_rfl) (by decide) ?_
  iterate 4 refine ds ?_
  refine ds ?_
  iterate 3 refine ds ?_
  refine ds ?_
  refine ds ?_
  refine ds ?_
  iterate 3 refine ds ?_
  intro w1 hb
  (first | (have hcu2 := Cum.join hcu hb; (try clear hcu); (try clear hc); (try clear hfz); (try clear hsz); (try clear hs0); (try clear hs1); (try clear hs2); (try clear hs3); (try clear hs4); ) | have hcu2 := Cum.mk hb); have hcu := hcu2; clear hcu2; obtain ⟨hc, hfz⟩ := bcell hcu.h; have hsz := hcu.h.size; (try simp at hsz); (try have hs0 := lt_of_succ_le hsz); (try (have hs1 := lt_pred hsz; (try (have hs2 := lt_pred hs1; (try (have hs3 := lt_pred hs2; (try have hs4 := lt_pred hs3)))))))
  (try simp only [Act.put, List.setIfInBounds_toArray, List.set_cons_zero, List.set_cons_succ])
  (try simp only [List.drop_succ_cons, List.drop_zero])
  have hg4 := (hb.block p hpl3).trans hg3
  have hA4 := hA3.trans (Aside.of_below hb)
  have hpl4 := row_lt hg4
  clear c0 c1 c2 cf hg3 hA3 hpl3 hb
  (try clear hcu); (try clear hc); (try clear hfz); (try clear hsz); (try clear hs0); (try clear hs1); (try clear hs2); (try clear hs3); (try clear hs4)
  obtain ⟨c0, c1, c2, cf⟩ := row3 hg4
  go_wp2_with fail
  go_ret
  refine ⟨_, rfl, (m255 _).1, (m255 _).2, hA4.setCell (p := ⟨p, 1, none⟩) rfl, _, _, i + 1, X, ?_, hXI, by omega, hn, Hs.out.keep (fun b o _ hlt => World.cell?_of_block ((Aside.setCell (p := ⟨p, 1, none⟩) hA4 rfl).block b (by omega) (by omega))) (Nat.le_refl _) (Nat.le_refl _) (fun _ _ _ h => h)⟩
  rw [show ((i + 1 : Nat) : Int) = (i : Int) + 1 from by omega]
  exact heap_setCell_same _ p 1 _ _ _ hg4
 ·have hlt2 : ¬ (i : Int) < code.length := by omega
  go_wp2_with fail
  refine wp_region_det 10 (by kernel_rfl) (by kernel_rfl) (by decide) ?_
  iterate 3 refine ds ?_
  refine ds ?_
  iterate 3 refine ds ?_
  refine ds ?_
  iterate 2 refine ds ?_
  intro w1 hb
  (first | (have hcu2 := Cum.join hcu hb; (try clear hcu); (try clear hc); (try clear hfz); (try clear hsz); (try clear hs0); (try clear hs1); (try clear hs2); (try clear hs3); (try clear hs4); ) | have hcu2 := Cum.mk hb); have hcu := hcu2; clear hcu2; obtain ⟨hc, hfz⟩ := bcell hcu.h; have hsz := hcu.h.size; (try simp at hsz); (try have hs0 := lt_of_succ_le hsz); (try (have hs1 := lt_pred hsz; (try (have hs2 := lt_pred hs1; (try (have hs3 := lt_pred hs2; (try have hs4 := lt_pred hs3)))))))
  (try simp only [Act.put, List.setIfInBounds_toArray, List.set_cons_zero, List.set_cons_succ])
  (try simp only [List.drop_succ_cons, List.drop_nil])
  have hg3 := (hb.block p hpl2).trans hg2
  have hA3 := hA2.trans (Aside.of_below hb)
  have hpl3 := row_lt hg3
  clear c0 c1 c2 cf hg2 hA2 hpl2 hb
  (try clear hcu); (try clear hc); (try clear hfz); (try clear hsz); (try clear hs0); (try clear hs1); (try clear hs2); (try clear hs3); (try clear hs4)
  obtain ⟨c0, c1, c2, cf⟩ := row3 hg3
  go_wp2_with fail
  go_ret
  exact ⟨_, rfl, (m255 _).1, (m255 _).2, hA3, _, _, i, X, hg3, hXI, hi, hn, Hs.out.keep (fun b o _ hlt => World.cell?_of_block (hA3.block b (by omega) (by omega))) (Nat.le_refl _) (Nat.le_refl _) (fun _ _ _ h => h)⟩
theorem Dr.pre {code : List UInt8} {p : Nat} {a b c : World} (h : Aside (fun b => b = p) a b) (k : Dr code p b c) : Dr code p a c := ⟨h.trans k.aside, k.cur⟩
theorem Dr.alloc {code : List UInt8} {p : Nat} {a b : World} (h : Dr code p a b) (o : Obj) : Dr code p a (b.alloc o) := h.step (ext_alloc (Below.refl _ _))
theorem Dr.cut {code : List UInt8} {p : Nat} {a b : World} {o : Obj} (h : Dr code p (a.alloc o) b) : Dr code p a b := Dr.pre (aside_alloc (Aside.refl _ _)) h
theorem Dr.block {code : List UInt8} {p : Nat} {a b : World} (h : Dr code p a b) {g : Nat} (hg : g < a.heap.size) (hp : g ≠ p) : b.heap[g]? = a.heap[g]? := h.aside.block g hg hp
theorem Dr.size {code : List UInt8} {p : Nat} {a b : World} (h : Dr code p a b) : a.heap.size <= b.heap.size := h.aside.size
theorem SlOf.now {D : Type} {C : D -> List Value -> Prop} {sz lo : Nat} {a b : World} {l : List D} {v : Value} (h : SlOf C sz lo a.heap.size a l v) (hb : Below a.heap.size a b) : SlOf C sz lo b.heap.size b l v :=
 SlOf.keep h (same_below hb) (Nat.le_refl _) hb.size (fun _ _ _ h => h)
theorem sl_lit (w : World) (ss : List ByteArray) (hs : ∀ s ∈ ss, s.size <= 9223372036854775807) (hn : ss.length <= 9223372036854775807) (ty : TypeId) (cs : Array Value) (hc : cs = (ss.map Value.string).toArray) :
  Sl_Str w.heap.size (w.alloc (.cells cs ty)).heap.size (w.alloc (.cells cs ty)) ss (.slice (some ⟨w.heap.size, 0, none⟩) ss.length ss.length) := by
 subst hc
 refine ⟨_, _, rfl, Nat.le_refl _, hn, fun _ => ⟨w.heap.size, 0, rfl, Nat.le_refl _, by simp, fun i d hd => ⟨[.string d], rfl, fun j hj => ?_, rfl, hs d (List.mem_of_getElem? hd)⟩⟩⟩
 obtain rfl : j = 0 := by omega
 rw [cell_of_row _ _ _ _ _ _ (heap_alloc_new w _)]
 simp [hd]
theorem c_l01Below (code : List UInt8) (p : Nat) (n : Int) (w : World) (h : CurAt code p w) (hn : -9223372036854775808 <= n /\ n <= 9223372036854775807) :
  Calls Tryz.prog 88 #[.pointer (some ⟨p, 0, none⟩), .int .i64 n] w fun e w' => ∃ x : Int, e = .returned (.int .i64 x) /\ 0 <= x /\ (0 < n -> x < n) /\ (n <= 0 -> x = 0) /\ Dr code p w w' := by
 obtain ⟨hn1, hn2⟩ := hn
 have H := Lib.hid h
 clear h
 by_cases h0 : n <= 0
 ·go_enter Tryz.func88, Tryz.ntmps88
  go_wp2_with fail
  go_ret
  exact ⟨0, rfl, Int.le_refl _, fun h => by omega, fun _ => rfl, Dr.refl H.out⟩
 ·have h1 : 0 < n := by omega
  by_cases h2 : n <= 256
  ·go_enter Tryz.func88, Tryz.ntmps88
   go_wp2_with fail
   refine (c_l01Byte code p _ H.out).mono ?_
   rintro e w1 ⟨x, rfl, hx0, hx1, hd⟩
   have HD := Lib.hid hd
   clear hd
   go_wp2_with fail
   go_ret
   exact ⟨_, rfl, Int.emod_nonneg _ (by omega), fun _ => Int.emod_lt_of_pos _ h1, fun h => by omega, HD.out⟩
  ·go_enter Tryz.func88, Tryz.ntmps88
   go_wp2_with fail
   refine (c_l01Byte code p _ H.out).mono ?_
   rintro e w1 ⟨x, rfl, hx0, hx1, hd⟩
   have HD := Lib.hid hd
   clear hd
   go_wp2_with fail
   refine (c_l01Byte code p _ HD.out.cur).mono ?_
   rintro e w2 ⟨y, rfl, hy0, hy1, hd⟩
   have HD2 := Lib.hid (HD.out.trans hd)
   clear hd
   go_wp2_with fail
   refine (c_l01Byte code p _ HD2.out.cur).mono ?_
   rintro e w3 ⟨z, rfl, hz0, hz1, hd⟩
   have HD3 := Lib.hid (HD2.out.trans hd)
   clear hd
   go_wp2_with fail
   refine (c_l01Byte code p _ HD3.out.cur).mono ?_
   rintro e w4 ⟨u, rfl, hu0, hu1, hd⟩
   have HD4 := Lib.hid (HD3.out.trans hd)
   clear hd
   go_wp2_with fail
   go_ret
   exact ⟨_, rfl, Int.emod_nonneg _ (by omega), fun _ => Int.emod_lt_of_pos _ h1, fun h => by omega, HD4.out⟩
theorem c_l01Once (code : List UInt8) (p : Nat) (n : Int) (w : World) (h : CurAt code p w) (hn : -9223372036854775808 <= n /\ n <= 9223372036854775807) :
  Calls Tryz.prog 87 #[.pointer (some ⟨p, 0, none⟩), .int .i64 n] w fun e w' => ∃ x : Bool, e = .returned (.bool x) /\ Dr code p w w' := by
 go_enter Tryz.func87, Tryz.ntmps87
 go_wp2_with fail
 refine (c_l01Below code p n _ h hn).mono ?_
 rintro e w1 ⟨x, rfl, -, -, -, hd⟩
 go_wp2_with fail
 go_ret
 exact ⟨_, rfl, hd⟩
theorem c_l01Pick (code : List UInt8) (p : Nat) (l : List ByteArray) (v : Value) (lo : Nat) (w : World) (h : CurAt code p w) (hl : Sl_Str lo w.heap.size w l v) (hp : p < lo) (h1 : 0 < l.length) (h2 : l.length <= 1048576) :
  Calls Tryz.prog 169 #[.pointer (some ⟨p, 0, none⟩), v] w fun e w' => ∃ s : ByteArray, e = .returned (.string s) /\ s ∈ l /\ Dr code p w w' := by
 have Hl := Lib.hid hl
 obtain ⟨A, c, rfl, hlc, hc, hA⟩ := hl
 obtain ⟨b, o, rfl, hb1, hb2, hcell⟩ := hA h1
 have hi1 : (0 : Int) < l.length := by omega
 have HC := Lib.hid hcell
 clear hA hcell
 go_enter Tryz.func169, Tryz.ntmps169
 go_wp2_with fail
 refine (c_l01Below code p l.length _ h (by omega)).mono ?_
 rintro e w1 ⟨x, rfl, hx0, hx1, -, hd⟩
 have hx2 := hx1 hi1
 obtain ⟨k, rfl⟩ : ∃ k : Nat, x = k := ⟨x.toNat, by omega⟩
 obtain ⟨s, hs⟩ := exists_at (show k < l.length by omega)
 obtain ⟨es, -, hes, rfl, -⟩ := HC.out k s hs
 have hy : w1.cell? ⟨b, o + k, none⟩ = some (.string s) := by
  have := hes 0 (by omega)
  rw [hd.cell hb2 (by omega)]
  simpa using this
 have Hs := Lib.hid (List.mem_of_getElem? hs)
 clear hes hs hx1
 have HD := Lib.hid hd
 clear hd
 go_wp2_with fail
 go_ret
 exact ⟨s, rfl, Hs.out, HD.out⟩
theorem i64_and30 (n : Int) : bits .and .i64 n 1073741823 = n % 1073741824 := by
 have h255 : (BitVec.ofInt 64 1073741823).toNat = 2 ^ 30 - 1 := by decide
 have key : (BitVec.ofInt 64 n &&& BitVec.ofInt 64 1073741823).toNat = (n % ((2 ^ 64 : Nat) : Int)).toNat % 2 ^ 30 := by
  rw [BitVec.toNat_and, BitVec.toNat_ofInt, h255, Nat.and_two_pow_sub_one_eq_mod]
 show IntKind.i64.wrap ((BitVec.ofInt 64 n &&& BitVec.ofInt 64 1073741823).toNat : Nat) = n % 1073741824
 rw [key, IntKind.wrap_i64]
 omega
theorem m30_I64 (n : Int) : I64 (n % 1073741824) := by unfold I64; omega
theorem c_l01New (code : List UInt8) (v : Value) (lo : Nat) (w : World) (hs : SlOf C_Byte 1 lo w.heap.size w code v) (hn : code.length <= 1048576) :
  Calls Tryz.prog 80 #[v] w fun e w' => ∃ p : Nat, e = .returned (.pointer (some ⟨p, 0, none⟩)) /\ w.heap.size <= p /\ CurAt code p w' /\ Below w.heap.size w w' := by
 have Hs := Lib.hid hs
 obtain ⟨A, c, rfl, hlc, hc, hA⟩ := hs
 have HA := Lib.hid hA
 have hand := i64_and30
 clear hA
 go_enter Tryz.func80, Tryz.ntmps80
 go_wp2_with fail
 go_loopw [3, 4] (fun s3 s4 wr => ∃ (x : Int) (k : Nat), s3 = .int .i64 x /\ I64 x /\ s4 = .int .i64 k /\ k <= code.length /\ wr = w) (fun _ s4 _ => code.length - (intOf s4).toNat)
 case atStart => exact ⟨_, 0, rfl, ⟨by omega, by omega⟩, rfl, Nat.zero_le _, rfl⟩
 case round =>
  obtain ⟨x, k, rfl, hx, rfl, hk, rfl⟩ := hrel
  have Hx := Lib.hid hx
  clear hx
  have fin : CurAt code wr.heap.size (wr.alloc (.cells #[.slice A code.length c, .int .i64 0, .int .i64 x] 136)) :=
   ⟨A, c, 0, x, heap_alloc_new _ _, Hx.out, Nat.zero_le _, hn, Hs.out.keep (fun b o _ hlt => World.cell?_of_block (Below.heap_alloc _ _ _ hlt)) (Nat.zero_le _) (Nat.le_refl _) (fun _ _ _ h => h)⟩
  have Fin := Lib.hid fin
  clear fin
  by_cases hlt : k < code.length
  ·by_cases h4 : k < 4000
   ·obtain ⟨b, o, rfl, -, hbp, hcell⟩ := HA.out (by omega)
    obtain ⟨y, hy⟩ := exists_at hlt
    obtain ⟨es, -, hes, rfl⟩ := hcell k y hy
    have hby : wr.cell? ⟨b, o + k, none⟩ = some (.int .u8 y.toNat) := by
     have := hes 0 (by omega)
     simpa using this
    have hk0 : (0 : Int) <= k := by omega
    have hk1 : (k : Int) < code.length := by omega
    have hk2 : (k : Int) < 4000 := by omega
    have hy8 : (y.toNat : Int) <= 255 := by have := y.toNat_lt; omega
    have hy0 : (0 : Int) <= y.toNat := by omega
    clear hes hcell hy
    go_wp2_with fail
    go_roundw
    case rel => exact ⟨_, k + 1, rfl, m30_I64 _, by go_num, by omega, by first | trivial | rfl⟩
    case measure => simp [intOf]; omega
   ·have hk1 : (k : Int) < code.length := by omega
    have hk2 : ¬ (k : Int) < 4000 := by omega
    go_wp2_with fail
    go_ret
    exact ⟨_, rfl, Nat.le_refl _, Fin.out, bel⟩
  ·have hk1 : ¬ (k : Int) < code.length := by omega
   go_wp2_with fail
   go_ret
   exact ⟨_, rfl, Nat.le_refl _, Fin.out, bel⟩
theorem c_laws_big_no (code : List UInt8) (A : Option Addr) (c : Nat) (w : World) (h : code.length <= 1048576) :
  Calls Tryz.prog 16 #[.slice A code.length c] w fun e w' => e = .returned (.bool false) /\ w = w' := by
 have h1 : ¬ (1048576 : Int) < code.length := by omega
 have h2 : decide ((1048576 : Int) < code.length) = false := decide_eq_false h1
 go_enter Tryz.func16, Tryz.ntmps16
 go_wp2_with fail
 go_ret
 exact ⟨by first | rfl | (rw [h2]; rfl), rfl⟩
theorem c_laws_big_yes (code : List UInt8) (A : Option Addr) (c : Nat) (w : World) (h : ¬ code.length <= 1048576) :
  Calls Tryz.prog 16 #[.slice A code.length c] w fun e w' => e = .returned (.bool true) /\ w = w' := by
 have h1 : (1048576 : Int) < code.length := by omega
 have h2 : decide ((1048576 : Int) < code.length) = true := decide_eq_true h1
 go_enter Tryz.func16, Tryz.ntmps16
 go_wp2_with fail
 go_ret
 exact ⟨by first | rfl | (rw [h2]; rfl), rfl⟩
section
variable {H : Type} {enc : TypeId × Value -> H} {w : World} {base : Nat} {spare : Nat -> Bool} {held : Bool} {fuel : Nat} {cs : List Value} {x : DataW H × List MemPlace} {r : Reach} {b0 : Nat} {v : Value} {d : DataW H} {p : List MemPlace}
theorem cell_u8 {t : TypeId} (ht : Tryz.prog.underlying t = some (.int .u8)) (h : DataW.trod enc Tryz.prog w base spare held fuel t cs = some x) : ∃ b : UInt8, C_Byte b cs := by
 obtain ⟨n, h1, -, h2⟩ := DataW.trod_int ht h
 have hn : 0 <= n /\ n <= 255 := by
  simp [Lit.wf, IntKind.min, IntKind.max, IntKind.signed, IntKind.bits] at h2
  omega
 refine ⟨UInt8.ofNat n.toNat, ?_⟩
 unfold C_Byte
 rw [h1, UInt8.toNat_ofNat']
 congr 2
 omega
theorem o_bytes (h : DataW.trod enc Tryz.prog w base spare held fuel 28 cs = some x) : ∃ v l, cs = [v] /\ SlOf C_Byte 1 0 w.heap.size w l v :=
 slice_cells C_Byte Tryz.underlying28 (by kernel_rfl) (by decide) h (fun _ _ _ h' => cell_u8 Tryz.underlying5 h')
abbrev R_bytes (w : World) (l : List UInt8) (v : Value) : Prop := SlOf C_Byte 1 0 w.heap.size w l v
theorem r_bytes (hv : Value.okWide Tryz.prog w r b0 28 v) (h : DataW.Trod enc Tryz.prog w base spare held 28 v d p) : ∃ x, R_bytes w x v := by
 obtain ⟨a, len, cap, rfl⟩ := okWide_slice Tryz.underlying28 hv
 obtain ⟨fuel, hf⟩ := h
 obtain ⟨v', l, he, hs⟩ := o_bytes hf
 simp [Value.cells] at he
 subst he
 exact ⟨l, hs⟩
end
theorem cutA_nil (acc : List UInt8) : cutA acc [] = [acc] := rfl
theorem cutA_nl (acc r : List UInt8) : cutA acc (10 :: r) = acc :: cutA [] r := rfl
theorem cutA_on {c : UInt8} (hc : ¬ c = 10) (acc r : List UInt8) : cutA acc (c :: r) = cutA (acc ++ [c]) r := if_neg hc
theorem piece (s : ByteArray) (b i : Nat) : (s.extract b i).data.toList = (s.data.toList.drop b).take (i - b) := by
 rw [extract_eq]
def encLn (x : LineD) : List Value := [.int .i64 (x.ind : Nat), .string x.text, .int .i64 (x.at' : Nat)]
theorem encLn_len (x : LineD) : (encLn x).length = 3 := rfl
theorem encLn_one (d : LineD) : ∀ v ∈ encLn d, v.oneCell' = true := by intro u hu; simp [encLn] at hu; rcases hu with rfl | rfl | rfl <;> rfl
def C_Ln (d : LineD) (cs : List Value) : Prop := cs = encLn d
theorem encLn_C (d : LineD) (es : List Value) (h : C_Ln d es) : es = encLn d := h
structure LnAt (s : ByteArray) (P : List ByteArray) (i : Nat) (L : List LineD) : Prop where
 fit : (textF s).code = 0
 cut : P.map (fun x => x.data.toList) = cutA [] s.data.toList
 low : ∀ j, j < i -> ∀ x, P[j]? = some x -> lowB x.data.toList = false
 out : L = linesK (cutA [] s.data.toList) i
 size : L.length <= i
theorem LnAt.start {s : ByteArray} {P : List ByteArray} (h : (textF s).code = 0) (hc : P.map (fun x => x.data.toList) = cutA [] s.data.toList) : LnAt s P 0 [] :=
 ⟨h, hc, fun j hj => absurd hj (by omega), rfl, Nat.le_refl _⟩
theorem LnAt.at' {s : ByteArray} {P : List ByteArray} {i : Nat} {L : List LineD} (h : LnAt s P i L) {x : ByteArray} (hx : P[i]? = some x) : (cutA [] s.data.toList)[i]? = some x.data.toList := by
 rw [<- h.cut, List.getElem?_map, hx]
 rfl
theorem LnAt.next {s : ByteArray} {P : List ByteArray} {i : Nat} {L : List LineD} (h : LnAt s P i L) {x : ByteArray} (hx : P[i]? = some x) (hl : lowB x.data.toList = false) : LnAt s P (i + 1) (L ++ lineO (i + 1) x.data.toList) := by
 refine ⟨h.fit, h.cut, fun j hj y hy => ?_, ?_, ?_⟩
 ·rcases Nat.lt_or_ge j i with g | g
  ·exact h.low j g y hy
  ·rw [show j = i by omega, hx] at hy
   cases hy
   exact hl
 ·show _ = linesK (cutA [] s.data.toList) i ++ _
  rw [h.at' hx, <- h.out]
 ·rw [List.length_append]
  have : (lineO (i + 1) x.data.toList).length <= 1 := by unfold lineO; split <;> simp
  have := h.size
  omega
theorem LnAt.skip {s : ByteArray} {P : List ByteArray} {i : Nat} {L : List LineD} (h : LnAt s P i L) {x : ByteArray} (hx : P[i]? = some x) (hl : lowB x.data.toList = false) (hb : bareL x.data.toList = []) : LnAt s P (i + 1) L := by
 have := h.next hx hl
 unfold lineO at this
 rw [if_pos hb, List.append_nil] at this
 exact this
theorem LnAt.add {s : ByteArray} {P : List ByteArray} {i : Nat} {L : List LineD} (h : LnAt s P i L) {x : ByteArray} (hx : P[i]? = some x) (hl : lowB x.data.toList = false) (hb : ¬ bareL x.data.toList = []) : LnAt s P (i + 1) (L ++ [⟨indL (bareL x.data.toList), bs (trimLeftB (bareL x.data.toList) 32), i + 1⟩]) := by
 have := h.next hx hl
 unfold lineO at this
 rw [if_neg hb] at this
 exact this
theorem linesF_bad {s : ByteArray} (h : ¬ (textF s).code = 0) : linesF s = ([], textF s) := by
 unfold linesF
 rw [if_pos h]
theorem LnAt.bad {s : ByteArray} {P : List ByteArray} {i : Nat} {L : List LineD} (h : LnAt s P i L) {x : ByteArray} (hx : P[i]? = some x) (hl : lowB x.data.toList = true) : linesF s = ([], ⟨3, ((i + 1 : Nat) : Int), ⟨#[]⟩⟩) := by
 have e : (cutA [] s.data.toList).findIdx? lowB = some i := by
  rw [List.findIdx?_eq_some_iff_getElem]
  obtain ⟨h1, h2⟩ := List.getElem?_eq_some_iff.1 (h.at' hx)
  refine ⟨h1, by rw [h2]; exact hl, fun j hj => ?_⟩
  have hjl : j < P.length := by
   have := congrArg List.length h.cut
   rw [List.length_map] at this
   omega
  have h3 := h.low j hj P[j] (List.getElem?_eq_getElem hjl)
  have h4 : (cutA [] s.data.toList)[j]? = some P[j].data.toList := by rw [<- h.cut, List.getElem?_map, List.getElem?_eq_getElem hjl]; rfl
  rw [List.getElem?_eq_getElem (by omega)] at h4
  rw [Option.some.inj h4, h3]
  decide
 unfold linesF
 rw [if_neg (by rw [h.fit]; decide), e]
theorem LnAt.end' {s : ByteArray} {P : List ByteArray} {i : Nat} {L : List LineD} (h : LnAt s P i L) (hi : i = P.length) : linesF s = (L, flt0) := by
 have hlen : (cutA [] s.data.toList).length = P.length := by rw [<- h.cut, List.length_map]
 have e : (cutA [] s.data.toList).findIdx? lowB = none := by
  rw [List.findIdx?_eq_none_iff]
  intro y hy
  rw [<- h.cut] at hy
  obtain ⟨x, hx, rfl⟩ := List.mem_map.1 hy
  obtain ⟨j, hj⟩ := List.getElem?_of_mem hx
  exact h.low j (by have := (List.getElem?_eq_some_iff.1 hj).1; omega) x hj
 unfold linesF
 rw [if_neg (by rw [h.fit]; decide), e, h.out, hi, hlen]
theorem cutA_small : ∀ (l acc p : List UInt8), p ∈ cutA acc l -> p.length <= acc.length + l.length
 | [], acc, p, h => by
  rw [cutA_nil] at h
  simp at h
  rw [h]
  exact Nat.le_refl _
 | c :: l, acc, p, h => by
  by_cases hc : c = 10
  ·subst hc
   rw [cutA_nl] at h
   rcases List.mem_cons.1 h with rfl | h
   ·exact Nat.le_add_right _ _
   ·have := cutA_small l [] p h
    simp at this
    simp
    omega
  ·rw [cutA_on hc] at h
   have := cutA_small l (acc ++ [c]) p h
   simp at this
   simp
   omega
theorem LnAt.small {s : ByteArray} {P : List ByteArray} {i : Nat} {L : List LineD} (h : LnAt s P i L) {x : ByteArray} (hx : P[i]? = some x) : x.size <= s.size := by
 have h1 := List.mem_of_getElem? (h.at' hx)
 have h2 := cutA_small _ _ _ h1
 rw [list_size, list_size] at h2
 simp at h2
 exact h2
theorem low_yes {x : ByteArray} {t : Nat} (ht : t < x.size) (h : byteI x t < 32) : lowB x.data.toList = true := by
 unfold lowB
 rw [List.any_eq_true]
 refine ⟨x.get! t, List.mem_of_getElem? (byte_list ht), ?_⟩
 unfold byteI at h
 simp
 omega
theorem trim_drop (l : List UInt8) (c : UInt8) : trimLeftB l c = l.drop (l.length - (trimLeftB l c).length) := List.suffix_iff_eq_drop.1 (List.dropWhile_suffix _)
theorem bs_trim (l : List UInt8) : (bs l).extract (indL l) (bs l).size = bs (trimLeftB l 32) := by
 rw [extract_from, trim_drop l 32]
 rfl
theorem bareL_len (l : List UInt8) : (bareL l).length <= l.length := by
 unfold bareL
 exact Nat.le_trans (trimR_len _ _) (by rw [List.length_take]; exact Nat.min_le_right _ _)
def splitL (l : List UInt8) : List (List UInt8) := splitK [10] 0 (count l [10]) l
theorem splitL_end (l : List UInt8) : splitL (10 :: l) = [] :: splitL l := by
 unfold splitL
 rw [count_cons_eq, Nat.add_comm]
 have e : index (10 :: l) [10] = 0 := by rw [index_one]; rfl
 show (if index (10 :: l) [10] == -1 then _ else _) = _
 rw [e]
 rfl
theorem splitL_more {c : UInt8} (hc : c ≠ 10) (l : List UInt8) : ∃ a r, splitL l = a :: r /\ splitL (c :: l) = (c :: a) :: r := by
 unfold splitL
 rw [count_cons_ne c 10 l hc]
 rcases hk : count l [10] with _ | k
 ·exact ⟨l, [], rfl, rfl⟩
 ·obtain ⟨i, hi⟩ := index_of_count (s := l) (old := [10]) (by rw [hk]; exact Nat.succ_pos _)
  have e : index (c :: l) [10] = ((i + 1 : Nat) : Int) := by
   rw [index_one] at hi ⊢
   unfold indexByte
   have h1 : (c == 10) = false := beq_eq_false_iff_ne.2 hc
   have h2 : ((indexByte l 10) == -1) = false := beq_eq_false_iff_ne.2 (by omega)
   rw [h1, h2, hi]
   simp
  refine ⟨l.take i, splitK [10] 0 k (l.drop (i + 1)), ?_, ?_⟩
  ·show (if index l [10] == -1 then _ else _) = _
   have h2 : ((index l [10]) == -1) = false := beq_eq_false_iff_ne.2 (by omega)
   rw [h2, hi]
   rfl
  ·show (if index (c :: l) [10] == -1 then _ else _) = _
   have h2 : ((index (c :: l) [10]) == -1) = false := beq_eq_false_iff_ne.2 (by omega)
   rw [h2, e]
   rfl
theorem splitL_cut : ∀ (l acc : List UInt8), ∃ a r, splitL l = a :: r /\ cutA acc l = (acc ++ a) :: r
 | [], acc => ⟨[], [], rfl, by unfold cutA; rw [List.append_nil]⟩
 | c :: l, acc => by
  by_cases hc : c = 10
  ·subst hc
   obtain ⟨a, r, h1, h2⟩ := splitL_cut l []
   refine ⟨[], splitL l, splitL_end l, ?_⟩
   unfold cutA
   rw [if_pos rfl, h2, h1, List.append_nil, List.nil_append]
  ·obtain ⟨a, r, h1, h2⟩ := splitL_more hc l
   obtain ⟨b, q, h3, h4⟩ := splitL_cut l (acc ++ [c])
   rw [h1] at h3
   injection h3 with h5 h6
   subst h5 h6
   refine ⟨c :: a, r, h2, ?_⟩
   unfold cutA
   rw [if_neg hc, h4, List.append_assoc]
   rfl
theorem split_cut (s : ByteArray) : (splitB ⟨#[10]⟩ 0 (count s.data.toList [10]) s).map (fun x => x.data.toList) = cutA [] s.data.toList := by
 have h := splitB_data ⟨#[10]⟩ 0 (count s.data.toList [10]) s
 obtain ⟨a, r, h1, h2⟩ := splitL_cut s.data.toList []
 rw [h2, List.nil_append, <- h1]
 exact h
def MaxL (w : World) : Prop := ∃ m, w.cell? ⟨laysSplit_ren.g 1, 0, none⟩ = some (.int .i64 m)
theorem MaxL.below {w w' : World} (h : MaxL w) (hb : Below w.heap.size w w') : MaxL w' := by
 obtain ⟨m, h1⟩ := h
 exact ⟨m, (hb.cell (p := ⟨laysSplit_ren.g 1, 0, none⟩) (Lib.lt_of_cell h1)).trans h1⟩
theorem c_Split (s : ByteArray) (w : World) (hs : s.size <= 1048576) (hM : MaxL w) :
  Calls Tryz.prog 92 #[.string s, .string ⟨#[10]⟩] w fun e w' => ∃ P : List ByteArray, e = .returned (.slice (some ⟨w.heap.size, 0, none⟩) P.length P.length) /\ P.map (fun x => x.data.toList) = cutA [] s.data.toList /\ P.length <= s.size + 1 /\ w' = w.alloc (.cells (P.map Value.string).toArray 9) := by
 obtain ⟨m, hm⟩ := hM
 have h := Any.strings_Split laysSplit (by kernel_rfl) s ⟨#[10]⟩ m w (by omega) hm (by decide)
 change Calls Tryz.prog 92 _ _ _ at h
 have hlen := Lib.splitB_all ⟨#[10]⟩ (by decide) 0 _ s rfl
 have hle := Lib.countB_le ⟨#[10]⟩ (by decide) s.size s (Nat.le_refl _)
 refine h.mono ?_
 rintro e w' ⟨rfl, rfl⟩
 refine ⟨splitB ⟨#[10]⟩ 0 (countB s ⟨#[10]⟩) s, by rw [hlen], split_cut s, by rw [hlen]; have e1 : (⟨#[10]⟩ : ByteArray).size = 1 := rfl; (try rw [e1] at hle); omega, rfl⟩
theorem decode_low (s : ByteArray) (pos : Nat) : ((Utf8.decode s pos).1 < 32 ↔ byteI s pos < 32) /\ ∀ j, pos < j -> j < pos + (Utf8.decode s pos).2 -> 32 <= byteI s j := by
 have hd := decode_at s pos
 have hc := decodeN_conts (s.size - pos) (s.get! pos).toNat (s.get! (pos + 1)).toNat (s.get! (pos + 2)).toNat (s.get! (pos + 3)).toNat
 have hl : (decodeN (s.size - pos) (s.get! pos).toNat (s.get! (pos + 1)).toNat (s.get! (pos + 2)).toNat (s.get! (pos + 3)).toNat).1 < 32 ↔ (s.get! pos).toNat < 32 := by
  unfold decodeN
  repeat' split
  all_goals first | omega | (simp only; done) | (simp only; omega)
 rw [<- hd] at hc hl
 obtain ⟨c1, c2, c3, c4⟩ := hc
 refine ⟨by unfold byteI; omega, fun j h1 h2 => ?_⟩
 unfold byteI
 have : j = pos + 1 ∨ j = pos + 2 ∨ j = pos + 3 := by omega
 rcases this with rfl | rfl | rfl
 ·have := (c1 (by omega)).1; omega
 ·have := (c2 (by omega)).1; omega
 ·have := (c3 (by omega)).1; omega
def lowR (r : Nat) : Bool := decide (r < 32)
theorem idx_low (s : ByteArray) : ∀ (f pos : Nat), s.size <= pos + f -> ((∀ j, pos <= j -> j < s.size -> 32 <= byteI s j) -> idxFuncFrom lowR true s f pos = -1) /\ (∀ j, pos <= j -> j < s.size -> byteI s j < 32 -> 0 <= idxFuncFrom lowR true s f pos)
 | 0, pos, h => ⟨fun _ => rfl, fun j h1 h2 _ => by omega⟩
 | f + 1, pos, h => by
  unfold idxFuncFrom
  by_cases hp : pos < s.size
  ·rw [if_pos hp]
   obtain ⟨h1, h2⟩ := decode_low s pos
   have hw := Lib.width_pos s pos
   by_cases hr : (Utf8.decode s pos).1 < 32
   ·rw [if_pos (show lowR _ = true from decide_eq_true hr)]
    refine ⟨fun g => ?_, fun _ _ _ _ => by omega⟩
    have := g pos (Nat.le_refl _) hp
    have := h1.1 hr
    omega
   ·rw [if_neg (show ¬ lowR _ = true by unfold lowR; rw [decide_eq_false hr]; decide)]
    obtain ⟨g1, g2⟩ := idx_low s f (pos + (Utf8.decode s pos).2) (by omega)
    refine ⟨fun g => g1 (fun j hj => g j (by omega)), fun j hj hj2 hj3 => ?_⟩
    rcases Nat.lt_or_ge j (pos + (Utf8.decode s pos).2) with hlt | hge
    ·rcases Nat.lt_or_ge pos j with h3 | h3
     ·have := h2 j h3 hlt; omega
     ·have e : j = pos := by omega
      subst e
      exact absurd (h1.2 hj3) hr
    ·exact g2 j hge hj2 hj3
  ·rw [if_neg hp]
   exact ⟨fun _ => rfl, fun j h1 h2 _ => by omega⟩
theorem idxFunc_low (x : ByteArray) : decide (0 <= idxFunc lowR true x) = lowB x.data.toList := by
 obtain ⟨h1, h2⟩ := idx_low x x.size 0 (by omega)
 unfold idxFunc
 rcases hl : lowB x.data.toList with _ | _
 ·refine decide_eq_false ?_
  rw [h1 (fun j _ hj => ?_)]
  ·decide
  ·rcases Int.lt_or_le (byteI x j) 32 with g | g
   ·rw [low_yes hj g] at hl; cases hl
   ·exact g
 ·refine decide_eq_true ?_
  unfold lowB at hl
  obtain ⟨c, hc, hc2⟩ := List.any_eq_true.1 hl
  obtain ⟨t, ht⟩ := List.getElem?_of_mem hc
  have hlt : t < x.size := by rw [<- list_size]; exact (List.getElem?_eq_some_iff.1 ht).1
  rw [byte_list hlt] at ht
  cases ht
  exact h2 t (Nat.zero_le _) hlt (by unfold byteI; have := of_decide_eq_true hc2; omega)
theorem c_IndexLow (x : ByteArray) (w : World) :
  Calls Tryz.prog 93 #[.string x, .func (.func 94) #[] #[]] w fun e w' => ∃ z : Int, e = .returned (.int .i64 z) /\ decide (0 <= z) = lowB x.data.toList /\ Below w.heap.size w w' := by
 have h := Any.strings_IndexFunc laysIdxF 94 #[] (enters_of Tryz.func94 (by kernel_rfl) rfl) lowR x w (fun W r _ => by
  unfold FnGives
  by_cases hr : (r : Int) < 32
  ·have hd : lowR r = true := decide_eq_true (by omega)
   have hd2 : decide ((r : Int) < 32) = true := decide_eq_true hr
   rw [hd]
   go_enter Tryz.func94, Tryz.ntmps94
   go_wp2
   go_ret
   exact ⟨rfl, 0, rfl⟩
  ·have hd : lowR r = false := decide_eq_false (by omega)
   have hd2 : decide ((r : Int) < 32) = false := decide_eq_false hr
   rw [hd]
   go_enter Tryz.func94, Tryz.ntmps94
   go_wp2
   go_ret
   exact ⟨rfl, 0, rfl⟩)
 change Calls Tryz.prog 93 _ _ _ at h
 exact h.mono (fun e w' h => ⟨_, h.1, idxFunc_low x, h.2⟩)
open Go.ChangeShapes Go.WideShapes Go.ChangeAt Go.RowKit
variable {H : Type} {enc : TypeId × Value -> H}
theorem handed_shaped {C : Checked} {os : Os} {f : FuncId} {fn : Func} {s : ChangeSpec} {X : World -> Array Value -> Prop} {fresh : Bool}
  (hX : ∀ (w w' : World) (args : Array Value), w.heap = w'.heap -> X w args -> X w' args)
  (own : ownKnob C.prog.godebug = none) (started : os.Started) (noInit : C.prog.inits.idxOf? f = none) (hfn : C.prog.funcs[f]? = some fn)
  (witness : ∃ (w : World) (tape : Tape) (i : Input), w.os = os /\ (w.forCall tape i).Shaped C.prog /\ i.vars = [] /\ Input.okWide C.prog (w.forCall tape i) .any w.heap.size f i /\
   ((s.pre enc C.prog fn [] false (w.forCall tape i).memory i.args /\ X (w.forCall tape i).memory i.args) /\ sizedMet enc C.prog fn (OpenSpec.ofChange s) false (w.forCall tape i).memory i.args) /\ Assume.holds {} C.prog (lone (Frame.enter C.prog f i.args .normal) [] (w.forCall tape i)))
  (contract : ∀ (W : World) (base : Nat) (args : Array Value) (ds gs : List (DataW H)) (before : List MemPlace),
   (∀ (j : Nat) t v, fn.params[j]? = some t -> args[j]? = some v -> Value.okWide C.prog W .any base t v) ->
   DataW.Whole enc C.prog fn.params.toList s.vars false W args.toList ds gs before -> X W args -> W.ShapedOpen C.prog ->
   Calls C.prog f args W fun e W' => ∃ v, e = .returned v /\ s.post enc C.prog fn false fresh false false W args v W') :
  ReturnsInHanded {} C os f .any (fun w args => (s.pre enc C.prog fn [] false w args /\ X w args) /\ sizedMet enc C.prog fn (OpenSpec.ofChange s) false w args) (s.post enc C.prog fn false fresh false false) := by
 refine returnsInHanded_of_calls own started noInit witness ?_
 intro w tape i _ hsh _ hok hpre _
 obtain ⟨_, _, _, fn', hfn', _, _, _, _, hval⟩ := hok
 obtain rfl : fn' = fn := Option.some.inj (hfn'.symm.trans hfn)
 obtain ⟨⟨⟨ds, gs, before, hw, -⟩, hx⟩, -⟩ := hpre
 have hw' := DataW.Whole.of_heap (w' := w.forCall tape i) (by rfl) hw
 have hx' := hX _ (w.forCall tape i) _ (by rfl) hx
 exact (contract (w.forCall tape i) w.heap.size i.args ds gs before hval hw' hx' hsh).mono fun e W' ⟨v, he, hp⟩ => by
  subst he
  exact ChangeSpec.post_blind hp
theorem max_of {W : World} (h : W.ShapedOpen Tryz.prog) : MaxL W :=
 cell_of_shapedOpen_int (g := laysSplit_ren.g 1) (t := 3) (zero := #[.int .i64 0]) (k := .i64) h (of_decide_eq_true (by kernel_rfl)) (by kernel_rfl) rfl (by kernel_rfl) (by kernel_rfl) (by kernel_rfl)
end Go.Proofs.YtohcpifekcehjaaGreatDoor
