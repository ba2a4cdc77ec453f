/- Steps to FnExactIndentedOk and FnExactIndentedNormal and FnExactCrossed. No conditions. -/
import Derived.Test.YtohcpifekcehjaaGreatDoorKind6
import Derived.Lib.Split
import Derived.Lib.SplitLaws
import Derived.Lib.Replace
import Derived.Test.YtohcpifekcehjaaGreatDoorKind1
import Derived.Lib.SpaceUEq
import Derived.SizedLaws
import Derived.Shelf.Vars
import Derived.Test.YtohcpifekcehjaaGreatDoorKind4
import Derived.Test.YtohcpifekcehjaaGreatDoorKind5
import Derived.Test.YtohcpifekcehjaaGreatDoorKind3
import Derived.Test.YtohcpifekcehjaaGreatDoorKind2
import Derived.Shelf.Lays2
import Derived.Shelf.Spec.SearchS
import Derived.Shelf.Spec.SlicesInsert
import Derived.Shelf.Spec.SlicesInsertGrow
import Derived.Lib.LazyBuf
import Derived.Deep.RegionLaw
import Derived.Deep.CutBlock
import Derived.Deep.CutRange
import Derived.Laws.IdiomCopy
import Derived.Lib.Overlaps
import Derived.Lib.AppendZerosOnto
import Derived.Laws.Externs
import Derived.WalkKit
import Derived.Lib.Walk
import Derived.Lib.SliceRun
import Derived.Lib.JoinLaws
import Derived.Lib.AppendZeros
import Derived.Shelf.RegionOpenPlain
import Derived.RowKit
set_option maxHeartbeats 16000000
set_option maxRecDepth 20000
namespace Go.Proofs.YtohcpifekcehjaaGreatDoor
open Go.RowKit Go.Lib
theorem cutA_nil (acc : List UInt8) : cutA acc [] = [acc] := rfl
theorem cutA_nl (acc r : List UInt8) : cutA acc (10 :: r) = acc :: cutA [] r := rfl
theorem cutA_on {c : UInt8} (hc : ¬ c = 10) (acc r : List UInt8) : cutA acc (c :: r) = cutA (acc ++ [c]) r := if_neg hc
structure CutAt (s : ByteArray) (b i : Nat) (done : List ByteArray) : Prop where
 run : (i <= s.size /\ b <= i /\ done.map (fun x => x.data.toList) ++ cutA ((s.data.toList.drop b).take (i - b)) (s.data.toList.drop i) = cutA [] s.data.toList) ∨ (i = s.size + 1 /\ done.map (fun x => x.data.toList) = cutA [] s.data.toList)
theorem CutAt.start (s : ByteArray) : CutAt s 0 0 [] := ⟨.inl ⟨Nat.zero_le _, Nat.le_refl _, rfl⟩⟩
theorem piece (s : ByteArray) (b i : Nat) : (s.extract b i).data.toList = (s.data.toList.drop b).take (i - b) := by
 rw [extract_eq]
theorem CutAt.in' {s : ByteArray} {b i : Nat} {done : List ByteArray} (h : CutAt s b i done) (hi : i < s.size) : b <= i /\ done.map (fun x => x.data.toList) ++ cutA ((s.data.toList.drop b).take (i - b)) (s.get! i :: s.data.toList.drop (i + 1)) = cutA [] s.data.toList := by
 rcases h.run with ⟨h1, h2, h3⟩ | ⟨h1, -⟩
 ·rw [drop_byte hi] at h3
  exact ⟨h2, h3⟩
 ·omega
theorem CutAt.cut {s : ByteArray} {b i : Nat} {done : List ByteArray} (h : CutAt s b i done) (hi : i < s.size) (hb : byteI s i = 10) : CutAt s (i + 1) (i + 1) (done ++ [s.extract b i]) := by
 obtain ⟨h2, h3⟩ := h.in' hi
 have e : s.get! i = 10 := by have := @byte_is s i 10; rw [hb] at this; exact beq_iff_eq.1 (by rw [this]; rfl)
 rw [e, cutA_nl] at h3
 refine ⟨.inl ⟨hi, Nat.le_refl _, ?_⟩⟩
 rw [List.map_append, List.append_assoc, Nat.sub_self, List.take_zero, <- h3]
 simp only [List.map_cons, List.map_nil, List.cons_append, List.nil_append, piece]
theorem CutAt.on {s : ByteArray} {b i : Nat} {done : List ByteArray} (h : CutAt s b i done) (hi : i < s.size) (hb : byteI s i ≠ 10) : CutAt s b (i + 1) done := by
 obtain ⟨h2, h3⟩ := h.in' hi
 have e : ¬ s.get! i = 10 := fun e => hb (by unfold byteI; rw [e]; rfl)
 rw [cutA_on e] at h3
 refine ⟨.inl ⟨hi, by omega, ?_⟩⟩
 rw [<- h3]
 congr 2
 have hl : s.data.toList.length = s.size := list_size s
 have e2 : i + 1 - b = (i - b) + 1 := by omega
 have e3 : (s.data.toList.drop b)[i - b]? = some (s.get! i) := by rw [List.getElem?_drop, show b + (i - b) = i by omega, byte_list hi]
 rw [e2, List.take_add_one, e3]
 rfl
theorem CutAt.last {s : ByteArray} {b : Nat} {done : List ByteArray} (h : CutAt s b s.size done) : CutAt s (s.size + 1) (s.size + 1) (done ++ [s.extract b s.size]) := by
 rcases h.run with ⟨h1, h2, h3⟩ | ⟨h1, -⟩
 ·rw [drop_none (Nat.le_refl _), cutA_nil] at h3
  refine ⟨.inr ⟨rfl, ?_⟩⟩
  rw [List.map_append, <- h3]
  simp only [List.map_cons, List.map_nil, piece]
 ·omega
theorem CutAt.done {s : ByteArray} {b i : Nat} {done : List ByteArray} (h : CutAt s b i done) (hi : s.size < i) : done.map (fun x => x.data.toList) = cutA [] s.data.toList := by
 rcases h.run with ⟨h1, -, -⟩ | ⟨-, h2⟩
 ·omega
 ·exact h2
theorem CutAt.begin {s : ByteArray} {b i : Nat} {done : List ByteArray} (h : CutAt s b i done) (hi : i <= s.size) : b <= i := by
 rcases h.run with ⟨h1, h2, -⟩ | ⟨h1, h2⟩ <;> omega
theorem c_l11Cut (s : ByteArray) (w : World) (hs : s.size <= 20000) :
  Calls Tryz.prog 54 #[.string s, .int .u8 10] w fun e w' => ∃ (l : List ByteArray) (v : Value), e = .returned v /\ l.map (fun x => x.data.toList) = cutA [] s.data.toList /\ l.length <= s.size + 1 /\ RowE encS 1 9 w.heap.size w' l v /\ Below w.heap.size w w' := by
 obtain ⟨i0, hi, hz0, hz1, hz2⟩ := info_parts (show (Tryz.prog.info? 9).map (fun i => (i.zero, i.size, i.bytes)) = some (some (.string ⟨#[]⟩), 1, 16) from by kernel_rfl)
 have HS := hid (CutAt.start s)
 go_enter Tryz.func54, Tryz.ntmps54
 go_wp2_with fail
 go_loopw [5, 6, 7] (fun s5 s6 s7 wr => ∃ (l : List ByteArray) (b i : Nat), s6 = .int .i64 b /\ s7 = .int .i64 i /\ i <= s.size + 1 /\ l.length <= i /\ CutAt s b i l /\ RowE encS 1 9 w.heap.size wr l s5 /\ Below w.heap.size w wr) (fun _ _ s7 _ => s.size + 1 - (intOf s7).toNat)
 case atStart => exact ⟨[], 0, 0, rfl, rfl, Nat.zero_le _, Nat.le_refl _, HS.out, own_empty rfl (Nat.le_refl _), bel⟩
 case round =>
  obtain ⟨l, b, i, rfl, rfl, hi1, hl, hc, hR, hB⟩ := hrel
  obtain ⟨A, c, rfl⟩ := hR.form
  have HR := hid hR
  have HC := hid hc
  have HB := hid hB
  have hwz := hB.size
  clear hR hc hB
  obtain ⟨k, hk⟩ : ∃ k, k = l.length := ⟨_, rfl⟩
  have HL := hid hk
  rw [<- hk] at HR ⊢
  have hlk : k <= i := by omega
  clear hk hl
  by_cases hle : (i : Int) <= s.size
  ·have hd : decide ((i : Int) <= s.size) = true := decide_eq_true hle
   have hbi := HC.out.begin (by omega)
   have hbi0 : (b : Int) <= i := by omega
   rcases Nat.lt_or_ge i s.size with hii | hge
   ·have he : ((i : Int) == s.size) = false := beq_eq_false_iff_ne.2 (by omega)
    have hz : (0 : Int) <= i := by omega
    have hlt : (i : Int) < s.size := by omega
    obtain ⟨x, hxx⟩ : ∃ x : Nat, x = (s.get! i).toNat := ⟨_, rfl⟩
    have hx : (s[i]'hii).toNat = x := by rw [hxx]; exact get_byte s i hii
    have HY : Hid (byteI s i = x) := hid (by unfold byteI; rw [hxx])
    clear hxx
    by_cases h10 : (x : Int) = 10
    ·have h1 : ((x : Int) == 10) = true := beq_iff_eq.2 h10
     go_wp2_with (at_builtin; go_loud (refine wpList_append_rows (C := C_Str) rfl (.tmp 26) (.tmp 31) 31 rfl w.heap.size 9 i0 (.string ⟨#[]⟩) 1 16 Tryz.underlying31 hi hz0 hz1 hz2 rfl (by decide) encS_len encS_one encS_C _ k l rfl HL.out.symm (HR.out.below bel) [s.extract b i] (some ⟨_, 0, none⟩) 1 1 _ _ rfl rfl (sl_lit wr [s.extract b i] (fun x hx => by simp at hx; rw [hx, ByteArray.size_extract]; omega) (by simp) 9 _ rfl) (by unfold maxLen; omega) (by omega) (by simp; omega) ?_))
     intro v' w4 hR4 hg4 ha4
     obtain ⟨A4, c4, rfl⟩ := hR4.form
     have HR4 := hid hR4
     have hb4 : Below w.heap.size wr w4 := Below.grown ((bel : Below wr.heap.size wr _).mono hwz) hg4 (by simp; omega) (fun q hq => (World.ownsRow.lt HR.out q hq).1)
     have HB4 := hid (HB.out.trans hb4)
     clear hR4 hg4 ha4 hb4
     go_wp2_with fail
     go_roundw
     case rel => exact ⟨l ++ [s.extract b i], i + 1, i + 1, by go_num, by go_num, by omega, by rw [List.length_append, <- HL.out]; simp; omega, HC.out.cut hii (by rw [HY.out]; exact h10), HR4.out, HB4.out⟩
     case measure => first | omega | (simp [intOf]; done) | (simp [intOf]; omega)
    ·have h1 : ((x : Int) == 10) = false := beq_eq_false_iff_ne.2 h10
     go_wp2_with fail
     go_roundw
     case rel => exact ⟨l, b, i + 1, rfl, by go_num, by omega, by rw [<- HL.out]; omega, HC.out.on hii (by rw [HY.out]; exact h10), HR.out, HB.out⟩
     case measure => first | omega | (simp [intOf]; done) | (simp [intOf]; omega)
   ·obtain rfl : i = s.size := by omega
    go_wp2_with (at_builtin; go_loud (refine wpList_append_rows (C := C_Str) rfl (.tmp 26) (.tmp 31) 31 rfl w.heap.size 9 i0 (.string ⟨#[]⟩) 1 16 Tryz.underlying31 hi hz0 hz1 hz2 rfl (by decide) encS_len encS_one encS_C _ k l rfl HL.out.symm (HR.out.below bel) [s.extract b s.size] (some ⟨_, 0, none⟩) 1 1 _ _ rfl rfl (sl_lit wr [s.extract b s.size] (fun x hx => by simp at hx; rw [hx, ByteArray.size_extract]; omega) (by simp) 9 _ rfl) (by unfold maxLen; omega) (by omega) (by simp; omega) ?_))
    intro v' w4 hR4 hg4 ha4
    obtain ⟨A4, c4, rfl⟩ := hR4.form
    have HR4 := hid hR4
    have hb4 : Below w.heap.size wr w4 := Below.grown ((bel : Below wr.heap.size wr _).mono hwz) hg4 (by simp; omega) (fun q hq => (World.ownsRow.lt HR.out q hq).1)
    have HB4 := hid (HB.out.trans hb4)
    clear hR4 hg4 ha4 hb4
    go_wp2_with fail
    go_roundw
    case rel => exact ⟨l ++ [s.extract b s.size], s.size + 1, s.size + 1, by go_num, by go_num, by omega, by rw [List.length_append, <- HL.out]; simp; omega, HC.out.last, HR4.out, HB4.out⟩
    case measure => first | omega | (simp [intOf]; done) | (simp [intOf]; omega)
  ·have hd : decide ((i : Int) <= s.size) = false := decide_eq_false hle
   go_wp2_with fail
   go_ret
   exact ⟨l, _, rfl, HC.out.done (by omega), by rw [<- HL.out]; omega, HR.out, HB.out⟩
def encLn (x : LineD) : List Value := [.int .i64 (x.ind : Nat), .string x.text, .int .i64 (x.at' : Nat)]
theorem encLn_len (x : LineD) : (encLn x).length = 3 := rfl
theorem encLn_one (d : LineD) : ∀ v ∈ encLn d, v.oneCell' = true := by intro u hu; simp [encLn] at hu; rcases hu with rfl | rfl | rfl <;> rfl
def C_Ln (d : LineD) (cs : List Value) : Prop := cs = encLn d
theorem encLn_C (d : LineD) (es : List Value) (h : C_Ln d es) : es = encLn d := h
structure LnAt (s : ByteArray) (P : List ByteArray) (i : Nat) (L : List LineD) : Prop where
 fit : (textF s).code = 0
 cut : P.map (fun x => x.data.toList) = cutA [] s.data.toList
 low : ∀ j, j < i -> ∀ x, P[j]? = some x -> lowB x.data.toList = false
 out : L = linesK (cutA [] s.data.toList) i
 size : L.length <= i
theorem LnAt.start {s : ByteArray} {P : List ByteArray} (h : (textF s).code = 0) (hc : P.map (fun x => x.data.toList) = cutA [] s.data.toList) : LnAt s P 0 [] :=
 ⟨h, hc, fun j hj => absurd hj (by omega), rfl, Nat.le_refl _⟩
theorem LnAt.at' {s : ByteArray} {P : List ByteArray} {i : Nat} {L : List LineD} (h : LnAt s P i L) {x : ByteArray} (hx : P[i]? = some x) : (cutA [] s.data.toList)[i]? = some x.data.toList := by
 rw [<- h.cut, List.getElem?_map, hx]
 rfl
theorem LnAt.next {s : ByteArray} {P : List ByteArray} {i : Nat} {L : List LineD} (h : LnAt s P i L) {x : ByteArray} (hx : P[i]? = some x) (hl : lowB x.data.toList = false) : LnAt s P (i + 1) (L ++ lineO (i + 1) x.data.toList) := by
 refine ⟨h.fit, h.cut, fun j hj y hy => ?_, ?_, ?_⟩
 ·rcases Nat.lt_or_ge j i with g | g
  ·exact h.low j g y hy
  ·rw [show j = i by omega, hx] at hy
   cases hy
   exact hl
 ·show _ = linesK (cutA [] s.data.toList) i ++ _
  rw [h.at' hx, <- h.out]
 ·rw [List.length_append]
  have : (lineO (i + 1) x.data.toList).length <= 1 := by unfold lineO; split <;> simp
  have := h.size
  omega
theorem LnAt.skip {s : ByteArray} {P : List ByteArray} {i : Nat} {L : List LineD} (h : LnAt s P i L) {x : ByteArray} (hx : P[i]? = some x) (hl : lowB x.data.toList = false) (hb : bareL x.data.toList = []) : LnAt s P (i + 1) L := by
 have := h.next hx hl
 unfold lineO at this
 rw [if_pos hb, List.append_nil] at this
 exact this
theorem LnAt.add {s : ByteArray} {P : List ByteArray} {i : Nat} {L : List LineD} (h : LnAt s P i L) {x : ByteArray} (hx : P[i]? = some x) (hl : lowB x.data.toList = false) (hb : ¬ bareL x.data.toList = []) : LnAt s P (i + 1) (L ++ [⟨indL (bareL x.data.toList), bs (trimLeftB (bareL x.data.toList) 32), i + 1⟩]) := by
 have := h.next hx hl
 unfold lineO at this
 rw [if_neg hb] at this
 exact this
theorem linesF_bad {s : ByteArray} (h : ¬ (textF s).code = 0) : linesF s = ([], textF s) := by
 unfold linesF
 rw [if_pos h]
theorem LnAt.bad {s : ByteArray} {P : List ByteArray} {i : Nat} {L : List LineD} (h : LnAt s P i L) {x : ByteArray} (hx : P[i]? = some x) (hl : lowB x.data.toList = true) : linesF s = ([], ⟨3, ((i + 1 : Nat) : Int), ⟨#[]⟩⟩) := by
 have e : (cutA [] s.data.toList).findIdx? lowB = some i := by
  rw [List.findIdx?_eq_some_iff_getElem]
  obtain ⟨h1, h2⟩ := List.getElem?_eq_some_iff.1 (h.at' hx)
  refine ⟨h1, by rw [h2]; exact hl, fun j hj => ?_⟩
  have hjl : j < P.length := by
   have := congrArg List.length h.cut
   rw [List.length_map] at this
   omega
  have h3 := h.low j hj P[j] (List.getElem?_eq_getElem hjl)
  have h4 : (cutA [] s.data.toList)[j]? = some P[j].data.toList := by rw [<- h.cut, List.getElem?_map, List.getElem?_eq_getElem hjl]; rfl
  rw [List.getElem?_eq_getElem (by omega)] at h4
  rw [Option.some.inj h4, h3]
  decide
 unfold linesF
 rw [if_neg (by rw [h.fit]; decide), e]
theorem LnAt.end' {s : ByteArray} {P : List ByteArray} {i : Nat} {L : List LineD} (h : LnAt s P i L) (hi : i = P.length) : linesF s = (L, flt0) := by
 have hlen : (cutA [] s.data.toList).length = P.length := by rw [<- h.cut, List.length_map]
 have e : (cutA [] s.data.toList).findIdx? lowB = none := by
  rw [List.findIdx?_eq_none_iff]
  intro y hy
  rw [<- h.cut] at hy
  obtain ⟨x, hx, rfl⟩ := List.mem_map.1 hy
  obtain ⟨j, hj⟩ := List.getElem?_of_mem hx
  exact h.low j (by have := (List.getElem?_eq_some_iff.1 hj).1; omega) x hj
 unfold linesF
 rw [if_neg (by rw [h.fit]; decide), e, h.out, hi, hlen]
theorem cutA_small : ∀ (l acc p : List UInt8), p ∈ cutA acc l -> p.length <= acc.length + l.length
 | [], acc, p, h => by
  rw [cutA_nil] at h
  simp at h
  rw [h]
  exact Nat.le_refl _
 | c :: l, acc, p, h => by
  by_cases hc : c = 10
  ·subst hc
   rw [cutA_nl] at h
   rcases List.mem_cons.1 h with rfl | h
   ·exact Nat.le_add_right _ _
   ·have := cutA_small l [] p h
    simp at this
    simp
    omega
  ·rw [cutA_on hc] at h
   have := cutA_small l (acc ++ [c]) p h
   simp at this
   simp
   omega
theorem LnAt.small {s : ByteArray} {P : List ByteArray} {i : Nat} {L : List LineD} (h : LnAt s P i L) {x : ByteArray} (hx : P[i]? = some x) : x.size <= s.size := by
 have h1 := List.mem_of_getElem? (h.at' hx)
 have h2 := cutA_small _ _ _ h1
 rw [list_size, list_size] at h2
 simp at h2
 exact h2
theorem low_no {x : ByteArray} (h : ∀ t, t < x.size -> 32 <= byteI x t) : lowB x.data.toList = false := by
 unfold lowB
 rw [List.any_eq_false]
 intro c hc
 obtain ⟨t, ht⟩ := List.getElem?_of_mem hc
 have hl : t < x.size := by rw [<- list_size]; exact (List.getElem?_eq_some_iff.1 ht).1
 rw [byte_list hl] at ht
 have := h t hl
 cases ht
 unfold byteI at this
 simp
 omega
theorem low_yes {x : ByteArray} {t : Nat} (ht : t < x.size) (h : byteI x t < 32) : lowB x.data.toList = true := by
 unfold lowB
 rw [List.any_eq_true]
 refine ⟨x.get! t, List.mem_of_getElem? (byte_list ht), ?_⟩
 unfold byteI at h
 simp
 omega
theorem trim_drop (l : List UInt8) (c : UInt8) : trimLeftB l c = l.drop (l.length - (trimLeftB l c).length) := List.suffix_iff_eq_drop.1 (List.dropWhile_suffix _)
theorem bs_trim (l : List UInt8) : (bs l).extract (indL l) (bs l).size = bs (trimLeftB l 32) := by
 rw [extract_from, trim_drop l 32]
 rfl
theorem bareL_len (l : List UInt8) : (bareL l).length <= l.length := by
 unfold bareL
 exact Nat.le_trans (trimR_len _ _) (by rw [List.length_take]; exact Nat.min_le_right _ _)
def splitL (l : List UInt8) : List (List UInt8) := splitK [10] 0 (count l [10]) l
theorem splitL_end (l : List UInt8) : splitL (10 :: l) = [] :: splitL l := by
 unfold splitL
 rw [count_cons_eq, Nat.add_comm]
 have e : index (10 :: l) [10] = 0 := by rw [index_one]; rfl
 show (if index (10 :: l) [10] == -1 then _ else _) = _
 rw [e]
 rfl
theorem splitL_more {c : UInt8} (hc : c ≠ 10) (l : List UInt8) : ∃ a r, splitL l = a :: r /\ splitL (c :: l) = (c :: a) :: r := by
 unfold splitL
 rw [count_cons_ne c 10 l hc]
 rcases hk : count l [10] with _ | k
 ·exact ⟨l, [], rfl, rfl⟩
 ·obtain ⟨i, hi⟩ := index_of_count (s := l) (old := [10]) (by rw [hk]; exact Nat.succ_pos _)
  have e : index (c :: l) [10] = ((i + 1 : Nat) : Int) := by
   rw [index_one] at hi ⊢
   unfold indexByte
   have h1 : (c == 10) = false := beq_eq_false_iff_ne.2 hc
   have h2 : ((indexByte l 10) == -1) = false := beq_eq_false_iff_ne.2 (by omega)
   rw [h1, h2, hi]
   simp
  refine ⟨l.take i, splitK [10] 0 k (l.drop (i + 1)), ?_, ?_⟩
  ·show (if index l [10] == -1 then _ else _) = _
   have h2 : ((index l [10]) == -1) = false := beq_eq_false_iff_ne.2 (by omega)
   rw [h2, hi]
   rfl
  ·show (if index (c :: l) [10] == -1 then _ else _) = _
   have h2 : ((index (c :: l) [10]) == -1) = false := beq_eq_false_iff_ne.2 (by omega)
   rw [h2, e]
   rfl
theorem splitL_cut : ∀ (l acc : List UInt8), ∃ a r, splitL l = a :: r /\ cutA acc l = (acc ++ a) :: r
 | [], acc => ⟨[], [], rfl, by unfold cutA; rw [List.append_nil]⟩
 | c :: l, acc => by
  by_cases hc : c = 10
  ·subst hc
   obtain ⟨a, r, h1, h2⟩ := splitL_cut l []
   refine ⟨[], splitL l, splitL_end l, ?_⟩
   unfold cutA
   rw [if_pos rfl, h2, h1, List.append_nil, List.nil_append]
  ·obtain ⟨a, r, h1, h2⟩ := splitL_more hc l
   obtain ⟨b, q, h3, h4⟩ := splitL_cut l (acc ++ [c])
   rw [h1] at h3
   injection h3 with h5 h6
   subst h5 h6
   refine ⟨c :: a, r, h2, ?_⟩
   unfold cutA
   rw [if_neg hc, h4, List.append_assoc]
   rfl
theorem split_cut (s : ByteArray) : (splitB ⟨#[10]⟩ 0 (count s.data.toList [10]) s).map (fun x => x.data.toList) = cutA [] s.data.toList := by
 have h := splitB_data ⟨#[10]⟩ 0 (count s.data.toList [10]) s
 obtain ⟨a, r, h1, h2⟩ := splitL_cut s.data.toList []
 rw [h2, List.nil_append, <- h1]
 exact h
def MaxL (w : World) : Prop := ∃ m, w.cell? ⟨laysSplit_ren.g 1, 0, none⟩ = some (.int .i64 m)
theorem MaxL.below {w w' : World} (h : MaxL w) (hb : Below w.heap.size w w') : MaxL w' := by
 obtain ⟨m, h1⟩ := h
 exact ⟨m, (hb.cell (p := ⟨laysSplit_ren.g 1, 0, none⟩) (Lib.lt_of_cell h1)).trans h1⟩
theorem c_Split (s : ByteArray) (w : World) (hs : s.size <= 1048576) (hM : MaxL w) :
  Calls Tryz.prog 92 #[.string s, .string ⟨#[10]⟩] w fun e w' => ∃ P : List ByteArray, e = .returned (.slice (some ⟨w.heap.size, 0, none⟩) P.length P.length) /\ P.map (fun x => x.data.toList) = cutA [] s.data.toList /\ P.length <= s.size + 1 /\ w' = w.alloc (.cells (P.map Value.string).toArray 9) := by
 obtain ⟨m, hm⟩ := hM
 have h := Any.strings_Split laysSplit (by kernel_rfl) s ⟨#[10]⟩ m w (by omega) hm (by decide)
 change Calls Tryz.prog 92 _ _ _ at h
 have hlen := Lib.splitB_all ⟨#[10]⟩ (by decide) 0 _ s rfl
 have hle := Lib.countB_le ⟨#[10]⟩ (by decide) s.size s (Nat.le_refl _)
 refine h.mono ?_
 rintro e w' ⟨rfl, rfl⟩
 refine ⟨splitB ⟨#[10]⟩ 0 (countB s ⟨#[10]⟩) s, by rw [hlen], split_cut s, by rw [hlen]; have e1 : (⟨#[10]⟩ : ByteArray).size = 1 := rfl; (try rw [e1] at hle); omega, rfl⟩
theorem decode_low (s : ByteArray) (pos : Nat) : ((Utf8.decode s pos).1 < 32 ↔ byteI s pos < 32) /\ ∀ j, pos < j -> j < pos + (Utf8.decode s pos).2 -> 32 <= byteI s j := by
 have hd := decode_at s pos
 have hc := decodeN_conts (s.size - pos) (s.get! pos).toNat (s.get! (pos + 1)).toNat (s.get! (pos + 2)).toNat (s.get! (pos + 3)).toNat
 have hl : (decodeN (s.size - pos) (s.get! pos).toNat (s.get! (pos + 1)).toNat (s.get! (pos + 2)).toNat (s.get! (pos + 3)).toNat).1 < 32 ↔ (s.get! pos).toNat < 32 := by
  unfold decodeN
  repeat' split
  all_goals first | omega | (simp only; done) | (simp only; omega)
 rw [<- hd] at hc hl
 obtain ⟨c1, c2, c3, c4⟩ := hc
 refine ⟨by unfold byteI; omega, fun j h1 h2 => ?_⟩
 unfold byteI
 have : j = pos + 1 ∨ j = pos + 2 ∨ j = pos + 3 := by omega
 rcases this with rfl | rfl | rfl
 ·have := (c1 (by omega)).1; omega
 ·have := (c2 (by omega)).1; omega
 ·have := (c3 (by omega)).1; omega
def lowR (r : Nat) : Bool := decide (r < 32)
theorem idx_low (s : ByteArray) : ∀ (f pos : Nat), s.size <= pos + f -> ((∀ j, pos <= j -> j < s.size -> 32 <= byteI s j) -> idxFuncFrom lowR true s f pos = -1) /\ (∀ j, pos <= j -> j < s.size -> byteI s j < 32 -> 0 <= idxFuncFrom lowR true s f pos)
 | 0, pos, h => ⟨fun _ => rfl, fun j h1 h2 _ => by omega⟩
 | f + 1, pos, h => by
  unfold idxFuncFrom
  by_cases hp : pos < s.size
  ·rw [if_pos hp]
   obtain ⟨h1, h2⟩ := decode_low s pos
   have hw := Lib.width_pos s pos
   by_cases hr : (Utf8.decode s pos).1 < 32
   ·rw [if_pos (show lowR _ = true from decide_eq_true hr)]
    refine ⟨fun g => ?_, fun _ _ _ _ => by omega⟩
    have := g pos (Nat.le_refl _) hp
    have := h1.1 hr
    omega
   ·rw [if_neg (show ¬ lowR _ = true by unfold lowR; rw [decide_eq_false hr]; decide)]
    obtain ⟨g1, g2⟩ := idx_low s f (pos + (Utf8.decode s pos).2) (by omega)
    refine ⟨fun g => g1 (fun j hj => g j (by omega)), fun j hj hj2 hj3 => ?_⟩
    rcases Nat.lt_or_ge j (pos + (Utf8.decode s pos).2) with hlt | hge
    ·rcases Nat.lt_or_ge pos j with h3 | h3
     ·have := h2 j h3 hlt; omega
     ·have e : j = pos := by omega
      subst e
      exact absurd (h1.2 hj3) hr
    ·exact g2 j hge hj2 hj3
  ·rw [if_neg hp]
   exact ⟨fun _ => rfl, fun j h1 h2 _ => by omega⟩
theorem idxFunc_low (x : ByteArray) : decide (0 <= idxFunc lowR true x) = lowB x.data.toList := by
 obtain ⟨h1, h2⟩ := idx_low x x.size 0 (by omega)
 unfold idxFunc
 rcases hl : lowB x.data.toList with _ | _
 ·refine decide_eq_false ?_
  rw [h1 (fun j _ hj => ?_)]
  ·decide
  ·rcases Int.lt_or_le (byteI x j) 32 with g | g
   ·rw [low_yes hj g] at hl; cases hl
   ·exact g
 ·refine decide_eq_true ?_
  unfold lowB at hl
  obtain ⟨c, hc, hc2⟩ := List.any_eq_true.1 hl
  obtain ⟨t, ht⟩ := List.getElem?_of_mem hc
  have hlt : t < x.size := by rw [<- list_size]; exact (List.getElem?_eq_some_iff.1 ht).1
  rw [byte_list hlt] at ht
  cases ht
  exact h2 t (Nat.zero_le _) hlt (by unfold byteI; have := of_decide_eq_true hc2; omega)
theorem c_IndexLow (x : ByteArray) (w : World) :
  Calls Tryz.prog 93 #[.string x, .func (.func 94) #[] #[]] w fun e w' => ∃ z : Int, e = .returned (.int .i64 z) /\ decide (0 <= z) = lowB x.data.toList /\ Below w.heap.size w w' := by
 have h := Any.strings_IndexFunc laysIdxF 94 #[] (enters_of Tryz.func94 (by kernel_rfl) rfl) lowR x w (fun W r _ => by
  unfold FnGives
  by_cases hr : (r : Int) < 32
  ·have hd : lowR r = true := decide_eq_true (by omega)
   have hd2 : decide ((r : Int) < 32) = true := decide_eq_true hr
   rw [hd]
   go_enter Tryz.func94, Tryz.ntmps94
   go_wp2
   go_ret
   exact ⟨rfl, 0, rfl⟩
  ·have hd : lowR r = false := decide_eq_false (by omega)
   have hd2 : decide ((r : Int) < 32) = false := decide_eq_false hr
   rw [hd]
   go_enter Tryz.func94, Tryz.ntmps94
   go_wp2
   go_ret
   exact ⟨rfl, 0, rfl⟩)
 change Calls Tryz.prog 93 _ _ _ at h
 exact h.mono (fun e w' h => ⟨_, h.1, idxFunc_low x, h.2⟩)
open Go.ChangeShapes Go.WideShapes Go.ChangeAt Go.RowKit
variable {H : Type} {enc : TypeId × Value -> H}
theorem handed_shaped {C : Checked} {os : Os} {f : FuncId} {fn : Func} {s : ChangeSpec} {X : World -> Array Value -> Prop} {fresh : Bool}
  (hX : ∀ (w w' : World) (args : Array Value), w.heap = w'.heap -> X w args -> X w' args)
  (own : ownKnob C.prog.godebug = none) (started : os.Started) (noInit : C.prog.inits.idxOf? f = none) (hfn : C.prog.funcs[f]? = some fn)
  (witness : ∃ (w : World) (tape : Tape) (i : Input), w.os = os /\ (w.forCall tape i).Shaped C.prog /\ i.vars = [] /\ Input.okWide C.prog (w.forCall tape i) .any w.heap.size f i /\
   ((s.pre enc C.prog fn [] false (w.forCall tape i).memory i.args /\ X (w.forCall tape i).memory i.args) /\ sizedMet enc C.prog fn (OpenSpec.ofChange s) false (w.forCall tape i).memory i.args) /\ Assume.holds {} C.prog (lone (Frame.enter C.prog f i.args .normal) [] (w.forCall tape i)))
  (contract : ∀ (W : World) (base : Nat) (args : Array Value) (ds gs : List (DataW H)) (before : List MemPlace),
   (∀ (j : Nat) t v, fn.params[j]? = some t -> args[j]? = some v -> Value.okWide C.prog W .any base t v) ->
   DataW.Whole enc C.prog fn.params.toList s.vars false W args.toList ds gs before -> X W args -> W.ShapedOpen C.prog ->
   Calls C.prog f args W fun e W' => ∃ v, e = .returned v /\ s.post enc C.prog fn false fresh false false W args v W') :
  ReturnsInHanded {} C os f .any (fun w args => (s.pre enc C.prog fn [] false w args /\ X w args) /\ sizedMet enc C.prog fn (OpenSpec.ofChange s) false w args) (s.post enc C.prog fn false fresh false false) := by
 refine returnsInHanded_of_calls own started noInit witness ?_
 intro w tape i _ hsh _ hok hpre _
 obtain ⟨_, _, _, fn', hfn', _, _, _, _, hval⟩ := hok
 obtain rfl : fn' = fn := Option.some.inj (hfn'.symm.trans hfn)
 obtain ⟨⟨⟨ds, gs, before, hw, -⟩, hx⟩, -⟩ := hpre
 have hw' := DataW.Whole.of_heap (w' := w.forCall tape i) (by rfl) hw
 have hx' := hX _ (w.forCall tape i) _ (by rfl) hx
 exact (contract (w.forCall tape i) w.heap.size i.args ds gs before hval hw' hx' hsh).mono fun e W' ⟨v, he, hp⟩ => by
  subst he
  exact ChangeSpec.post_blind hp
theorem max_of {W : World} (h : W.ShapedOpen Tryz.prog) : MaxL W :=
 cell_of_shapedOpen_int (g := laysSplit_ren.g 1) (t := 3) (zero := #[.int .i64 0]) (k := .i64) h (of_decide_eq_true (by kernel_rfl)) (by kernel_rfl) rfl (by kernel_rfl) (by kernel_rfl) (by kernel_rfl)
open Go.RowKit
theorem takeAny_succ {D : Type} (p : D -> Bool) (l : List D) (k : Nat) (d : D) (h : l[k]? = some d) : (l.take (k + 1)).any p = ((l.take k).any p || p d) := by
 rw [List.take_add_one, h]; simp
theorem takeAny_no {D : Type} (p : D -> Bool) (l : List D) (k : Nat) (d : D) (h : l[k]? = some d) (ha : (l.take k).any p = false) (hp : p d = false) : (l.take (k + 1)).any p = false := by
 rw [takeAny_succ p l k d h, ha, hp]; rfl
def isS (s x : ByteArray) : Bool := x.toList == s.toList
def hasS (l : List ByteArray) (s : ByteArray) : Bool := l.any (isS s)
theorem Aside.join {S S' : Nat -> Prop} {a b c : World} (h : Aside S a b) (k : Aside S' b c) (hs : ∀ q, S' q -> q < a.heap.size -> S q) : Aside S a c :=
 ⟨k.os.trans h.os, k.tape.trans h.tape, k.output.trans h.output, Nat.le_trans h.size k.size, fun i hi hn => (k.block i (Nat.lt_of_lt_of_le hi h.size) (fun hq => hn (hs i hq hi))).trans (h.block i hi hn)⟩
theorem own_leaf {n : Nat} {S : Nat -> Prop} {w : World} {k num : Int} {f : Bool} {t : ByteArray} (hk : I64 k) (hn : I64 num) (ht : t.size <= 9223372036854775807) : OwnT (n + 1) S w ⟨k, f, num, t, [], []⟩ [.int .i64 k, .bool f, .int .i64 num, .string t, .slice none 0 0, .slice none 0 0] :=
 OwnT.into ⟨_, _, fun _ => False, fun _ => False, rfl, hk, hn, ht, fun _ h => h.elim, fun _ h => h.elim, ⟨none, 0, rfl, Nat.le_refl _, by omega, fun h => absurd h (by simp)⟩, ⟨none, 0, rfl, Nat.le_refl _, by omega, fun h => absurd h (by simp)⟩⟩
theorem c_rd_TextTree (t : ByteArray) (w : World) : Calls Tryz.prog 135 #[.string t] w fun e w' => e = .returned (.agg #[.int .i64 4, .bool false, .int .i64 0, .string t, .slice none 0 0, .slice none 0 0]) /\ Below w.heap.size w w' := by
 go_enter Tryz.func135, Tryz.ntmps135
 go_wp2_with fail
 exact bodyPost_ret (v := .agg #[.int .i64 4, .bool false, .int .i64 0, .string t, .slice none 0 0, .slice none 0 0]) (by simp only [results, Tryz.results135]; go_simp) rfl ⟨rfl, bel⟩
theorem c_rd_IntTree (x : Int) (w : World) : Calls Tryz.prog 136 #[.int .i64 x] w fun e w' => e = .returned (.agg #[.int .i64 3, .bool false, .int .i64 x, .string ⟨#[]⟩, .slice none 0 0, .slice none 0 0]) /\ Below w.heap.size w w' := by
 go_enter Tryz.func136, Tryz.ntmps136
 go_wp2_with fail
 exact bodyPost_ret (v := .agg #[.int .i64 3, .bool false, .int .i64 x, .string ⟨#[]⟩, .slice none 0 0, .slice none 0 0]) (by simp only [results, Tryz.results136]; go_simp) rfl ⟨rfl, bel⟩
def Rd (s : ByteArray) (j : Nat) (l : List UInt8) : Prop := s.data.toList.drop j = l
theorem Rd.byte {s : ByteArray} {j : Nat} {l : List UInt8} (h : Rd s j l) (k : Nat) {c : UInt8} (hk : l[k]? = some c) : j + k < s.size /\ byteI s (j + k) = (c.toNat : Int) := by
 have h1 : s.data.toList[j + k]? = some c := by rw [<- List.getElem?_drop, show s.data.toList.drop j = l from h, hk]
 obtain ⟨h2, h3⟩ := List.getElem?_eq_some_iff.1 h1
 have h4 : j + k < s.size := by rw [Array.length_toList] at h2; exact h2
 refine ⟨h4, ?_⟩
 rw [Array.getElem_toList] at h3
 unfold byteI ByteArray.get!
 show (((s.data[j + k]!).toNat : Nat) : Int) = _
 rw [getElem!_pos s.data (j + k) h4, h3]
theorem Rd.byte0 {s : ByteArray} {j : Nat} {c : UInt8} {l : List UInt8} (h : Rd s j (c :: l)) : j < s.size /\ byteI s j = (c.toNat : Int) := h.byte 0 rfl
def okR (r : Nat) : Prop := r <= 1114111 /\ ¬ (55296 <= r /\ r <= 57343)
theorem dec_text {r : Nat} (h : okR r) (m : List UInt8) : decodeL ((textB r).data.toList ++ m) = (r, (textB r).data.toList.length) /\ decodeL ((textB r).data.toList ++ m) ≠ (65533, 1) /\ 1 <= (textB r).data.toList.length := by
 have hl := textB_list r
 obtain ⟨l, hll⟩ : ∃ l, l = (textB r).data.toList := ⟨_, rfl⟩
 rw [<- hll] at hl ⊢
 clear hll
 unfold okR at h
 rw [decodeL_N]
 unfold encN4 at hl
 rw [if_neg (by omega)] at hl
 by_cases c1 : r < 128
 ·rw [if_pos c1] at hl
  rcases l with _ | ⟨x, _ | ⟨y, l⟩⟩
  ·cases hl
  ·simp only [List.map_cons, List.map_nil, List.cons.injEq, and_true] at hl
   have w := (rune_way1 ([x] ++ m).length (([x] ++ m).getD 0 0).toNat (([x] ++ m).getD 1 0).toNat (([x] ++ m).getD 2 0).toNat (([x] ++ m).getD 3 0).toNat (by simp; omega))
   have he : encN4 (([x] ++ m).getD 0 0).toNat = [(([x] ++ m).getD 0 0).toNat] := by
    simp only [List.cons_append, List.nil_append, List.getD_cons_zero]
    unfold encN4
    rw [if_neg (by omega), if_pos (by omega)]
   refine ⟨?_, w.1.1 he, by simp⟩
   rw [w.2 he]
   simp only [List.cons_append, List.nil_append, List.getD_cons_zero, hl, List.length_cons, List.length_nil]
  ·simp at hl
 rw [if_neg c1] at hl
 by_cases c2 : r < 2048
 ·rw [if_pos c2] at hl
  rcases l with _ | ⟨x, _ | ⟨y, _ | ⟨z, l⟩⟩⟩
  ·cases hl
  ·simp at hl
  ·simp only [List.map_cons, List.map_nil, List.cons.injEq, and_true] at hl
   obtain ⟨h1, h2⟩ := hl
   simp only [List.cons_append, List.nil_append, List.getD_cons_zero, List.getD_cons_succ]
   have w := rune_way2 (x :: y :: m).length x.toNat y.toNat (m.getD 0 0).toNat (m.getD 1 0).toNat (by omega) (by omega) (by omega)
   have hp : partN x.toNat = x.toNat - 192 := by unfold partN; rw [if_neg (by omega), if_neg (by omega), if_pos (by omega)]
   have hg : gathN x.toNat y.toNat (m.getD 0 0).toNat (m.getD 1 0).toNat 2 = r := by show 64 * partN x.toNat + y.toNat - 128 = r; rw [hp]; omega
   have hv := w.1.1 ⟨by simp, by unfold contN; simp; omega, by
    rw [hg]
    unfold encN4
    rw [if_neg (by omega), if_neg (by omega), if_pos (by omega), h1, h2]⟩
   refine ⟨?_, hv, by simp⟩
   rw [w.2 hv, hg]
   rfl
  ·simp at hl
 rw [if_neg c2] at hl
 by_cases c3 : r < 65536
 ·rw [if_pos c3] at hl
  rcases l with _ | ⟨x, _ | ⟨y, _ | ⟨z, _ | ⟨u, l⟩⟩⟩⟩
  ·cases hl
  ·simp at hl
  ·simp at hl
  ·simp only [List.map_cons, List.map_nil, List.cons.injEq, and_true] at hl
   obtain ⟨h1, h2, h3⟩ := hl
   simp only [List.cons_append, List.nil_append, List.getD_cons_zero, List.getD_cons_succ]
   have w := rune_way3 (x :: y :: z :: m).length x.toNat y.toNat z.toNat (m.getD 0 0).toNat (by omega) (by omega) (by omega) (by omega)
   have hp : partN x.toNat = x.toNat - 224 := by unfold partN; rw [if_neg (by omega), if_pos (by omega)]
   have hg : gathN x.toNat y.toNat z.toNat (m.getD 0 0).toNat 3 = r := by show 64 * (64 * partN x.toNat + y.toNat - 128) + z.toNat - 128 = r; rw [hp]; omega
   have hv := w.1.1 ⟨by simp, by unfold contN; simp; omega, by unfold contN; simp; omega, by
    rw [hg]
    unfold encN4
    rw [if_neg (by omega), if_neg (by omega), if_neg (by omega), if_pos (by omega), h1, h2, h3]⟩
   refine ⟨?_, hv, by simp⟩
   rw [w.2 hv, hg]
   rfl
  ·simp at hl
 rw [if_neg c3] at hl
 rcases l with _ | ⟨x, _ | ⟨y, _ | ⟨z, _ | ⟨u, _ | ⟨v, l⟩⟩⟩⟩⟩
 ·cases hl
 ·simp at hl
 ·simp at hl
 ·simp at hl
 ·simp only [List.map_cons, List.map_nil, List.cons.injEq, and_true] at hl
  obtain ⟨h1, h2, h3, h4⟩ := hl
  simp only [List.cons_append, List.nil_append, List.getD_cons_zero, List.getD_cons_succ]
  have w := rune_way4 (x :: y :: z :: u :: m).length x.toNat y.toNat z.toNat u.toNat (by omega) (by omega) (by omega) (by omega) (by omega)
  have hp : partN x.toNat = x.toNat - 240 := by unfold partN; rw [if_pos (by omega)]
  have hg : gathN x.toNat y.toNat z.toNat u.toNat 4 = r := by show 64 * (64 * (64 * partN x.toNat + y.toNat - 128) + z.toNat - 128) + u.toNat - 128 = r; rw [hp]; omega
  have hv := w.1.1 ⟨by simp, by unfold contN; simp; omega, by unfold contN; simp; omega, by unfold contN; simp; omega, by
   rw [hg]
   unfold encN4
   rw [if_neg (by omega), if_neg (by omega), if_neg (by omega), if_neg (by omega), h1, h2, h3, h4]⟩
  refine ⟨?_, hv, by simp⟩
  rw [w.2 hv, hg]
  rfl
 ·simp at hl
def textsB (rs : List Nat) : List UInt8 := rs.flatMap fun (r : Nat) => (textB r).data.toList
theorem runes_texts (x : ByteArray) : ∀ (rs : List Nat) (i : Nat), (∀ r ∈ rs, okR r) -> x.data.toList.drop i = textsB rs -> runesAt x i = some rs
 | [], i, _, h => by
  refine runesAt_end ?_
  intro hi
  have h1 := congrArg List.length h
  rw [List.length_drop, Array.length_toList] at h1
  have h2 : x.data.size = x.size := rfl
  simp [textsB] at h1
  omega
 | r :: rs, i, hok, h => by
  have h0 : textsB (r :: rs) = (textB r).data.toList ++ textsB rs := by unfold textsB; rw [List.flatMap_cons]
  rw [h0] at h
  obtain ⟨d1, d2, d3⟩ := dec_text (hok r (by simp)) (textsB rs)
  have hi : i < x.size := by
   rcases Nat.lt_or_ge i x.size with hi | hi
   ·exact hi
   ·rw [List.drop_of_length_le (by rw [Array.length_toList]; exact hi)] at h
    have h1 := congrArg List.length h
    rw [List.length_append, List.length_nil] at h1
    omega
  have hd := decodeL_drop x i hi
  rw [h] at hd
  rw [runesAt_step hi (by rw [<- hd]; exact d2), <- hd, d1]
  rw [runes_texts x rs (i + (textB r).data.toList.length) (fun y hy => hok y (by simp [hy])) (by rw [<- List.drop_drop, h, List.drop_left])]
  rfl
theorem quotN_cost {s : ByteArray} {j : Nat} (hj : j < s.size) (h34 : byteI s j ≠ 34) (h : ¬ (quotN s j).2 < 0) : ∃ r : Nat, (quotN s j).1 = (r : Int) /\ okR r /\ ((j + (qR r).length : Nat) : Int) <= (quotN s j).2 := by
 have hq : ∀ r : Nat, r < 128 -> (qR r) = qN r := fun r hr => by unfold qR; rw [if_pos hr]
 unfold quotN at h ⊢
 by_cases c0 : byteI s j = 92
 ·rw [if_pos c0] at h ⊢
  have hr1 := fourB_range s (j + 1 + 1)
  have hr7 := fourB_range s (j + 1 + 7)
  have b1 := byteI_range s (j + 1)
  have low : ∀ (r : Nat), okR r -> (qR r).length <= 2 -> ∀ y : Int × Int, y = ((r : Int), ((j + 1 : Nat) : Int) + 1) -> ∃ r : Nat, y.1 = (r : Int) /\ okR r /\ ((j + (qR r).length : Nat) : Int) <= y.2 := by
   intro r h1 h2 y hy
   rw [hy]
   exact ⟨r, rfl, h1, by simp only; omega⟩
  unfold escB at h ⊢
  by_cases e0 : j + 1 < s.size
  case neg => rw [if_neg e0] at h; exact absurd (show (-1 : Int) < 0 by decide) h
  rw [if_pos e0] at h ⊢
  by_cases e1 : byteI s (j + 1) = 34 ∨ byteI s (j + 1) = 92 ∨ byteI s (j + 1) = 47
  ·rw [if_pos e1]
   rcases e1 with e1 | e1 | e1
   ·rw [e1]; exact low 34 (by unfold okR; omega) (by decide) _ rfl
   ·rw [e1]; exact low 92 (by unfold okR; omega) (by decide) _ rfl
   ·rw [e1]; exact low 47 (by unfold okR; omega) (by decide) _ rfl
  rw [if_neg e1] at h ⊢
  by_cases e2 : byteI s (j + 1) = 98
  ·rw [if_pos e2]; exact low 8 (by unfold okR; omega) (by decide) _ rfl
  rw [if_neg e2] at h ⊢
  by_cases e3 : byteI s (j + 1) = 102
  ·rw [if_pos e3]; exact low 12 (by unfold okR; omega) (by decide) _ rfl
  rw [if_neg e3] at h ⊢
  by_cases e4 : byteI s (j + 1) = 110
  ·rw [if_pos e4]; exact low 10 (by unfold okR; omega) (by decide) _ rfl
  rw [if_neg e4] at h ⊢
  by_cases e5 : byteI s (j + 1) = 114
  ·rw [if_pos e5]; exact low 13 (by unfold okR; omega) (by decide) _ rfl
  rw [if_neg e5] at h ⊢
  by_cases e6 : byteI s (j + 1) = 116
  ·rw [if_pos e6]; exact low 9 (by unfold okR; omega) (by decide) _ rfl
  rw [if_neg e6] at h ⊢
  by_cases e7 : byteI s (j + 1) = 117
  case neg => rw [if_neg e7] at h; exact absurd (show (-1 : Int) < 0 by decide) h
  rw [if_pos e7] at h ⊢
  by_cases d1 : fourB s (j + 1 + 1) < 0 ∨ inB (fourB s (j + 1 + 1)) 56320 57343 = true
  case pos => rw [if_pos d1] at h; exact absurd (show (-1 : Int) < 0 by decide) h
  rw [if_neg d1] at h ⊢
  have d1' := not_or.1 d1
  have i1 : ¬ (56320 <= fourB s (j + 1 + 1) /\ fourB s (j + 1 + 1) <= 57343) := by have := d1'.2; unfold inB at this; simpa using this
  by_cases d2 : inB (fourB s (j + 1 + 1)) 55296 56319 = false
  ·rw [if_pos d2]
   have i2 : ¬ (55296 <= fourB s (j + 1 + 1) /\ fourB s (j + 1 + 1) <= 56319) := by unfold inB at d2; simpa using d2
   have hqr := qR_len (fourB s (j + 1 + 1)).toNat
   refine ⟨(fourB s (j + 1 + 1)).toNat, by simp only; omega, by unfold okR; omega, by simp only; omega⟩
  rw [if_neg d2] at h ⊢
  have i2 : 55296 <= fourB s (j + 1 + 1) /\ fourB s (j + 1 + 1) <= 56319 := by unfold inB at d2; simpa using d2
  by_cases d3 : s.size < j + 1 + 7 ∨ byteI s (j + 1 + 5) ≠ 92 ∨ byteI s (j + 1 + 6) ≠ 117
  case pos => rw [if_pos d3] at h; exact absurd (show (-1 : Int) < 0 by decide) h
  rw [if_neg d3] at h ⊢
  by_cases d4 : inB (fourB s (j + 1 + 7)) 56320 57343 = true
  case neg => rw [if_neg d4] at h; exact absurd (show (-1 : Int) < 0 by decide) h
  rw [if_pos d4]
  have i4 : 56320 <= fourB s (j + 1 + 7) /\ fourB s (j + 1 + 7) <= 57343 := by unfold inB at d4; simpa using d4
  have hqr := qR_len (65536 + 1024 * (fourB s (j + 1 + 1) - 55296) + fourB s (j + 1 + 7) - 56320).toNat
  refine ⟨(65536 + 1024 * (fourB s (j + 1 + 1) - 55296) + fourB s (j + 1 + 7) - 56320).toNat, by simp only; omega, by unfold okR; omega, by simp only; omega⟩
 ·rw [if_neg c0] at h ⊢
  by_cases c1 : (runeB s j).1 < 32
  ·rw [if_pos c1] at h; exact absurd (show (-1 : Int) < 0 by decide) h
  rw [if_neg c1] at h ⊢
  unfold runeB at h c1 ⊢
  rw [if_pos hj] at h c1 ⊢
  by_cases hd : Utf8.decode s j = (65533, 1)
  ·rw [if_pos hd] at h; exact absurd (show (-1 : Int) < 0 by decide) h
  rw [if_neg hd] at h c1 ⊢
  simp only at c1 ⊢
  have hfit := decode_fits s j hj
  have hdl := decodeL_drop s j hj
  have hl : s.data.toList.length = s.size := Array.length_toList
  have hne : s.data.toList.drop j ≠ [] := fun e => by
   have := congrArg List.length e
   rw [List.length_drop, hl] at this
   simp at this
   omega
  have hway := decode_way _ hne (by rw [hdl]; exact hd)
  rw [hdl] at hway
  refine ⟨(Utf8.decode s j).1, rfl, ?_⟩
  rcases hway with ⟨y, h1, h2, h3⟩ | ⟨h1, h2, h3⟩
  ·have hb : byteI s j = (y.toNat : Int) := by
    have hr : Rd s j (y :: (s.data.toList.drop j).drop (Utf8.decode s j).2) := by
     unfold Rd
     rw [<- List.singleton_append, <- h3, List.take_append_drop]
    exact hr.byte0.2
   refine ⟨by unfold okR; omega, ?_⟩
   rw [h1, hq _ h2]
   have hqn : (qN y.toNat).length = 1 := by
    unfold qN
    rw [if_neg (by omega), if_neg (by omega), if_neg (by omega), if_neg (by omega), if_neg (by omega), if_neg (by omega), if_neg (by omega)]
    rfl
   omega
  ·have hk : ((s.data.toList.drop j).take (Utf8.decode s j).2).length = (Utf8.decode s j).2 := by rw [List.length_take, List.length_drop, hl]; omega
   have hlen := congrArg List.length h2
   rw [hk] at hlen
   have hen := congrArg List.length (textB_list (Utf8.decode s j).1)
   rw [List.length_map, hlen] at hen
   refine ⟨?_, ?_⟩
   ·unfold okR
    unfold encN4 at hen
    by_cases hbad : 1114111 < (Utf8.decode s j).1 ∨ (55296 <= (Utf8.decode s j).1 /\ (Utf8.decode s j).1 <= 57343)
    ·rw [if_pos hbad] at hen
     simp at hen
     omega
    ·omega
   ·unfold qR
    rw [if_neg (by omega), hlen]
    omega
theorem quotG_cost (s : ByteArray) : ∀ (f j : Nat) (acc : List UInt8), s.size - j <= f -> ¬ (quotG s j acc).2 < 0 -> ∃ rs : List Nat, (∀ r ∈ rs, okR r) /\ (quotG s j acc).1 = ⟨(acc ++ textsB rs).toArray⟩ /\ ((j + (rs.flatMap qR).length + 1 : Nat) : Int) <= (quotG s j acc).2 := by
 intro f
 induction f with
 | zero =>
  intro j acc hf h
  rw [quotG_end (by omega)] at h
  exact absurd (show (-1 : Int) < 0 by decide) h
 | succ f ih =>
  intro j acc hf h
  by_cases hj : j < s.size
  ·rw [quotG_at hj] at h ⊢
   by_cases c1 : byteI s j = 34
   ·rw [if_pos c1]
    exact ⟨[], fun r hr => (by cases hr), by simp [textsB], by simp⟩
   rw [if_neg c1] at h ⊢
   by_cases c2 : (quotN s j).2 < 0
   ·rw [if_pos c2] at h; exact absurd (show (-1 : Int) < 0 by decide) h
   rw [if_neg c2] at h ⊢
   obtain ⟨r, h1, h2, h3⟩ := quotN_cost hj c1 c2
   have hnx := quotN_next s j
   rw [h1] at h ⊢
   obtain ⟨rs, g1, g2, g3⟩ := ih _ _ (by omega) h
   refine ⟨r :: rs, fun x hx => ?_, ?_, ?_⟩
   ·rcases List.mem_cons.1 hx with rfl | hx
    ·exact h2
    ·exact g1 x hx
   ·rw [g2, List.append_assoc]
    rfl
   ·rw [List.flatMap_cons, List.length_append]
    omega
  ·rw [quotG_end hj] at h
   exact absurd (show (-1 : Int) < 0 by decide) h
theorem quotB_cost {s : ByteArray} {j : Nat} (h : ¬ (quotB s j).2 < 0) : utf8B (quotB s j).1 = true /\ ((j + (quoteB (quotB s j).1).data.toList.length : Nat) : Int) <= (quotB s j).2 := by
 unfold quotB at h ⊢
 by_cases hj : j < s.size
 ·rw [if_pos hj] at h ⊢
  by_cases c1 : byteI s j = 34
  ·rw [if_pos c1] at h ⊢
   obtain ⟨rs, h1, h2, h3⟩ := quotG_cost s _ (j + 1) [] (Nat.le_refl _) h
   rw [List.nil_append] at h2
   have hr : runesAt (quotG s (j + 1) []).1 0 = some rs := runes_texts _ rs 0 h1 (by rw [h2, List.drop_zero])
   refine ⟨by unfold utf8B; rw [hr]; rfl, ?_⟩
   rw [quoteB_runes hr]
   simp only [List.length_append, List.length_cons, List.length_nil]
   omega
  ·rw [if_neg c1] at h
   exact absurd (show (-1 : Int) < 0 by decide) h
 ·rw [if_neg hj] at h
  exact absurd (show (-1 : Int) < 0 by decide) h
theorem i64_zero : I64 0 := by unfold I64; omega
open Go.Shelf
def laysBs_ren : Go.Shelf.Ren := ⟨fun | 26 => 183 | 33 => 239 | 34 => 240 | 38 => 264 | n => n, fun | 24 => 31 | 9 => 9 | 3 => 3 | 4 => 4 | 40 => 179 | 0 => 0 | n => n, fun | n => n⟩
theorem laysBs : Go.Proofs.Lays2.n26 Tryz.prog laysBs_ren := {
 mixed := by kernel_rfl
 f26 := Tryz.func183.trans (congrArg some (by kernel_rfl))
 f33 := Tryz.func239.trans (congrArg some (by kernel_rfl))
 f34 := Tryz.func240.trans (congrArg some (by kernel_rfl))
 f38 := Tryz.func264.trans (congrArg some (by kernel_rfl))
 t0 := Tryz.underlying0
 a0 := Tryz.isAgg0
 z0 := Tryz.sizeOf0
 v0 := Tryz.zeroValue0
 t3 := Tryz.underlying3
 a3 := Tryz.isAgg3
 z3 := Tryz.sizeOf3
 v3 := Tryz.zeroValue3
 t4 := Tryz.underlying4
 a4 := Tryz.isAgg4
 z4 := Tryz.sizeOf4
 v4 := Tryz.zeroValue4
 t9 := Tryz.underlying9
 a9 := Tryz.isAgg9
 z9 := Tryz.sizeOf9
 v9 := Tryz.zeroValue9
 t24 := Tryz.underlying31
 a24 := Tryz.isAgg31
 z24 := Tryz.sizeOf31
 v24 := Tryz.zeroValue31
 t40 := Tryz.underlying179
 a40 := Tryz.isAgg179
 z40 := Tryz.sizeOf179
 v40 := Tryz.zeroValue179 }
def laysIs_ren : Go.Shelf.Ren := ⟨fun | 22 => 184 | 29 => 241 | 30 => 242 | 36 => 265 | 17 => 281 | n => n, fun | 24 => 31 | 9 => 9 | 3 => 3 | 4 => 4 | 0 => 0 | n => n, fun | n => n⟩
theorem laysIs : Go.Proofs.Lays2.n22 Tryz.prog laysIs_ren := {
 mixed := by kernel_rfl
 f17 := Tryz.func281.trans (congrArg some (by kernel_rfl))
 f22 := Tryz.func184.trans (congrArg some (by kernel_rfl))
 f29 := Tryz.func241.trans (congrArg some (by kernel_rfl))
 f30 := Tryz.func242.trans (congrArg some (by kernel_rfl))
 f36 := Tryz.func265.trans (congrArg some (by kernel_rfl))
 t0 := Tryz.underlying0
 a0 := Tryz.isAgg0
 z0 := Tryz.sizeOf0
 v0 := Tryz.zeroValue0
 t3 := Tryz.underlying3
 a3 := Tryz.isAgg3
 z3 := Tryz.sizeOf3
 v3 := Tryz.zeroValue3
 t4 := Tryz.underlying4
 a4 := Tryz.isAgg4
 z4 := Tryz.sizeOf4
 v4 := Tryz.zeroValue4
 t9 := Tryz.underlying9
 a9 := Tryz.isAgg9
 z9 := Tryz.sizeOf9
 v9 := Tryz.zeroValue9
 t24 := Tryz.underlying31
 a24 := Tryz.isAgg31
 z24 := Tryz.sizeOf31
 v24 := Tryz.zeroValue31
 i9 := by kernel_rfl }
def SortK (ks : List ByteArray) : Prop := ks.Pairwise fun a b => lessS a b = true
theorem lessS_trans3 {a b c : ByteArray} (h1 : lessS a b = true) (h2 : lessS b c = true) : lessS a c = true := bless_trans2 _ _ _ h1 h2
theorem lessS_other {a b : ByteArray} (h : lessS a b = false) (hn : a ≠ b) : lessS b a = true := by
 rcases h2 : lessS b a with _ | _
 ·exact absurd (toList_inj (bless_tri _ _ h h2)) hn
 ·rfl
theorem hasS_mem (ks : List ByteArray) (s : ByteArray) : hasS ks s = true ↔ s ∈ ks := by
 unfold hasS isS
 rw [List.any_eq_true]
 constructor
 ·rintro ⟨x, hx, h⟩
  have := toList_inj (beq_iff_eq.1 h)
  rwa [this] at hx
 ·intro h
  exact ⟨s, h, beq_self_eq_true _⟩
theorem beq_BA (a b : ByteArray) : (a == b) = (b.toList == a.toList) := by
 have h : (a == b) = (a.data == b.data) := rfl
 rw [h, Bool.eq_iff_iff, beq_iff_eq, beq_iff_eq]
 constructor
 ·intro e
  rw [ByteArray.ext e]
 ·intro e
  rw [toList_inj e]
theorem contains_hasS : ∀ (ks : List ByteArray) (s : ByteArray), ks.contains s = hasS ks s
 | [], _ => rfl
 | x :: ks, s => by
  rw [List.contains_cons, contains_hasS ks s, beq_BA]
  rfl
theorem tw_mem {D : Type} {p : D -> Bool} : ∀ {l : List D} {a : D}, a ∈ l.takeWhile p -> p a = true
 | [], a, h => by simp at h
 | x :: l, a, h => by
  rw [List.takeWhile_cons] at h
  by_cases hx : p x = true
  ·rw [if_pos hx] at h
   rcases List.mem_cons.1 h with rfl | h
   ·exact hx
   ·exact tw_mem h
  ·rw [if_neg hx] at h
   cases h
theorem posK_le (ks : List ByteArray) (key : ByteArray) : posK ks key <= ks.length := by
 unfold posK
 exact (List.takeWhile_sublist _).length_le
theorem posK_take (ks : List ByteArray) (key : ByteArray) : ks.take (posK ks key) = ks.takeWhile (fun k => lessS k key) := by
 unfold posK
 have h := List.takeWhile_append_dropWhile (p := fun k => lessS k key) (l := ks)
 conv => lhs; arg 2; rw [<- h]
 exact List.take_left' rfl
theorem posK_drop (ks : List ByteArray) (key : ByteArray) : ks.drop (posK ks key) = ks.dropWhile (fun k => lessS k key) := by
 unfold posK
 have h := List.takeWhile_append_dropWhile (p := fun k => lessS k key) (l := ks)
 conv => lhs; arg 2; rw [<- h]
 exact List.drop_left' rfl
theorem posK_less {ks : List ByteArray} {key : ByteArray} {t : Nat} {a : ByteArray} (h : t < posK ks key) (ha : ks[t]? = some a) : lessS a key = true := by
 have h1 : (ks.take (posK ks key))[t]? = some a := by rw [List.getElem?_take, if_pos h]; exact ha
 rw [posK_take] at h1
 exact tw_mem (p := fun k => lessS k key) (List.mem_of_getElem? h1)
theorem drop_not : ∀ {ks : List ByteArray} {key : ByteArray}, SortK ks -> ∀ a ∈ ks.dropWhile (fun k => lessS k key), lessS a key = false
 | [], key, _, a, ha => by simp at ha
 | x :: ks, key, hs, a, ha => by
  rw [List.dropWhile_cons] at ha
  by_cases hx : lessS x key = true
  ·rw [if_pos hx] at ha
   exact drop_not (List.Pairwise.of_cons hs) a ha
  ·rw [if_neg hx] at ha
   have hx0 : lessS x key = false := by simpa using hx
   rcases List.mem_cons.1 ha with rfl | ha
   ·exact hx0
   ·have h1 := (List.pairwise_cons.1 hs).1 a ha
    rcases h2 : lessS a key with _ | _
    ·rfl
    ·rw [lessS_trans3 h1 h2] at hx0; cases hx0
theorem posK_not {ks : List ByteArray} {key : ByteArray} {t : Nat} {a : ByteArray} (hs : SortK ks) (h : posK ks key <= t) (ha : ks[t]? = some a) : lessS a key = false := by
 refine drop_not hs a ?_
 rw [<- posK_drop]
 refine List.mem_of_getElem? (i := t - posK ks key) ?_
 rw [List.getElem?_drop, show posK ks key + (t - posK ks key) = t by omega]
 exact ha
theorem ins_sorted {ks : List ByteArray} {key : ByteArray} (hs : SortK ks) (hn : hasS ks key = false) : SortK (insL ks (posK ks key) key) := by
 have hnm : key ∉ ks := fun h => by rw [(hasS_mem ks key).2 h] at hn; cases hn
 unfold SortK insL
 rw [List.pairwise_append]
 refine ⟨List.Pairwise.sublist (List.take_sublist _ _) hs, List.pairwise_cons.2 ⟨fun a ha => ?_, List.Pairwise.sublist (List.drop_sublist _ _) hs⟩, fun a ha b hb => ?_⟩
 ·have hm := List.mem_of_mem_drop ha
  rw [posK_drop] at ha
  exact lessS_other (drop_not hs a ha) (fun e => hnm (by rw [<- e]; exact hm))
 ·have hl : lessS a key = true := by rw [posK_take] at ha; exact tw_mem (p := fun k => lessS k key) ha
  rcases List.mem_cons.1 hb with rfl | hb
  ·exact hl
  ·have hm := List.mem_of_mem_drop hb
   rw [posK_drop] at hb
   exact lessS_trans3 hl (lessS_other (drop_not hs b hb) (fun e => hnm (by rw [<- e]; exact hm)))
theorem ins_len {D : Type} {l : List D} {i : Nat} {x : D} (h : i <= l.length) : (insL l i x).length = l.length + 1 := by
 unfold insL
 rw [List.length_append, List.length_cons, List.length_take, List.length_drop]
 omega
theorem idx_hit {D : Type} (p : D -> Bool) : ∀ (l : List D) (k : Nat) (d : D), l[k]? = some d -> (l.take k).any p = false -> p d = true -> l.findIdx? p = some k
 | [], k, d, h, _, _ => by simp at h
 | x :: l, 0, d, h, _, hp => by simp at h; subst h; simp [List.findIdx?_cons, hp]
 | x :: l, k + 1, d, h, ha, hp => by
  simp only [List.take_succ_cons, List.any_cons, Bool.or_eq_false_iff] at ha
  simp only [List.getElem?_cons_succ] at h
  rw [List.findIdx?_cons, ha.1, idx_hit p l k d h ha.2 hp]
  rfl
theorem idx_end {D : Type} (p : D -> Bool) (l : List D) (ha : (l.take l.length).any p = false) : l.findIdx? p = none := by
 rw [List.take_length] at ha
 rw [List.findIdx?_eq_none_iff]
 intro x hx
 rw [List.any_eq_false] at ha
 simpa using ha x hx
def idxI (l : List ByteArray) (s : ByteArray) : Int := match l.findIdx? (isS s) with | some k => (k : Int) | none => -1
theorem idxI_hit (l : List ByteArray) (s : ByteArray) (k : Nat) (d : ByteArray) (h : l[k]? = some d) (ha : (l.take k).any (isS s) = false) (hp : isS s d = true) : idxI l s = k := by
 unfold idxI; rw [idx_hit _ l k d h ha hp]
theorem idxI_end (l : List ByteArray) (s : ByteArray) (ha : (l.take l.length).any (isS s) = false) : idxI l s = -1 := by
 unfold idxI; rw [idx_end _ l ha]
def keyI (d : TreeD) (key : ByteArray) : Int := if d.kind = 6 then idxI d.keys key else -1
theorem c_spec_KeyAt (n : Nat) (d : TreeD) (cs : List Value) (key : ByteArray) (w : World) (lo : Nat) (h : C_Tree n lo w.heap.size w d cs) :
  Calls Tryz.prog 68 #[.agg cs.toArray, .string key] w fun e w' => e = .returned (.int .i64 (keyI d key)) /\ Below w.heap.size w w' := by
 obtain ⟨m, rfl⟩ := h.any
 obtain ⟨v4, v5, rfl, a0, a2, a3, a4, a5⟩ := h.out
 obtain ⟨A4, c4, rfl, hlc, hcc, hA⟩ := a4
 obtain ⟨A5, c5, rfl⟩ := a5.form
 by_cases hq : d.kind = 6
 ·have Hf := hid (show keyI d key = idxI d.keys key by unfold keyI; rw [if_pos hq])
  have hx : (d.kind == 6) = true := by simp [hq]
  clear hq
  go_enter Tryz.func68, Tryz.ntmps68
  go_wp2_with fail
  go_loopw [5] (fun i wr => ∃ k : Nat, k <= d.keys.length /\ i = .int .i64 k /\ (d.keys.take k).any (isS key) = false /\ ∃ n, wr = (w.alloc (.cells #[.int .i64 d.kind, .bool d.flag, .int .i64 d.num, .string d.text, .slice A4 d.keys.length c4, .slice A5 d.kids.length c5] 34)).drewN n) (fun i _ => d.keys.length - (intOf i).toNat)
  case atStart => exact ⟨0, Nat.zero_le _, rfl, rfl, 0, rfl⟩
  case round =>
   obtain ⟨k, hk, rfl, hall, n, rfl⟩ := hrel
   have Hall := hid hall
   clear hall
   by_cases hlt : k < d.keys.length
   ·obtain ⟨b, o, rfl, -, hb2, hcell⟩ := hA (by omega)
    obtain ⟨s, hd⟩ := exists_at hlt
    obtain ⟨es, -, hcs, hC⟩ := hcell k s hd
    obtain ⟨rfl, ea0⟩ := hC
    have hc0 := hcs 0 (by omega)
    simp at hc0
    have hk0 : (0 : Int) <= k := by omega
    have hk1 : (k : Int) < d.keys.length := by omega
    rcases hq : (s.toList == key.toList) with _ | _
    ·have Hn := hid (takeAny_no (isS key) d.keys k s hd Hall.out hq)
     clear hcs hcell hA hd
     go_wp2_with fail
     go_roundw
     case rel => exact ⟨k + 1, by omega, by go_num, Hn.out, _, rfl⟩
     case measure => simp [intOf]; omega
    ·have Hh := hid (idxI_hit d.keys key k s hd Hall.out hq)
     clear hcs hcell hA hd
     go_wp2_with fail
     go_ret
     exact ⟨ret_int (by rw [Hf.out, Hh.out]), bel⟩
   ·obtain rfl : k = d.keys.length := by omega
    have Hh := hid (idxI_end d.keys key Hall.out)
    clear hA
    go_wp2_with fail
    go_ret
    exact ⟨ret_int (by rw [Hf.out, Hh.out]), bel⟩
 ·have Hf := hid (show keyI d key = -1 by unfold keyI; rw [if_neg hq])
  have hx : (d.kind == 6) = false := by simp [hq]
  clear hA
  go_enter Tryz.func68, Tryz.ntmps68
  go_wp2_with fail
  go_loopw [5] (fun i wr => i = .int .i64 0 /\ wr = w.alloc (.cells #[.int .i64 d.kind, .bool d.flag, .int .i64 d.num, .string d.text, .slice A4 d.keys.length c4, .slice A5 d.kids.length c5] 34)) (fun _ _ => 0)
  case atStart => exact ⟨rfl, rfl⟩
  case round =>
   obtain ⟨rfl, rfl⟩ := hrel
   by_cases hl : (0 : Int) < d.keys.length
   ·go_wp2_with fail
    go_ret
    exact ⟨ret_int Hf.out.symm, bel⟩
   ·go_wp2_with fail
    go_ret
    exact ⟨ret_int Hf.out.symm, bel⟩
theorem own_listT {n base hi : Nat} {w wF : World} {l : List TreeD} {v : Value} {S : Nat -> Prop} (h : GrowK n base hi w l v) (hF : ∀ q, base <= q -> q < hi -> wF.heap[q]? = w.heap[q]?) (hS : ∀ b, base <= b -> b < hi -> S b) :
  OwnT (n + 1) S wF (tList l) [.int .i64 5, .bool false, .int .i64 0, .string ⟨#[]⟩, .slice none 0 0, v] :=
 OwnT.into ⟨_, _, fun _ => False, fun b => base <= b /\ b < hi, rfl, (show I64 5 from by unfold I64; decide), (show I64 0 from by unfold I64; decide), (show ByteArray.size ⟨#[]⟩ <= 9223372036854775807 from by decide), fun _ h => h.elim, fun b hb => hS b hb.1 hb.2,
  ⟨none, 0, rfl, Nat.le_refl _, by decide, fun h => by simp [tList] at h⟩, h.own.keep (fun b hb => hF b hb.1 hb.2) (fun _ h => h)⟩
theorem run_copy_rows {P : Program} (w : World) (dT sT ty elem : TypeId) (k b o dLen dCap : Nat) (a : Addr) (sLen sCap : Nat) (cs : List Value)
  (hu : P.underlying dT = some (.slice elem)) (hs : (P.info? elem).map (·.size) = some k) (hn : cs.length = Nat.min sLen dLen * k)
  (hsrc : ∀ j v, cs[j]? = some v -> w.cell? (a.add j) = some v) (hc : ∀ j, j < cs.length -> (w.cell? ⟨b, o + j, none⟩).isSome = true) (hf : ∀ j, j < cs.length -> w.frozen? ⟨b, o + j, none⟩ = false) (h1 : ∀ v ∈ cs, v.oneCell' = true) :
  (Builtin.copy_ #[dT, sT] ty #[.slice (some ⟨b, o, none⟩) dLen dCap, .slice (some a) sLen sCap]).run P w = .ok (goInt (Nat.min sLen dLen)) (w.setCells b o cs) := by
 have hl := run_loadCells_list (P := P) w a cs hsrc
 have hst := run_storeCells_cells (P := P) b o cs 0 w (by simpa using hc) (by simpa using hf) h1
 cases hq : P.info? elem with
 | none => simp [hq] at hs
 | some i =>
  have hi : i.size = k := by simpa [hq] using hs
  rw [hn] at hl
  simp [Builtin.copy_, run_underlying hu, Builtin.lenOf, Builtin.firstCells, sizeOf, typeInfo, hq, hi, hl, hst]
theorem wpList_copy_run {P : Program} {w : World} {ops : Array Oper} {rest : List Oper} {o : Oper} {a : Act} {Q : Exit -> Act -> World -> Prop} (hgd : o.guard = none) (d s : Operand) (t t' : TypeId)
  (ho : o.op = .call { callee := .builtin .copy, args := #[d, s], argTypes := #[t, t'] }) (v u : Value) (hd : a.eval d = v) (hs : a.eval s = u) {v' : Value} {w' : World}
  (hr : (Builtin.copy_ #[t, t'] o.type #[v, u]).run P w = .ok v' w') (h : wpList P ops Q rest (a.put o.dst v') w') : wpList P ops Q (o :: rest) a w :=
 wpList_plain hgd fun _ hK => by
  unfold Oper.wp execOp
  simp only [ho, resolve, invoke, builtin, Sem.run_bind, Sem.run_pure, Result.andThen_ok, List.map_toArray, List.map_cons, List.map_nil, hd, hs, hr]
  exact hK _ _ h
theorem step_copy_run {P : Program} {w : World} {ops : Array Oper} {o : Oper} {a : Act} {K : Act -> World -> Prop} {Q : Exit -> Act -> World -> Prop} {E : Prop} (hg : o.guard = none) (d x : Operand) (dT sT : TypeId)
  (hop : o.op = Op.call { callee := Callee.builtin Builtin.copy, args := #[d, x], argTypes := #[dT, sT] })
  (v u : Value) (hd : a.eval d = v) (hx : a.eval x = u) {v' : Value} {w' : World} (hr : (Builtin.copy_ #[dT, sT] o.type #[v, u]).run P w = .ok v' w') (hK : K (a.put o.dst v') w') :
  if Region.wanted o (yielded ops a.tmps) = true then Oper.wp P o a w K Q else E := by
 have hw : Region.wanted o (yielded ops a.tmps) = true := by simp [Region.wanted, hg]
 rw [if_pos hw]
 unfold Oper.wp
 simp [execOp, hop, resolve, invoke, builtin, hd, hx, hr, Result.andThen]
 exact hK
theorem isSome_setC (b : Nat) (vs : List Value) (o : Nat) (w : World) (h : ∀ j, j < vs.length -> (w.cell? ⟨b, o + j, none⟩).isSome = true) (k : Nat) (hk : (w.cell? ⟨b, k, none⟩).isSome = true) : ((w.setCells b o vs).cell? ⟨b, k, none⟩).isSome = true := by
 by_cases hin : o <= k /\ k < o + vs.length
 ·have := World.cell?_setCells_in b vs o w h (k - o) (by omega)
  rw [show o + (k - o) = k by omega] at this
  rw [this]; rfl
 ·rw [World.cell?_setCells_out b vs o w ⟨b, k, none⟩ (fun _ _ => by show k < o ∨ o + vs.length <= k; omega)]
  exact hk
def setA (cur : Array Value) : Nat -> List Value -> Array Value
 | _, [] => cur
 | o, v :: r => setA (cur.setIfInBounds o v) (o + 1) r
theorem setA_size (vs : List Value) : ∀ (cur : Array Value) (o : Nat), (setA cur o vs).size = cur.size := by
 induction vs with
 | nil => intro cur o; rfl
 | cons v r ih => intro cur o; rw [setA, ih]; simp
theorem heap_setCells {b : Nat} {t : TypeId} (vs : List Value) : ∀ (w : World) (o : Nat) (cur : Array Value), w.heap[b]? = some (.cells cur t (0, 0)) -> (w.setCells b o vs).heap[b]? = some (.cells (setA cur o vs) t (0, 0)) := by
 induction vs with
 | nil => intro w o cur h; exact h
 | cons v r ih => intro w o cur h; rw [World.setCells, setA]; exact ih _ _ _ (heap_setCell_same w b o cur t v h)
theorem setA_list (vs : List Value) : ∀ (cur : Array Value) (o : Nat), o + vs.length <= cur.size -> (setA cur o vs).toList = cur.toList.take o ++ vs ++ cur.toList.drop (o + vs.length) := by
 induction vs with
 | nil => intro cur o h; simp [setA]
 | cons v r ih =>
  intro cur o h
  simp only [List.length_cons] at h
  rw [setA, ih _ _ (by simp; omega)]
  simp only [Array.toList_setIfInBounds, List.length_cons]
  rw [List.take_add_one, List.getElem?_set_self (by simp; omega), List.take_set_of_le (Nat.le_refl o), List.drop_set_of_lt (by omega)]
  simp only [Option.toList_some, List.append_assoc, List.cons_append, List.nil_append]
  rw [show o + 1 + r.length = o + (r.length + 1) by omega]
theorem aside_setC {S : Nat -> Prop} {b : Nat} (hb : S b) (vs : List Value) : ∀ (a w : World) (o : Nat), Aside S a w -> Aside S a (w.setCells b o vs) := by
 induction vs with
 | nil => intro a w o h; exact h
 | cons v r ih => intro a w o h; rw [World.setCells]; exact ih _ _ _ (aside_set (p := ⟨b, o, none⟩) hb h)
theorem isSome_row {w : World} {b o : Nat} {cur : Array Value} {t : TypeId} (h : w.heap[b]? = some (.cells cur t (0, 0))) (ho : o < cur.size) : (w.cell? ⟨b, o, none⟩).isSome = true := by
 rw [cell_of_row _ _ _ _ _ _ h, Array.getElem?_eq_getElem ho]
 rfl
theorem shape_row {w : World} {b : Nat} {cur : Array Value} {t : TypeId} (h : w.heap[b]? = some (.cells cur t (0, 0))) : w.shape? b = some (t, cur.size) := by
 simp [World.shape?, h]
theorem c_InsT_shift (g n c i vb : Nat) (cs vs : List Value) (w : World) (hi : i < n) (hroom : n + 1 <= c) (hc63 : c <= 9223372036854775807) (hvb : vb ≠ g)
  (hcl : cs.length = n * 6) (hvl : vs.length = 6)
  (hcs : ∀ j v, cs[j]? = some v -> w.cell? ⟨g, j, none⟩ = some v) (hsp : ∀ j, j < (n + 1) * 6 -> (w.cell? ⟨g, j, none⟩).isSome = true) (hfz : ∀ j, w.frozen? ⟨g, j, none⟩ = false)
  (hvs : ∀ j v, vs[j]? = some v -> w.cell? ⟨vb, j, none⟩ = some v) (h1c : ∀ v ∈ cs, v.oneCell' = true) (h1v : ∀ v ∈ vs, v.oneCell' = true)
  (tA tB : TypeId) (kA kB : Nat) (hsa : w.shape? vb = some (tA, kA)) (hsb : w.shape? g = some (tB, kB)) (hkB : kB ≠ 0) (hfa : w.frozen? ⟨vb, 0, none⟩ = false) (hfe : w.frozen? ⟨vb, kA, none⟩ = false) :
  Calls Tryz.prog 185 #[.slice (some ⟨g, 0, none⟩) n c, .int .i64 i, .slice (some ⟨vb, 0, none⟩) 1 1] w fun e w' =>
   e = .returned (.slice (some ⟨g, 0, none⟩) (n + 1) c) /\ w' = (w.drew.setCells g ((i + 1) * 6) (cs.drop (i * 6))).setCells g (i * 6) vs := by
 have hz2 : ¬ ((i : Int) = (n : Int)) := by omega
 have hsz : (Tryz.prog.info? 34).map (·.size) = some 6 := by kernel_rfl
 have hov : ∀ lb cb, (callFunc 243 #[.slice (some ⟨vb, 0, none⟩) 1 1, .slice (some ⟨g, (i + 1) * 6, none⟩) lb cb]).run Tryz.prog w = .ok (.value (.bool false)) w := fun lb cb => by
  rw [run_callFunc_extern Tryz.func243 (by kernel_rfl) (by kernel_rfl) (by kernel_rfl) (e := Extern.SlicesOverlaps.overlaps #[32, 32] #[4]) (by kernel_rfl),
   Lib.run_overlaps_apart w 32 4 34 Tryz.underlying32 6 (fun w => Tryz.sizeOf34 w) ⟨vb, 0, none⟩ ⟨g, (i + 1) * 6, none⟩ 1 1 lb cb hvb tA tB kA kB hsa hsb hkB hfa hfe]
  rfl
 have hdl : (cs.drop (i * 6)).length = (n - i) * 6 := by rw [List.length_drop, hcl]; omega
 have mixed : Tryz.prog.follows Departure.mixedOrders = true := by kernel_rfl
 have hw1 : IntKind.i64.wrap ((i : Int) + 1) = (i : Int) + 1 := by rw [IntKind.wrap_i64]; omega
 have hb1 : (0 : Int) <= (i : Int) + 1 := by omega
 have hin : i <= n := by omega
 have htn : ((i : Int) + 1).toNat = i + 1 := by omega
 have hb2 : ¬ (c = i + 1) := by omega
 have hb3 : (i : Int) <= (n : Int) + 1 := by omega
 have hb4 : ¬ (c = i) := by omega
 have hcp1 : ∀ ty dc sc, (Builtin.copy_ #[32, 32] ty #[.slice (some ⟨g, (i + 1) * 6, none⟩) (n - i) dc, .slice (some ⟨g, i * 6, none⟩) (n + 1 - i) sc]).run Tryz.prog w.drew = .ok (goInt (Nat.min (n + 1 - i) (n - i))) (w.drew.setCells g ((i + 1) * 6) (cs.drop (i * 6))) := fun ty dc sc =>
  run_copy_rows w.drew _ _ ty 34 6 g ((i + 1) * 6) (n - i) dc ⟨g, i * 6, none⟩ (n + 1 - i) sc (cs.drop (i * 6)) Tryz.underlying32 hsz (by rw [hdl]; simp only [Nat.min_def]; split <;> omega)
   (fun j v hj => by rw [add_at]; exact hcs (i * 6 + j) v (by rwa [List.getElem?_drop] at hj))
   (fun j hj => hsp _ (by rw [hdl] at hj; omega)) (fun j _ => hfz _) (fun v hv => h1c v (List.mem_of_mem_drop hv))
 obtain ⟨W1, hW1⟩ : ∃ W1, W1 = w.drew.setCells g ((i + 1) * 6) (cs.drop (i * 6)) := ⟨_, rfl⟩
 have hsp1 : ∀ k, k < (n + 1) * 6 -> (W1.cell? ⟨g, k, none⟩).isSome = true := fun k hk => by
  rw [hW1]
  exact isSome_setC g (cs.drop (i * 6)) ((i + 1) * 6) w.drew (fun j hj => hsp _ (by rw [hdl] at hj; omega)) _ (hsp k hk)
 have hcp2 : ∀ (W : World), (∀ x, W.cell? x = W1.cell? x) -> (∀ x, W.frozen? x = W1.frozen? x) -> ∀ ty dc, (Builtin.copy_ #[32, 32] ty #[.slice (some ⟨g, i * 6, none⟩) (n + 1 - i) dc, .slice (some ⟨vb, 0, none⟩) 1 1]).run Tryz.prog W = .ok (goInt (Nat.min 1 (n + 1 - i))) (W.setCells g (i * 6) vs) := fun W hWc hWf ty dc =>
  run_copy_rows W _ _ ty 34 6 g (i * 6) (n + 1 - i) dc ⟨vb, 0, none⟩ 1 1 vs Tryz.underlying32 hsz (by rw [hvl]; simp only [Nat.min_def]; split <;> omega)
   (fun j v hj => by
    rw [add_at, hWc, hW1, World.cell?_setCells_out g _ _ _ _ (fun h _ => absurd h hvb), Nat.zero_add]
    exact hvs j v hj)
   (fun j hj => by rw [hWc]; exact hsp1 _ (by omega)) (fun j _ => by rw [hWf, hW1, World.frozen?_setCells]; exact hfz _) h1v
 rw [<- hW1] at hcp1
 go_enter Tryz.func185, Tryz.ntmps185
 go_wp2_with (simp only [hov])
 go_region_law_o (refine step_copy_run rfl _ _ 32 32 rfl _ _ (by simp [Act.eval, Act.put]) (by simp [Act.eval, Act.put]) (hcp1 _ _ _) ?_)
 go_wp2_with (at_builtin; refine wpList_copy_run rfl _ _ 32 32 rfl _ _ rfl rfl (hcp2 _ (fun _ => rfl) (fun _ => rfl) _ _) ?_)
 go_ret
 first | exact ⟨rfl, rfl⟩ | exact ⟨rfl, by rw [hW1]⟩
theorem c_InsT_end (base n vb : Nat) (v : Value) (xs vs : List Value) (w : World) (hown : w.ownsRow base 34 6 v n xs) (hvl : vs.length = 6)
  (hvs : ∀ j u, vs[j]? = some u -> w.cell? ⟨vb, j, none⟩ = some u) (h1v : ∀ u ∈ vs, u.oneCell' = true) (hn : n <= 1048576) (hbase : base <= w.heap.size) :
  Calls Tryz.prog 185 #[v, .int .i64 n, .slice (some ⟨vb, 0, none⟩) 1 1] w fun e w' => ∃ g cap, e = .returned (.slice (some ⟨g, 0, none⟩) (n + 1) cap) /\ w'.ownsRow base 34 6 (.slice (some ⟨g, 0, none⟩) (n + 1) cap) (n + 1) (xs ++ vs) /\ w.grownBy w' v.ownBlock /\ (v.ownBlock = some g ∨ g = w.heap.size) /\ g < w'.heap.size := by
 obtain ⟨i0, hi, hz0, hz1, hz2⟩ := info_parts (show (Tryz.prog.info? 34).map (fun i => (i.zero, i.size, i.bytes)) = some (some (.agg #[.int .i64 0, .bool false, .int .i64 0, .string ⟨#[]⟩, .slice none 0 0, .slice none 0 0]), 6, 88) from by kernel_rfl)
 have HO := hid hown
 obtain ⟨A, c, rfl⟩ := own_form hown
 have hnc := own_cap hown
 have hnews : ∀ j u, vs[j]? = some u -> w.cell? ((⟨vb, 0, none⟩ : Addr).add j) = some u := fun j u hj => by rw [add_at, Nat.zero_add]; exact hvs j u hj
 have HNw := hid hnews
 have H1v := hid h1v
 clear hvs hnews h1v
 rcases A with _ | ⟨ab, ao, asp⟩
 ·have hn0 : n = 0 := by
   rcases hown.2 with ⟨-, h0⟩ | ⟨g, cap, cur, h0, -⟩
   ·exact h0
   ·cases h0
  subst hn0
  clear hown
  go_enter Tryz.func185, Tryz.ntmps185
  go_wp2_with (at_builtin; refine wpList_append_lies _ rfl _ _ 32 rfl base 34 i0 (.agg #[.int .i64 0, .bool false, .int .i64 0, .string ⟨#[]⟩, .slice none 0 0, .slice none 0 0]) 6 88 Tryz.underlying32 hi hz0 hz1 hz2 rfl (by decide) _ 0 xs rfl HO.out ⟨vb, 0, none⟩ 1 1 vs rfl (by rw [hvl]) HNw.out H1v.out (by decide) (by unfold maxLen; omega) (by omega) hbase _ rfl ?_)
  intro g cap w2 hown2 hgrow2 hat2 hlt2
  have HX := hid (And.intro hown2 (And.intro hgrow2 (And.intro hat2 hlt2)))
  clear hown2 hgrow2 hat2 hlt2
  go_wp2_with fail
  go_ret
  exact ⟨g, cap, rfl, HX.out.1, HX.out.2.1, HX.out.2.2.1, HX.out.2.2.2⟩
 ·clear hown
  go_enter Tryz.func185, Tryz.ntmps185
  go_wp2_with (at_builtin; refine wpList_append_lies _ rfl _ _ 32 rfl base 34 i0 (.agg #[.int .i64 0, .bool false, .int .i64 0, .string ⟨#[]⟩, .slice none 0 0, .slice none 0 0]) 6 88 Tryz.underlying32 hi hz0 hz1 hz2 rfl (by decide) _ n xs rfl HO.out ⟨vb, 0, none⟩ 1 1 vs rfl (by rw [hvl]) HNw.out H1v.out (by decide) (by unfold maxLen; omega) (by omega) hbase _ rfl ?_)
  all_goals
   intro g cap w2 hown2 hgrow2 hat2 hlt2
   have HX := hid (And.intro hown2 (And.intro hgrow2 (And.intro hat2 hlt2)))
   clear hown2 hgrow2 hat2 hlt2
   go_wp2_with fail
   go_ret
   exact ⟨g, cap, rfl, HX.out.1, HX.out.2.1, HX.out.2.2.1, HX.out.2.2.2⟩
theorem c_InsT_grow (g n c i vb : Nat) (cs vs : List Value) (w : World) (hi : i < n) (hnc : n <= c) (hroom : c < n + 1) (hbig : (n + 1) * 88 <= 140737488355328)
  (hcl : cs.length = n * 6) (hvl : vs.length = 6)
  (hcs : ∀ j v, cs[j]? = some v -> w.cell? ⟨g, j, none⟩ = some v)
  (hvs : ∀ j v, vs[j]? = some v -> w.cell? ⟨vb, j, none⟩ = some v) (h1c : ∀ v ∈ cs, v.oneCell' = true) (h1v : ∀ v ∈ vs, v.oneCell' = true) :
  Calls Tryz.prog 185 #[.slice (some ⟨g, 0, none⟩) n c, .int .i64 i, .slice (some ⟨vb, 0, none⟩) 1 1] w fun e w' => ∃ (G : Nat) (ROW : Array Value),
   e = .returned (.slice (some ⟨w.heap.size, 0, none⟩) (n + 1) G) /\ n + 1 <= G /\ G <= maxLen /\ ROW.size = G * 6 /\ ROW.toList.take (i * 6) = cs.take (i * 6) /\
   w' = ((w.alloc (.cells ROW 34)).drew.setCells w.heap.size (i * 6) vs).drew.setCells w.heap.size ((i + 1) * 6) (cs.drop (i * 6)) := by
 obtain ⟨i0, hi0, hz0, hzs, hzb⟩ := info_parts (show (Tryz.prog.info? 34).map (fun i => (i.zero, i.size, i.bytes)) = some (some (.agg #[.int .i64 0, .bool false, .int .i64 0, .string ⟨#[]⟩, .slice none 0 0, .slice none 0 0]), 6, 88) from by kernel_rfl)
 have mixed : Tryz.prog.follows Departure.mixedOrders = true := by kernel_rfl
 have hz2 : ¬ ((i : Int) = (n : Int)) := by omega
 have hz3 : (c : Int) < (n : Int) + 1 := by omega
 have hsz : (Tryz.prog.info? 34).map (·.size) = some 6 := by kernel_rfl
 have hbw : g < w.heap.size := block_lt_of_cell (hcs 0 _ (List.getElem?_eq_getElem (by omega)))
 have hvw : vb < w.heap.size := block_lt_of_cell (hvs 0 _ (List.getElem?_eq_getElem (by omega)))
 have hkk : (n : Int) + 1 - (i : Int) = ((n + 1 - i : Nat) : Int) := by omega
 have hik : i + (n + 1 - i) = n + 1 := by omega
 have htl : (cs.take (i * 6)).length = i * 6 := by rw [List.length_take, hcl]; omega
 have hold : (Builtin.firstCells i0.size i (.slice (some ⟨g, 0, none⟩) i c)).run Tryz.prog w.drew = .ok (cs.take (i * 6)).toArray w.drew := by
  rw [hzs]
  exact run_firstCells_some w.drew 6 i ⟨g, 0, none⟩ i c (cs.take (i * 6)) htl (fun j v hj => by
   rw [add_at, Nat.zero_add]
   rw [List.getElem?_take] at hj
   split at hj
   ·exact hcs j v hj
   ·cases hj)
 have hrz : ∀ ty, (Builtin.append_ #[32, 3] ty #[.slice (some ⟨g, 0, none⟩) i c, .int .i64 ((n : Int) + 1 - (i : Int))]).run Tryz.prog w =
   .ok (.slice (some ⟨w.heap.size, 0, none⟩) (n + 1) (grownCap w (n + 1) c 34)) (w.drew.alloc (.cells ((cs.take (i * 6)).toArray ++ Builtin.zeroCells (.agg #[.int .i64 0, .bool false, .int .i64 0, .string ⟨#[]⟩, .slice none 0 0, .slice none 0 0] : Value).cells (n + 1 - i) ++ Builtin.zeroCells (.agg #[.int .i64 0, .bool false, .int .i64 0, .string ⟨#[]⟩, .slice none 0 0, .slice none 0 0] : Value).cells (grownCap w (n + 1) c 34 - (n + 1))) 34)) := fun ty => by
  have h := Lib.run_append_grow_zeros w 32 3 ty 34 i0 _ .i64 .i64 Tryz.underlying32 Tryz.underlying3 hi0 hz0 (some ⟨g, 0, none⟩) i c (cs.take (i * 6)) hold (n + 1 - i) (by omega) (by omega) (by omega) (by omega) (by rw [hzb]; omega) (by rw [hzb, hik]; exact growslice_fits hroom hbig)
  rw [hik] at h
  rw [hkk]
  exact h
 obtain ⟨G, hG⟩ : ∃ G, G = grownCap w (n + 1) c 34 := ⟨_, rfl⟩
 have hGn : n + 1 <= G := by rw [hG]; exact grownCap_ge w _ _ _
 have hG63 : G <= maxLen := by rw [hG]; exact grownCap_le_maxLen w (n + 1) c 34 (by unfold maxLen; omega)
 obtain ⟨ROW, hROW⟩ : ∃ ROW : Array Value, ROW = (cs.take (i * 6)).toArray ++ Builtin.zeroCells (.agg #[.int .i64 0, .bool false, .int .i64 0, .string ⟨#[]⟩, .slice none 0 0, .slice none 0 0] : Value).cells (n + 1 - i) ++ Builtin.zeroCells (.agg #[.int .i64 0, .bool false, .int .i64 0, .string ⟨#[]⟩, .slice none 0 0, .slice none 0 0] : Value).cells (G - (n + 1)) := ⟨_, rfl⟩
 rw [<- hG] at hrz
 rw [<- hROW] at hrz
 have hRl : ROW.size = G * 6 := by
  rw [hROW]
  simp only [Array.size_append, size_zeroCells, List.size_toArray, htl]
  rw [show (.agg #[.int .i64 0, .bool false, .int .i64 0, .string ⟨#[]⟩, .slice none 0 0, .slice none 0 0] : Value).cells.size = 6 from rfl]
  omega
 have hRt : ROW.toList.take (i * 6) = cs.take (i * 6) := by
  rw [hROW, Array.append_assoc, Array.toList_append]
  rw [List.take_left' htl]
 obtain ⟨W1, hW1⟩ : ∃ W1, W1 = w.drew.alloc (.cells ROW 34) := ⟨_, rfl⟩
 rw [<- hW1] at hrz
 have hN : ∀ j, j < (n + 1) * 6 -> (W1.cell? ⟨w.heap.size, j, none⟩).isSome = true := fun j hj => by
  rw [hW1, World.cell?_alloc_at (w := w.drew) ROW _ w.heap.size j rfl, Array.getElem?_eq_getElem (by omega)]; rfl
 have hNf : ∀ j, W1.frozen? ⟨w.heap.size, j, none⟩ = false := fun j => by rw [hW1]; exact World.frozen?_alloc_at (w := w.drew) ROW _ w.heap.size j rfl
 have hOb : ∀ j v, w.cell? ⟨g, j, none⟩ = some v -> W1.cell? ⟨g, j, none⟩ = some v := fun j v h => by rw [hW1, World.cell?_alloc_past (w := w.drew) _ g j hbw]; exact h
 have hOv : ∀ j v, w.cell? ⟨vb, j, none⟩ = some v -> W1.cell? ⟨vb, j, none⟩ = some v := fun j v h => by rw [hW1, World.cell?_alloc_past (w := w.drew) _ vb j hvw]; exact h
 have hcpA : ∀ (W : World), (∀ x, W.cell? x = W1.cell? x) -> (∀ x, W.frozen? x = W1.frozen? x) -> ∀ ty dc, (Builtin.copy_ #[32, 32] ty #[.slice (some ⟨w.heap.size, i * 6, none⟩) (n + 1 - i) dc, .slice (some ⟨vb, 0, none⟩) 1 1]).run Tryz.prog W = .ok (goInt (Nat.min 1 (n + 1 - i))) (W.setCells w.heap.size (i * 6) vs) := fun W hWc hWf ty dc =>
  run_copy_rows W _ _ ty 34 6 w.heap.size (i * 6) (n + 1 - i) dc ⟨vb, 0, none⟩ 1 1 vs Tryz.underlying32 hsz (by rw [hvl]; simp only [Nat.min_def]; split <;> omega)
   (fun j v hj => by rw [add_at, hWc, Nat.zero_add]; exact hOv _ v (hvs j v hj))
   (fun j hj => by rw [hWc]; exact hN _ (by omega)) (fun j _ => by rw [hWf]; exact hNf _) h1v
 have hG63i : G <= 9223372036854775807 := by unfold maxLen at hG63; omega
 have hGi : ¬ (G = i) := by omega
 have hGim : ¬ (G = i + 1) := by omega
 have hci : ¬ (c = i) := by omega
 have hbN : g ≠ w.heap.size := by omega
 have hdl : (cs.drop (i * 6)).length = (n - i) * 6 := by rw [List.length_drop, hcl]; omega
 have hcpB : ∀ (W : World), (∀ x, W.cell? x = (W1.setCells w.heap.size (i * 6) vs).cell? x) -> (∀ x, W.frozen? x = (W1.setCells w.heap.size (i * 6) vs).frozen? x) -> ∀ ty dc sc, (Builtin.copy_ #[32, 32] ty #[.slice (some ⟨w.heap.size, (i + 1) * 6, none⟩) (n - i) dc, .slice (some ⟨g, i * 6, none⟩) (n - i) sc]).run Tryz.prog W = .ok (goInt (Nat.min (n - i) (n - i))) (W.setCells w.heap.size ((i + 1) * 6) (cs.drop (i * 6))) := fun W hWc hWf ty dc sc =>
  run_copy_rows W _ _ ty 34 6 w.heap.size ((i + 1) * 6) (n - i) dc ⟨g, i * 6, none⟩ (n - i) sc (cs.drop (i * 6)) Tryz.underlying32 hsz (by rw [hdl]; simp only [Nat.min_def]; split <;> omega)
   (fun j v hj => by
    rw [add_at, hWc, World.cell?_setCells_out _ _ _ _ _ (fun h _ => absurd h hbN)]
    exact hOb _ v (hcs (i * 6 + j) v (by rwa [List.getElem?_drop] at hj)))
   (fun j hj => by rw [hWc]; exact isSome_setC _ vs (i * 6) W1 (fun t ht => hN _ (by omega)) _ (hN _ (by rw [hdl] at hj; omega)))
   (fun j _ => by rw [hWf, World.frozen?_setCells]; exact hNf _) (fun v hv => h1c v (List.mem_of_mem_drop hv))
 subst hW1
 have hE1 : ∀ x, ((w.alloc (.cells ROW 34)).drew).cell? x = (w.drew.alloc (.cells ROW 34)).cell? x := fun x => rfl
 have hE2 : ∀ x, ((w.alloc (.cells ROW 34)).drew).frozen? x = (w.drew.alloc (.cells ROW 34)).frozen? x := fun x => rfl
 have hF1 : ∀ x, (((w.alloc (.cells ROW 34)).drew.setCells w.heap.size (i * 6) vs).drew).cell? x = ((w.drew.alloc (.cells ROW 34)).setCells w.heap.size (i * 6) vs).cell? x := fun x => rfl
 have hF2 : ∀ x, (((w.alloc (.cells ROW 34)).drew.setCells w.heap.size (i * 6) vs).drew).frozen? x = ((w.drew.alloc (.cells ROW 34)).setCells w.heap.size (i * 6) vs).frozen? x := fun x => rfl
 have hw1 : IntKind.i64.wrap ((i : Int) + 1) = (i : Int) + 1 := by rw [IntKind.wrap_i64]; omega
 have hb1 : (0 : Int) <= (i : Int) + 1 := by omega
 have hin : i <= n := by omega
 have htn : ((i : Int) + 1).toNat = i + 1 := by omega
 have hb3 : (i : Int) <= (n : Int) := by omega
 have HFin := hid (And.intro hGn (And.intro hG63 (And.intro hRl hRt)))
 clear hkk hik hold hROW hG hRl hRt hG63
 go_enter Tryz.func185, Tryz.ntmps185
 go_wp2_with (first
  | (at_builtin; refine wpList_append_of rfl _ _ _ ?_ _ _ _ _ rfl rfl (hrz _) ?_)
  | (at_builtin; refine Lib.wpList_append_run _ rfl _ _ _ _ rfl _ _ rfl rfl _ _ (hrz _) ?_)
  | (at_builtin; refine wpList_copy_run rfl _ _ 32 32 rfl _ _ rfl rfl (hcpA _ hE1 hE2 _ _) ?_)
  | (at_builtin; refine wpList_copy_run rfl _ _ 32 32 rfl _ _ rfl rfl (hcpB _ (fun _ => rfl) (fun _ => rfl) _ _ _) ?_))
 go_region_law_o (refine step_copy_run rfl _ _ 32 32 rfl (.slice (some ⟨w.heap.size, (i + 1) * 6, none⟩) (n - i) (G - (i + 1))) (.slice (some ⟨g, i * 6, none⟩) (n - i) (c - i)) (by simp [Act.eval, Act.put]) (by simp [Act.eval, Act.put]) (hcpB _ hF1 hF2 3 (G - (i + 1)) (c - i)) ?_)
 go_wp2
 go_ret
 exact ⟨G, ROW, rfl, HFin.out.1, HFin.out.2.1, HFin.out.2.2.1, HFin.out.2.2.2, rfl⟩
theorem c_InsS_end (base n vb : Nat) (v : Value) (xs vs : List Value) (w : World) (hown : w.ownsRow base 9 1 v n xs) (hvl : vs.length = 1)
  (hvs : ∀ j u, vs[j]? = some u -> w.cell? ⟨vb, j, none⟩ = some u) (h1v : ∀ u ∈ vs, u.oneCell' = true) (hn : n <= 1048576) (hbase : base <= w.heap.size) :
  Calls Tryz.prog 184 #[v, .int .i64 n, .slice (some ⟨vb, 0, none⟩) 1 1] w fun e w' => ∃ g cap, e = .returned (.slice (some ⟨g, 0, none⟩) (n + 1) cap) /\ w'.ownsRow base 9 1 (.slice (some ⟨g, 0, none⟩) (n + 1) cap) (n + 1) (xs ++ vs) /\ w.grownBy w' v.ownBlock /\ (v.ownBlock = some g ∨ g = w.heap.size) /\ g < w'.heap.size := by
 obtain ⟨i0, hi, hz0, hz1, hz2⟩ := info_parts (show (Tryz.prog.info? 9).map (fun i => (i.zero, i.size, i.bytes)) = some (some (.string ⟨#[]⟩), 1, 16) from by kernel_rfl)
 have HO := hid hown
 obtain ⟨A, c, rfl⟩ := own_form hown
 have hnc := own_cap hown
 have hnews : ∀ j u, vs[j]? = some u -> w.cell? ((⟨vb, 0, none⟩ : Addr).add j) = some u := fun j u hj => by rw [add_at, Nat.zero_add]; exact hvs j u hj
 have HNw := hid hnews
 have H1v := hid h1v
 clear hvs hnews h1v
 rcases A with _ | ⟨ab, ao, asp⟩
 ·have hn0 : n = 0 := by
   rcases hown.2 with ⟨-, h0⟩ | ⟨g, cap, cur, h0, -⟩
   ·exact h0
   ·cases h0
  subst hn0
  clear hown
  go_enter Tryz.func184, Tryz.ntmps184
  go_wp2_with (at_builtin; refine wpList_append_lies _ rfl _ _ 31 rfl base 9 i0 (.string ⟨#[]⟩) 1 16 Tryz.underlying31 hi hz0 hz1 hz2 rfl (by decide) _ 0 xs rfl HO.out ⟨vb, 0, none⟩ 1 1 vs rfl (by rw [hvl]) HNw.out H1v.out (by decide) (by unfold maxLen; omega) (by omega) hbase _ rfl ?_)
  intro g cap w2 hown2 hgrow2 hat2 hlt2
  have HX := hid (And.intro hown2 (And.intro hgrow2 (And.intro hat2 hlt2)))
  clear hown2 hgrow2 hat2 hlt2
  go_wp2_with fail
  go_ret
  exact ⟨g, cap, rfl, HX.out.1, HX.out.2.1, HX.out.2.2.1, HX.out.2.2.2⟩
 ·clear hown
  go_enter Tryz.func184, Tryz.ntmps184
  go_wp2_with (at_builtin; refine wpList_append_lies _ rfl _ _ 31 rfl base 9 i0 (.string ⟨#[]⟩) 1 16 Tryz.underlying31 hi hz0 hz1 hz2 rfl (by decide) _ n xs rfl HO.out ⟨vb, 0, none⟩ 1 1 vs rfl (by rw [hvl]) HNw.out H1v.out (by decide) (by unfold maxLen; omega) (by omega) hbase _ rfl ?_)
  all_goals
   intro g cap w2 hown2 hgrow2 hat2 hlt2
   have HX := hid (And.intro hown2 (And.intro hgrow2 (And.intro hat2 hlt2)))
   clear hown2 hgrow2 hat2 hlt2
   go_wp2_with fail
   go_ret
   exact ⟨g, cap, rfl, HX.out.1, HX.out.2.1, HX.out.2.2.1, HX.out.2.2.2⟩
end Go.Proofs.YtohcpifekcehjaaGreatDoor
