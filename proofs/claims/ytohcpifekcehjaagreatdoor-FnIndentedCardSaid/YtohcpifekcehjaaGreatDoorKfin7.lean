/- Steps to FnIndented. No conditions. -/
import Derived.Test.YtohcpifekcehjaaGreatDoorKfin4
import Derived.Test.YtohcpifekcehjaaGreatDoorKfin3
import Derived.Test.YtohcpifekcehjaaGreatDoorKfin6
import Derived.Test.YtohcpifekcehjaaGreatDoorKfin2
import Derived.Test.YtohcpifekcehjaaGreatDoorKfin5
import Derived.Shelf.Lays2
import Derived.Shelf.Spec.SearchS
import Derived.Shelf.Spec.SlicesInsert
import Derived.Shelf.Spec.SlicesInsertGrow
import Derived.Test.YtohcpifekcehjaaGreatDoorKfin1
import Derived.Lib.LazyBuf
import Derived.Deep.RegionLaw
import Derived.Deep.CutBlock
import Derived.Deep.CutRange
import Derived.Laws.IdiomCopy
import Derived.Lib.Overlaps
import Derived.Lib.AppendZerosOnto
import Derived.Laws.Externs
import Derived.WalkKit
import Derived.Lib.Walk
import Derived.Lib.SliceRun
import Derived.Lib.JoinLaws
import Derived.Lib.AppendZeros
import Derived.Shelf.RegionOpenPlain
import Derived.RowKit
set_option maxHeartbeats 16000000
set_option maxRecDepth 20000
namespace Go.Proofs.YtohcpifekcehjaaGreatDoor
open Go.RowKit Go.Lib
def Rd (s : ByteArray) (j : Nat) (l : List UInt8) : Prop := s.data.toList.drop j = l
theorem Rd.byte {s : ByteArray} {j : Nat} {l : List UInt8} (h : Rd s j l) (k : Nat) {c : UInt8} (hk : l[k]? = some c) : j + k < s.size /\ byteI s (j + k) = (c.toNat : Int) := by
 have h1 : s.data.toList[j + k]? = some c := by rw [<- List.getElem?_drop, show s.data.toList.drop j = l from h, hk]
 obtain ⟨h2, h3⟩ := List.getElem?_eq_some_iff.1 h1
 have h4 : j + k < s.size := by rw [Array.length_toList] at h2; exact h2
 refine ⟨h4, ?_⟩
 rw [Array.getElem_toList] at h3
 unfold byteI ByteArray.get!
 show (((s.data[j + k]!).toNat : Nat) : Int) = _
 rw [getElem!_pos s.data (j + k) h4, h3]
theorem Rd.byte0 {s : ByteArray} {j : Nat} {c : UInt8} {l : List UInt8} (h : Rd s j (c :: l)) : j < s.size /\ byteI s j = (c.toNat : Int) := h.byte 0 rfl
theorem Rd.drop {s : ByteArray} {j : Nat} {a b : List UInt8} (h : Rd s j (a ++ b)) : Rd s (j + a.length) b := by
 unfold Rd at h ⊢
 rw [<- List.drop_drop, h, List.drop_left]
theorem Rd.len {s : ByteArray} {j : Nat} {l : List UInt8} (h : Rd s j l) (hj : j <= s.size) : j + l.length = s.size := by
 have h1 := congrArg List.length (show s.data.toList.drop j = l from h)
 rw [List.length_drop, Array.length_toList] at h1
 have h2 : s.data.size = s.size := rfl
 omega
theorem getD_take {l l' : List UInt8} {k i : Nat} (h : l'.take k = l.take k) (hi : i < k) : l'.getD i 0 = l.getD i 0 := by
 have h1 := congrArg (fun z : List UInt8 => z[i]?) h
 simp only [List.getElem?_take, if_pos hi] at h1
 rw [List.getD_eq_getElem?_getD, List.getD_eq_getElem?_getD, h1]
theorem decode_local {l l' : List UInt8} (hv : decodeL l ≠ (65533, 1)) (hl : l'.take (decodeL l).2 = l.take (decodeL l).2) (hn : (decodeL l).2 <= l'.length) : decodeL l' = decodeL l := by
 rw [decodeL_N] at hv hl hn ⊢
 rw [decodeL_N]
 have k0 := (l.getD 0 0).toNat_lt
 have k1 := (l.getD 1 0).toNat_lt
 have k2 := (l.getD 2 0).toNat_lt
 have k3 := (l.getD 3 0).toNat_lt
 have k1' := (l'.getD 1 0).toNat_lt
 have k2' := (l'.getD 2 0).toNat_lt
 have k3' := (l'.getD 3 0).toNat_lt
 rcases Nat.lt_or_ge (l.getD 0 0).toNat 192 with c | c
 ·have w := rune_way1 l.length (l.getD 0 0).toNat (l.getD 1 0).toNat (l.getD 2 0).toNat (l.getD 3 0).toNat c
  have w' := rune_way1 l'.length (l.getD 0 0).toNat (l'.getD 1 0).toNat (l'.getD 2 0).toNat (l'.getD 3 0).toNat c
  have he := w.1.2 hv
  rw [w.2 he] at hl hn
  rw [getD_take hl (by omega), w.2 he, w'.2 he]
 rcases Nat.lt_or_ge (l.getD 0 0).toNat 224 with c2 | c2
 ·have w := rune_way2 l.length (l.getD 0 0).toNat (l.getD 1 0).toNat (l.getD 2 0).toNat (l.getD 3 0).toNat c c2 k1
  have he := w.2 hv
  have hp := w.1.2 hv
  rw [he] at hl hn
  have e1 := getD_take (i := 1) hl (by omega)
  have w' := rune_way2 l'.length (l.getD 0 0).toNat (l'.getD 1 0).toNat (l'.getD 2 0).toNat (l'.getD 3 0).toNat c c2 k1'
  rw [getD_take hl (by omega), he]
  rw [e1] at w' ⊢
  exact w'.2 (w'.1.1 ⟨hn, hp.2.1, hp.2.2⟩)
 rcases Nat.lt_or_ge (l.getD 0 0).toNat 240 with c3 | c3
 ·have w := rune_way3 l.length (l.getD 0 0).toNat (l.getD 1 0).toNat (l.getD 2 0).toNat (l.getD 3 0).toNat c2 c3 k1 k2
  have he := w.2 hv
  have hp := w.1.2 hv
  rw [he] at hl hn
  have e1 := getD_take (i := 1) hl (by omega)
  have e2 := getD_take (i := 2) hl (by omega)
  have w' := rune_way3 l'.length (l.getD 0 0).toNat (l'.getD 1 0).toNat (l'.getD 2 0).toNat (l'.getD 3 0).toNat c2 c3 k1' k2'
  rw [getD_take hl (by omega), he]
  rw [e1, e2] at w' ⊢
  exact w'.2 (w'.1.1 ⟨hn, hp.2.1, hp.2.2.1, hp.2.2.2⟩)
 ·have w := rune_way4 l.length (l.getD 0 0).toNat (l.getD 1 0).toNat (l.getD 2 0).toNat (l.getD 3 0).toNat c3 k0 k1 k2 k3
  have he := w.2 hv
  have hp := w.1.2 hv
  rw [he] at hl hn
  have e1 := getD_take (i := 1) hl (by omega)
  have e2 := getD_take (i := 2) hl (by omega)
  have e3 := getD_take (i := 3) hl (by omega)
  have w' := rune_way4 l'.length (l.getD 0 0).toNat (l'.getD 1 0).toNat (l'.getD 2 0).toNat (l'.getD 3 0).toNat c3 k0 k1' k2' k3'
  rw [getD_take hl (by omega), he]
  rw [e1, e2, e3] at w' ⊢
  exact w'.2 (w'.1.1 ⟨hn, hp.2.1, hp.2.2.1, hp.2.2.2.1, hp.2.2.2.2⟩)
theorem decode_one {l : List UInt8} (h : (l.getD 0 0).toNat < 128) : decodeL l = ((l.getD 0 0).toNat, 1) := by
 rw [decodeL_N]
 exact (rune_way1 _ _ _ _ _ (by omega)).2 (by unfold encN4; rw [if_neg (by omega), if_pos h])
theorem rune_one {s : ByteArray} {j : Nat} {c : UInt8} {l : List UInt8} (h : Rd s j (c :: l)) (hc : c.toNat < 128) : runeB s j = ((c.toNat : Int), ((j + 1 : Nat) : Int)) := by
 have h0 := h.byte0.1
 have h1 := decodeL_drop s j h0
 rw [show s.data.toList.drop j = c :: l from h, decode_one (by simpa using hc)] at h1
 unfold runeB
 rw [if_pos h0, <- h1]
 rw [if_neg (by intro e; have := congrArg Prod.fst e; simp at this; omega)]
 simp
theorem text_one {c : UInt8} (hc : c.toNat < 128) : (textB (c.toNat : Nat)).data.toList = [c] := by
 refine text_eq ?_
 unfold encN4
 rw [if_neg (by omega), if_pos hc]
 rfl
theorem lowV_fig {x : Nat} (hx : x < 16) : hexV ((figU x).toNat : Int) = x := by
 have : ∀ y : Fin 16, hexV ((figU y.val).toNat : Int) = y.val := by decide
 exact this ⟨x, hx⟩
theorem quot_low {s : ByteArray} {j : Nat} {c : UInt8} {l : List UInt8} (h : Rd s j (qB c ++ l)) (hc : c.toNat < 128) : byteI s j ≠ 34 /\ quotN s j = ((c.toNat : Int), ((j + (qB c).length : Nat) : Int)) := by
 have esc : ∀ (x : UInt8) (r : List UInt8) (v : Int), Rd s j (92 :: x :: r) -> escB s (j + 1) = (v, ((j + 2 : Nat) : Int)) -> byteI s j ≠ 34 /\ quotN s j = (v, ((j + 2 : Nat) : Int)) := by
  intro x r v hr he
  have b0 := hr.byte0.2
  have e92 : byteI s j = 92 := b0
  refine ⟨by rw [e92]; decide, ?_⟩
  unfold quotN
  rw [if_pos e92, he]
 have one : ∀ (x : UInt8) (r : List UInt8) (v : Int), Rd s j (92 :: x :: r) -> (byteI s (j + 1) = x.toNat -> escB s (j + 1) = (v, ((j + 1 : Nat) : Int) + 1)) -> byteI s j ≠ 34 /\ quotN s j = (v, ((j + 2 : Nat) : Int)) := by
  intro x r v hr he
  have b1 := hr.byte 1 rfl
  refine esc x r v hr ?_
  rw [he b1.2]
  congr 1
 unfold qB qN at h ⊢
 by_cases c1 : c.toNat = 34 ∨ c.toNat = 92
 ·rw [if_pos c1] at h ⊢
  refine one (UInt8.ofNat c.toNat) l _ h (fun hb => ?_)
  have hi := (h.byte 1 rfl).1
  have hb2 : byteI s (j + 1) = (c.toNat : Int) := by rw [hb]; simp
  unfold escB
  rw [if_pos hi, if_pos (by rw [hb2]; omega), hb2]
 rw [if_neg c1] at h ⊢
 by_cases c2 : c.toNat = 8
 ·rw [if_pos c2] at h ⊢
  refine one 98 l _ h (fun hb => ?_)
  have hi := (h.byte 1 rfl).1
  have hb2 : byteI s (j + 1) = 98 := hb
  unfold escB
  rw [if_pos hi, if_neg (by omega), if_pos (by omega), c2]
  rfl
 rw [if_neg c2] at h ⊢
 by_cases c3 : c.toNat = 12
 ·rw [if_pos c3] at h ⊢
  refine one 102 l _ h (fun hb => ?_)
  have hi := (h.byte 1 rfl).1
  have hb2 : byteI s (j + 1) = 102 := hb
  unfold escB
  rw [if_pos hi, if_neg (by omega), if_neg (by omega), if_pos (by omega), c3]
  rfl
 rw [if_neg c3] at h ⊢
 by_cases c4 : c.toNat = 10
 ·rw [if_pos c4] at h ⊢
  refine one 110 l _ h (fun hb => ?_)
  have hi := (h.byte 1 rfl).1
  have hb2 : byteI s (j + 1) = 110 := hb
  unfold escB
  rw [if_pos hi, if_neg (by omega), if_neg (by omega), if_neg (by omega), if_pos (by omega), c4]
  rfl
 rw [if_neg c4] at h ⊢
 by_cases c5 : c.toNat = 13
 ·rw [if_pos c5] at h ⊢
  refine one 114 l _ h (fun hb => ?_)
  have hi := (h.byte 1 rfl).1
  have hb2 : byteI s (j + 1) = 114 := hb
  unfold escB
  rw [if_pos hi, if_neg (by omega), if_neg (by omega), if_neg (by omega), if_neg (by omega), if_pos (by omega), c5]
  rfl
 rw [if_neg c5] at h ⊢
 by_cases c6 : c.toNat = 9
 ·rw [if_pos c6] at h ⊢
  refine one 116 l _ h (fun hb => ?_)
  have hi := (h.byte 1 rfl).1
  have hb2 : byteI s (j + 1) = 116 := hb
  unfold escB
  rw [if_pos hi, if_neg (by omega), if_neg (by omega), if_neg (by omega), if_neg (by omega), if_neg (by omega), if_pos (by omega), c6]
  rfl
 rw [if_neg c6] at h ⊢
 by_cases c7 : c.toNat < 32
 ·rw [if_pos c7] at h ⊢
  have b0 : byteI s j = 92 := h.byte0.2
  have b1 : byteI s (j + 1) = 117 := (h.byte 1 rfl).2
  have b2 : byteI s (j + 2) = 48 := (h.byte 2 rfl).2
  have b3 : byteI s (j + 3) = 48 := (h.byte 3 rfl).2
  have b4 : byteI s (j + 4) = ((figU (c.toNat / 16)).toNat : Int) := (h.byte 4 rfl).2
  have b5 : byteI s (j + 5) = ((figU (c.toNat % 16)).toNat : Int) := (h.byte 5 rfl).2
  have i1 := (h.byte 1 rfl).1
  have i5 := (h.byte 5 rfl).1
  have hf : fourB s (j + 2) = (c.toNat : Int) := by
   have v0 : hexV 48 = 0 := by decide
   have v4 := lowV_fig (x := c.toNat / 16) (by omega)
   have v5 := lowV_fig (x := c.toNat % 16) (by omega)
   unfold fourB
   rw [if_pos (by omega)]
   simp only [fourR]
   rw [b2, b3, b4, b5, v0, v4, v5]
   rw [if_neg (by omega), if_neg (by omega), if_neg (by omega), if_neg (by omega)]
   omega
  refine ⟨by rw [b0]; decide, ?_⟩
  unfold quotN
  rw [if_pos b0]
  unfold escB
  rw [if_pos i1, if_neg (by omega), if_neg (by omega), if_neg (by omega), if_neg (by omega), if_neg (by omega), if_neg (by omega), if_pos (by omega), hf, if_neg (by unfold inB; simp; omega), if_pos (by unfold inB; simp; omega)]
  simp only [List.length_cons, List.length_nil, Prod.mk.injEq, true_and]
  omega
 rw [if_neg c7] at h ⊢
 have hcc : UInt8.ofNat c.toNat = c := by simp
 rw [hcc] at h
 have h' : Rd s j (c :: l) := h
 have b0 := h'.byte0
 have hr := rune_one h' hc
 refine ⟨by rw [b0.2]; omega, ?_⟩
 unfold quotN
 rw [if_neg (by rw [b0.2]; omega), hr, if_neg (by simp only; omega)]
 rfl
theorem quot_back (x s : ByteArray) (rest : List UInt8) : ∀ (f i : Nat) (rs : List Nat), x.size - i <= f -> runesAt x i = some rs -> ∀ (j : Nat) (acc : List UInt8), Rd s j ((x.data.toList.drop i).flatMap qB ++ 34 :: rest) ->
  quotG s j acc = (⟨(acc ++ x.data.toList.drop i).toArray⟩, ((j + ((x.data.toList.drop i).flatMap qB).length + 1 : Nat) : Int)) := by
 intro f
 induction f with
 | zero =>
  intro i rs hf h j acc hr
  have hi : ¬ i < x.size := by omega
  have he : x.data.toList.drop i = [] := List.drop_of_length_le (by rw [Array.length_toList]; exact Nat.le_of_not_lt hi)
  rw [he] at hr ⊢
  have b0 := Rd.byte0 (c := 34) (l := rest) hr
  rw [quotG_at b0.1, if_pos (show byteI s j = 34 from b0.2), List.append_nil]
  rfl
 | succ f ih =>
  intro i rs hf h j acc hr
  by_cases hi : i < x.size
  ·by_cases hd : Utf8.decode x i = (65533, 1)
   ·rw [runesAt_bad hi hd] at h; cases h
   ·rw [runesAt_step hi hd] at h
    have hdl := decodeL_drop x i hi
    have hl : x.data.toList.length = x.size := Array.length_toList
    have hne : x.data.toList.drop i ≠ [] := fun e => by
     have := congrArg List.length e
     rw [List.length_drop, hl] at this
     simp at this
     omega
    have hfit := decode_fits x i hi
    rcases hr2 : runesAt x (i + (Utf8.decode x i).2) with _ | rs'
    ·rw [hr2] at h; cases h
    ·have hs : x.data.toList.drop i = (x.data.toList.drop i).take (Utf8.decode x i).2 ++ x.data.toList.drop (i + (Utf8.decode x i).2) := by
      rw [<- List.drop_drop, List.take_append_drop]
     have hdv : decodeL (x.data.toList.drop i) ≠ (65533, 1) := by rw [hdl]; exact hd
     have ih' := ih (i + (Utf8.decode x i).2) rs' (by omega) hr2
     have hloc := fun (l' : List UInt8) => decode_local (l := x.data.toList.drop i) (l' := l') hdv
     have hway := decode_way _ hne hdv
     rw [hdl] at hloc hway
     obtain ⟨a, ha⟩ : ∃ a, a = (x.data.toList.drop i).take (Utf8.decode x i).2 := ⟨_, rfl⟩
     obtain ⟨b, hb⟩ : ∃ b, b = x.data.toList.drop (i + (Utf8.decode x i).2) := ⟨_, rfl⟩
     rw [<- ha] at hway hloc
     rw [<- ha, <- hb] at hs
     rw [<- hb] at ih'
     have hal : a.length = (Utf8.decode x i).2 := by rw [ha, List.length_take, List.length_drop, hl]; omega
     rw [hs] at hr ⊢
     rw [List.flatMap_append, List.append_assoc] at hr
     rw [List.flatMap_append]
     have hstep : ∀ (c : Nat) (m : Nat), m = (a.flatMap qB).length -> byteI s j ≠ 34 -> j < s.size -> quotN s j = ((c : Int), ((j + m : Nat) : Int)) -> (textB (c : Nat)).data.toList = a -> quotG s j acc = (⟨(acc ++ (a ++ b)).toArray⟩, ((j + (a.flatMap qB ++ b.flatMap qB).length + 1 : Nat) : Int)) := by
      intro c m hm h34 hj hq ht
      rw [quotG_at hj, if_neg h34, hq]
      simp only
      rw [if_neg (by omega), ht, Int.toNat_natCast, hm, ih' (j + (a.flatMap qB).length) (acc ++ a) hr.drop, List.append_assoc, List.length_append]
      congr 3
      omega
     rcases hway with ⟨y, h1, h2, h3⟩ | ⟨h1, h2, h3⟩
     ·rw [h3] at hr hstep ⊢
      have hq1 : [y].flatMap qB = qB y := by simp
      rw [hq1] at hr hstep ⊢
      have hlow := quot_low (by exact hr) h2
      have hqn : 0 < (qB y).length := by
       unfold qB qN
       repeat' split
       all_goals simp
      have hj : j < s.size := by
       rcases hqb : qB y with _ | ⟨z, zs⟩
       ·rw [hqb] at hqn; simp at hqn
       ·rw [hqb] at hr
        exact (Rd.byte0 (c := z) hr).1
      exact hstep y.toNat (qB y).length rfl hlow.1 hj hlow.2 (text_one h2)
     ·have hfh := flat_high h3
      rw [hfh] at hr hstep ⊢
      have ha0 : 0 < a.length := by omega
      have hj : j < s.size /\ byteI s j ≠ 34 /\ byteI s j ≠ 92 := by
       rcases a with _ | ⟨z, zs⟩
       ·simp at ha0
       ·have hb0 := Rd.byte0 (c := z) hr
        have := h3 z (by simp)
        exact ⟨hb0.1, by rw [hb0.2]; omega, by rw [hb0.2]; omega⟩
      have hdj := decodeL_drop s j hj.1
      have hrr : s.data.toList.drop j = a ++ (b.flatMap qB ++ 34 :: rest) := hr
      have h9 := hloc (a ++ (b.flatMap qB ++ 34 :: rest)) (by rw [<- hal, List.take_left]) (by rw [List.length_append]; omega)
      rw [<- hrr, hdj] at h9
      have hrb : runeB s j = (((Utf8.decode x i).1 : Int), ((j + a.length : Nat) : Int)) := by
       unfold runeB
       rw [if_pos hj.1, h9, if_neg hd, hal]
      refine hstep (Utf8.decode x i).1 a.length rfl hj.2.1 hj.1 ?_ h2
      unfold quotN
      rw [if_neg hj.2.2, hrb, if_neg (by simp only; omega)]
  ·have he : x.data.toList.drop i = [] := List.drop_of_length_le (by rw [Array.length_toList]; exact Nat.le_of_not_lt hi)
   rw [he] at hr ⊢
   have b0 := Rd.byte0 (c := 34) (l := rest) hr
   rw [quotG_at b0.1, if_pos (show byteI s j = 34 from b0.2), List.append_nil]
   rfl
theorem quotB_back {x s : ByteArray} {j : Nat} {rest : List UInt8} (hx : utf8B x = true) (h : Rd s j ((quoteB x).data.toList ++ rest)) : byteI s j = 34 /\ j < s.size /\ quotB s j = (x, ((j + (quoteB x).data.toList.length : Nat) : Int)) := by
 have hq : (quoteB x).data.toList = 34 :: (x.data.toList.flatMap qB ++ [34]) := by unfold quoteB; rw [if_pos hx]; rfl
 rw [hq] at h ⊢
 have b0 := Rd.byte0 (c := 34) h
 have e34 : byteI s j = 34 := b0.2
 obtain ⟨rs, hrs⟩ := Option.isSome_iff_exists.1 (show (runesAt x 0).isSome = true from hx)
 have h2 : Rd s (j + 1) ((x.data.toList.drop 0).flatMap qB ++ 34 :: rest) := by
  have := Rd.drop (a := [34]) (b := x.data.toList.flatMap qB ++ 34 :: rest) (by rw [List.cons_append, List.append_assoc] at h; exact h)
  exact this
 have h3 := quot_back x s rest _ 0 rs (Nat.le_refl _) hrs (j + 1) [] h2
 refine ⟨e34, b0.1, ?_⟩
 unfold quotB
 rw [if_pos b0.1, if_pos e34, h3]
 simp only [List.drop_zero, List.nil_append, List.length_cons, List.length_append, List.length_nil]
 congr 2
 omega
def okR (r : Nat) : Prop := r <= 1114111 /\ ¬ (55296 <= r /\ r <= 57343)
theorem dec_text {r : Nat} (h : okR r) (m : List UInt8) : decodeL ((textB r).data.toList ++ m) = (r, (textB r).data.toList.length) /\ decodeL ((textB r).data.toList ++ m) ≠ (65533, 1) /\ 1 <= (textB r).data.toList.length := by
 have hl := textB_list r
 obtain ⟨l, hll⟩ : ∃ l, l = (textB r).data.toList := ⟨_, rfl⟩
 rw [<- hll] at hl ⊢
 clear hll
 unfold okR at h
 rw [decodeL_N]
 unfold encN4 at hl
 rw [if_neg (by omega)] at hl
 by_cases c1 : r < 128
 ·rw [if_pos c1] at hl
  rcases l with _ | ⟨x, _ | ⟨y, l⟩⟩
  ·cases hl
  ·simp only [List.map_cons, List.map_nil, List.cons.injEq, and_true] at hl
   have w := (rune_way1 ([x] ++ m).length (([x] ++ m).getD 0 0).toNat (([x] ++ m).getD 1 0).toNat (([x] ++ m).getD 2 0).toNat (([x] ++ m).getD 3 0).toNat (by simp; omega))
   have he : encN4 (([x] ++ m).getD 0 0).toNat = [(([x] ++ m).getD 0 0).toNat] := by
    simp only [List.cons_append, List.nil_append, List.getD_cons_zero]
    unfold encN4
    rw [if_neg (by omega), if_pos (by omega)]
   refine ⟨?_, w.1.1 he, by simp⟩
   rw [w.2 he]
   simp only [List.cons_append, List.nil_append, List.getD_cons_zero, hl, List.length_cons, List.length_nil]
  ·simp at hl
 rw [if_neg c1] at hl
 by_cases c2 : r < 2048
 ·rw [if_pos c2] at hl
  rcases l with _ | ⟨x, _ | ⟨y, _ | ⟨z, l⟩⟩⟩
  ·cases hl
  ·simp at hl
  ·simp only [List.map_cons, List.map_nil, List.cons.injEq, and_true] at hl
   obtain ⟨h1, h2⟩ := hl
   simp only [List.cons_append, List.nil_append, List.getD_cons_zero, List.getD_cons_succ]
   have w := rune_way2 (x :: y :: m).length x.toNat y.toNat (m.getD 0 0).toNat (m.getD 1 0).toNat (by omega) (by omega) (by omega)
   have hp : partN x.toNat = x.toNat - 192 := by unfold partN; rw [if_neg (by omega), if_neg (by omega), if_pos (by omega)]
   have hg : gathN x.toNat y.toNat (m.getD 0 0).toNat (m.getD 1 0).toNat 2 = r := by show 64 * partN x.toNat + y.toNat - 128 = r; rw [hp]; omega
   have hv := w.1.1 ⟨by simp, by unfold contN; simp; omega, by
    rw [hg]
    unfold encN4
    rw [if_neg (by omega), if_neg (by omega), if_pos (by omega), h1, h2]⟩
   refine ⟨?_, hv, by simp⟩
   rw [w.2 hv, hg]
   rfl
  ·simp at hl
 rw [if_neg c2] at hl
 by_cases c3 : r < 65536
 ·rw [if_pos c3] at hl
  rcases l with _ | ⟨x, _ | ⟨y, _ | ⟨z, _ | ⟨u, l⟩⟩⟩⟩
  ·cases hl
  ·simp at hl
  ·simp at hl
  ·simp only [List.map_cons, List.map_nil, List.cons.injEq, and_true] at hl
   obtain ⟨h1, h2, h3⟩ := hl
   simp only [List.cons_append, List.nil_append, List.getD_cons_zero, List.getD_cons_succ]
   have w := rune_way3 (x :: y :: z :: m).length x.toNat y.toNat z.toNat (m.getD 0 0).toNat (by omega) (by omega) (by omega) (by omega)
   have hp : partN x.toNat = x.toNat - 224 := by unfold partN; rw [if_neg (by omega), if_pos (by omega)]
   have hg : gathN x.toNat y.toNat z.toNat (m.getD 0 0).toNat 3 = r := by show 64 * (64 * partN x.toNat + y.toNat - 128) + z.toNat - 128 = r; rw [hp]; omega
   have hv := w.1.1 ⟨by simp, by unfold contN; simp; omega, by unfold contN; simp; omega, by
    rw [hg]
    unfold encN4
    rw [if_neg (by omega), if_neg (by omega), if_neg (by omega), if_pos (by omega), h1, h2, h3]⟩
   refine ⟨?_, hv, by simp⟩
   rw [w.2 hv, hg]
   rfl
  ·simp at hl
 rw [if_neg c3] at hl
 rcases l with _ | ⟨x, _ | ⟨y, _ | ⟨z, _ | ⟨u, _ | ⟨v, l⟩⟩⟩⟩⟩
 ·cases hl
 ·simp at hl
 ·simp at hl
 ·simp at hl
 ·simp only [List.map_cons, List.map_nil, List.cons.injEq, and_true] at hl
  obtain ⟨h1, h2, h3, h4⟩ := hl
  simp only [List.cons_append, List.nil_append, List.getD_cons_zero, List.getD_cons_succ]
  have w := rune_way4 (x :: y :: z :: u :: m).length x.toNat y.toNat z.toNat u.toNat (by omega) (by omega) (by omega) (by omega) (by omega)
  have hp : partN x.toNat = x.toNat - 240 := by unfold partN; rw [if_pos (by omega)]
  have hg : gathN x.toNat y.toNat z.toNat u.toNat 4 = r := by show 64 * (64 * (64 * partN x.toNat + y.toNat - 128) + z.toNat - 128) + u.toNat - 128 = r; rw [hp]; omega
  have hv := w.1.1 ⟨by simp, by unfold contN; simp; omega, by unfold contN; simp; omega, by unfold contN; simp; omega, by
   rw [hg]
   unfold encN4
   rw [if_neg (by omega), if_neg (by omega), if_neg (by omega), if_neg (by omega), h1, h2, h3, h4]⟩
  refine ⟨?_, hv, by simp⟩
  rw [w.2 hv, hg]
  rfl
 ·simp at hl
def textsB (rs : List Nat) : List UInt8 := rs.flatMap fun (r : Nat) => (textB r).data.toList
theorem runes_texts (x : ByteArray) : ∀ (rs : List Nat) (i : Nat), (∀ r ∈ rs, okR r) -> x.data.toList.drop i = textsB rs -> runesAt x i = some rs
 | [], i, _, h => by
  refine runesAt_end ?_
  intro hi
  have h1 := congrArg List.length h
  rw [List.length_drop, Array.length_toList] at h1
  have h2 : x.data.size = x.size := rfl
  simp [textsB] at h1
  omega
 | r :: rs, i, hok, h => by
  have h0 : textsB (r :: rs) = (textB r).data.toList ++ textsB rs := by unfold textsB; rw [List.flatMap_cons]
  rw [h0] at h
  obtain ⟨d1, d2, d3⟩ := dec_text (hok r (by simp)) (textsB rs)
  have hi : i < x.size := by
   rcases Nat.lt_or_ge i x.size with hi | hi
   ·exact hi
   ·rw [List.drop_of_length_le (by rw [Array.length_toList]; exact hi)] at h
    have h1 := congrArg List.length h
    rw [List.length_append, List.length_nil] at h1
    omega
  have hd := decodeL_drop x i hi
  rw [h] at hd
  rw [runesAt_step hi (by rw [<- hd]; exact d2), <- hd, d1]
  rw [runes_texts x rs (i + (textB r).data.toList.length) (fun y hy => hok y (by simp [hy])) (by rw [<- List.drop_drop, h, List.drop_left])]
  rfl
theorem quotN_cost {s : ByteArray} {j : Nat} (hj : j < s.size) (h34 : byteI s j ≠ 34) (h : ¬ (quotN s j).2 < 0) : ∃ r : Nat, (quotN s j).1 = (r : Int) /\ okR r /\ ((j + (qR r).length : Nat) : Int) <= (quotN s j).2 := by
 have hq : ∀ r : Nat, r < 128 -> (qR r) = qN r := fun r hr => by unfold qR; rw [if_pos hr]
 unfold quotN at h ⊢
 by_cases c0 : byteI s j = 92
 ·rw [if_pos c0] at h ⊢
  have hr1 := fourB_range s (j + 1 + 1)
  have hr7 := fourB_range s (j + 1 + 7)
  have b1 := byteI_range s (j + 1)
  have low : ∀ (r : Nat), okR r -> (qR r).length <= 2 -> ∀ y : Int × Int, y = ((r : Int), ((j + 1 : Nat) : Int) + 1) -> ∃ r : Nat, y.1 = (r : Int) /\ okR r /\ ((j + (qR r).length : Nat) : Int) <= y.2 := by
   intro r h1 h2 y hy
   rw [hy]
   exact ⟨r, rfl, h1, by simp only; omega⟩
  unfold escB at h ⊢
  by_cases e0 : j + 1 < s.size
  case neg => rw [if_neg e0] at h; exact absurd (show (-1 : Int) < 0 by decide) h
  rw [if_pos e0] at h ⊢
  by_cases e1 : byteI s (j + 1) = 34 ∨ byteI s (j + 1) = 92 ∨ byteI s (j + 1) = 47
  ·rw [if_pos e1]
   rcases e1 with e1 | e1 | e1
   ·rw [e1]; exact low 34 (by unfold okR; omega) (by decide) _ rfl
   ·rw [e1]; exact low 92 (by unfold okR; omega) (by decide) _ rfl
   ·rw [e1]; exact low 47 (by unfold okR; omega) (by decide) _ rfl
  rw [if_neg e1] at h ⊢
  by_cases e2 : byteI s (j + 1) = 98
  ·rw [if_pos e2]; exact low 8 (by unfold okR; omega) (by decide) _ rfl
  rw [if_neg e2] at h ⊢
  by_cases e3 : byteI s (j + 1) = 102
  ·rw [if_pos e3]; exact low 12 (by unfold okR; omega) (by decide) _ rfl
  rw [if_neg e3] at h ⊢
  by_cases e4 : byteI s (j + 1) = 110
  ·rw [if_pos e4]; exact low 10 (by unfold okR; omega) (by decide) _ rfl
  rw [if_neg e4] at h ⊢
  by_cases e5 : byteI s (j + 1) = 114
  ·rw [if_pos e5]; exact low 13 (by unfold okR; omega) (by decide) _ rfl
  rw [if_neg e5] at h ⊢
  by_cases e6 : byteI s (j + 1) = 116
  ·rw [if_pos e6]; exact low 9 (by unfold okR; omega) (by decide) _ rfl
  rw [if_neg e6] at h ⊢
  by_cases e7 : byteI s (j + 1) = 117
  case neg => rw [if_neg e7] at h; exact absurd (show (-1 : Int) < 0 by decide) h
  rw [if_pos e7] at h ⊢
  by_cases d1 : fourB s (j + 1 + 1) < 0 ∨ inB (fourB s (j + 1 + 1)) 56320 57343 = true
  case pos => rw [if_pos d1] at h; exact absurd (show (-1 : Int) < 0 by decide) h
  rw [if_neg d1] at h ⊢
  have d1' := not_or.1 d1
  have i1 : ¬ (56320 <= fourB s (j + 1 + 1) /\ fourB s (j + 1 + 1) <= 57343) := by have := d1'.2; unfold inB at this; simpa using this
  by_cases d2 : inB (fourB s (j + 1 + 1)) 55296 56319 = false
  ·rw [if_pos d2]
   have i2 : ¬ (55296 <= fourB s (j + 1 + 1) /\ fourB s (j + 1 + 1) <= 56319) := by unfold inB at d2; simpa using d2
   have hqr := qR_len (fourB s (j + 1 + 1)).toNat
   refine ⟨(fourB s (j + 1 + 1)).toNat, by simp only; omega, by unfold okR; omega, by simp only; omega⟩
  rw [if_neg d2] at h ⊢
  have i2 : 55296 <= fourB s (j + 1 + 1) /\ fourB s (j + 1 + 1) <= 56319 := by unfold inB at d2; simpa using d2
  by_cases d3 : s.size < j + 1 + 7 ∨ byteI s (j + 1 + 5) ≠ 92 ∨ byteI s (j + 1 + 6) ≠ 117
  case pos => rw [if_pos d3] at h; exact absurd (show (-1 : Int) < 0 by decide) h
  rw [if_neg d3] at h ⊢
  by_cases d4 : inB (fourB s (j + 1 + 7)) 56320 57343 = true
  case neg => rw [if_neg d4] at h; exact absurd (show (-1 : Int) < 0 by decide) h
  rw [if_pos d4]
  have i4 : 56320 <= fourB s (j + 1 + 7) /\ fourB s (j + 1 + 7) <= 57343 := by unfold inB at d4; simpa using d4
  have hqr := qR_len (65536 + 1024 * (fourB s (j + 1 + 1) - 55296) + fourB s (j + 1 + 7) - 56320).toNat
  refine ⟨(65536 + 1024 * (fourB s (j + 1 + 1) - 55296) + fourB s (j + 1 + 7) - 56320).toNat, by simp only; omega, by unfold okR; omega, by simp only; omega⟩
 ·rw [if_neg c0] at h ⊢
  by_cases c1 : (runeB s j).1 < 32
  ·rw [if_pos c1] at h; exact absurd (show (-1 : Int) < 0 by decide) h
  rw [if_neg c1] at h ⊢
  unfold runeB at h c1 ⊢
  rw [if_pos hj] at h c1 ⊢
  by_cases hd : Utf8.decode s j = (65533, 1)
  ·rw [if_pos hd] at h; exact absurd (show (-1 : Int) < 0 by decide) h
  rw [if_neg hd] at h c1 ⊢
  simp only at c1 ⊢
  have hfit := decode_fits s j hj
  have hdl := decodeL_drop s j hj
  have hl : s.data.toList.length = s.size := Array.length_toList
  have hne : s.data.toList.drop j ≠ [] := fun e => by
   have := congrArg List.length e
   rw [List.length_drop, hl] at this
   simp at this
   omega
  have hway := decode_way _ hne (by rw [hdl]; exact hd)
  rw [hdl] at hway
  refine ⟨(Utf8.decode s j).1, rfl, ?_⟩
  rcases hway with ⟨y, h1, h2, h3⟩ | ⟨h1, h2, h3⟩
  ·have hb : byteI s j = (y.toNat : Int) := by
    have hr : Rd s j (y :: (s.data.toList.drop j).drop (Utf8.decode s j).2) := by
     unfold Rd
     rw [<- List.singleton_append, <- h3, List.take_append_drop]
    exact hr.byte0.2
   refine ⟨by unfold okR; omega, ?_⟩
   rw [h1, hq _ h2]
   have hqn : (qN y.toNat).length = 1 := by
    unfold qN
    rw [if_neg (by omega), if_neg (by omega), if_neg (by omega), if_neg (by omega), if_neg (by omega), if_neg (by omega), if_neg (by omega)]
    rfl
   omega
  ·have hk : ((s.data.toList.drop j).take (Utf8.decode s j).2).length = (Utf8.decode s j).2 := by rw [List.length_take, List.length_drop, hl]; omega
   have hlen := congrArg List.length h2
   rw [hk] at hlen
   have hen := congrArg List.length (textB_list (Utf8.decode s j).1)
   rw [List.length_map, hlen] at hen
   refine ⟨?_, ?_⟩
   ·unfold okR
    unfold encN4 at hen
    by_cases hbad : 1114111 < (Utf8.decode s j).1 ∨ (55296 <= (Utf8.decode s j).1 /\ (Utf8.decode s j).1 <= 57343)
    ·rw [if_pos hbad] at hen
     simp at hen
     omega
    ·omega
   ·unfold qR
    rw [if_neg (by omega), hlen]
    omega
theorem quotG_cost (s : ByteArray) : ∀ (f j : Nat) (acc : List UInt8), s.size - j <= f -> ¬ (quotG s j acc).2 < 0 -> ∃ rs : List Nat, (∀ r ∈ rs, okR r) /\ (quotG s j acc).1 = ⟨(acc ++ textsB rs).toArray⟩ /\ ((j + (rs.flatMap qR).length + 1 : Nat) : Int) <= (quotG s j acc).2 := by
 intro f
 induction f with
 | zero =>
  intro j acc hf h
  rw [quotG_end (by omega)] at h
  exact absurd (show (-1 : Int) < 0 by decide) h
 | succ f ih =>
  intro j acc hf h
  by_cases hj : j < s.size
  ·rw [quotG_at hj] at h ⊢
   by_cases c1 : byteI s j = 34
   ·rw [if_pos c1]
    exact ⟨[], fun r hr => (by cases hr), by simp [textsB], by simp⟩
   rw [if_neg c1] at h ⊢
   by_cases c2 : (quotN s j).2 < 0
   ·rw [if_pos c2] at h; exact absurd (show (-1 : Int) < 0 by decide) h
   rw [if_neg c2] at h ⊢
   obtain ⟨r, h1, h2, h3⟩ := quotN_cost hj c1 c2
   have hnx := quotN_next s j
   rw [h1] at h ⊢
   obtain ⟨rs, g1, g2, g3⟩ := ih _ _ (by omega) h
   refine ⟨r :: rs, fun x hx => ?_, ?_, ?_⟩
   ·rcases List.mem_cons.1 hx with rfl | hx
    ·exact h2
    ·exact g1 x hx
   ·rw [g2, List.append_assoc]
    rfl
   ·rw [List.flatMap_cons, List.length_append]
    omega
  ·rw [quotG_end hj] at h
   exact absurd (show (-1 : Int) < 0 by decide) h
theorem quotB_cost {s : ByteArray} {j : Nat} (h : ¬ (quotB s j).2 < 0) : utf8B (quotB s j).1 = true /\ ((j + (quoteB (quotB s j).1).data.toList.length : Nat) : Int) <= (quotB s j).2 := by
 unfold quotB at h ⊢
 by_cases hj : j < s.size
 ·rw [if_pos hj] at h ⊢
  by_cases c1 : byteI s j = 34
  ·rw [if_pos c1] at h ⊢
   obtain ⟨rs, h1, h2, h3⟩ := quotG_cost s _ (j + 1) [] (Nat.le_refl _) h
   rw [List.nil_append] at h2
   have hr : runesAt (quotG s (j + 1) []).1 0 = some rs := runes_texts _ rs 0 h1 (by rw [h2, List.drop_zero])
   refine ⟨by unfold utf8B; rw [hr]; rfl, ?_⟩
   rw [quoteB_runes hr]
   simp only [List.length_append, List.length_cons, List.length_nil]
   omega
  ·rw [if_neg c1] at h
   exact absurd (show (-1 : Int) < 0 by decide) h
 ·rw [if_neg hj] at h
  exact absurd (show (-1 : Int) < 0 by decide) h
def headOk (l : List UInt8) : Prop := ∀ c, l.head? = some c -> ¬ (48 <= c.toNat /\ c.toNat <= 57) /\ c.toNat ≠ 46 /\ c.toNat ≠ 101 /\ c.toNat ≠ 69
theorem dig_back {s : ByteArray} {rest : List UInt8} (hrest : headOk rest) : ∀ (l : List UInt8) (j : Nat), (∀ c ∈ l, figB c) -> Rd s j (l ++ rest) -> digE s j = j + l.length
 | [], j, _, h => by
  by_cases hj : j < s.size
  ·rw [digE_at hj]
   rcases hr : rest with _ | ⟨c, r⟩
   ·have := h.len (by omega)
    rw [hr] at this
    simp at this
    omega
   ·rw [hr] at h
    have hb := Rd.byte0 (c := c) h
    have hh := hrest c (by rw [hr]; rfl)
    rw [if_neg (by rw [hb.2]; unfold figI; simp only [Bool.and_eq_true, decide_eq_true_eq]; omega)]
    rfl
  ·rw [digE_end hj]; rfl
 | c :: l, j, hf, h => by
  have hb := Rd.byte0 (c := c) h
  have hc := hf c (by simp)
  unfold figB at hc
  have h2 : Rd s (j + 1) (l ++ rest) := Rd.drop (a := [c]) h
  rw [digE_at hb.1, if_pos (by rw [hb.2]; unfold figI; simp only [Bool.and_eq_true, decide_eq_true_eq]; omega), dig_back hrest l (j + 1) (fun x hx => hf x (by simp [hx])) h2, List.length_cons]
  omega
theorem dec_head : ∀ u : Nat, 0 < u -> ∃ c r, decDigits u = c :: r /\ 49 <= c.toNat /\ c.toNat <= 57 := by
 intro u
 induction u using Nat.strongRecOn with
 | ind u ih =>
  intro hu
  rw [decDigits]
  by_cases h : u < 10
  ·rw [dif_pos h]
   exact ⟨_, [], rfl, by rw [ofNat_fig h]; omega, by rw [ofNat_fig h]; omega⟩
  ·rw [dif_neg h]
   obtain ⟨c, r, h1, h2, h3⟩ := ih (u / 10) (by omega) (by omega)
   exact ⟨c, r ++ [UInt8.ofNat (48 + u % 10)], by rw [h1]; rfl, h2, h3⟩
theorem dec_ne (u : Nat) : decDigits u ≠ [] := by
 rcases Nat.eq_zero_or_pos u with rfl | h
 ·rw [decDigits]; simp
 ·obtain ⟨c, r, h1, -⟩ := dec_head u h
  rw [h1]; simp
theorem num_back {s : ByteArray} {a u : Nat} {rest : List UInt8} (hrest : headOk rest) (h : Rd s a (decDigits u ++ rest)) : digE s a = a + (decDigits u).length /\ ¬ (digE s a = a ∨ (byteI s a = 48 /\ a + 1 < digE s a) ∨ (digE s a < s.size /\ (byteI s (digE s a) = 46 ∨ byteI s (digE s a) = 101 ∨ byteI s (digE s a) = 69))) /\ numB s a (digE s a) = u := by
 have h1 := dig_back hrest _ a (dec_figs u) h
 have hne := dec_ne u
 have hl : 0 < (decDigits u).length := List.length_pos_iff.2 hne
 refine ⟨h1, ?_, ?_⟩
 ·rw [h1]
  refine not_or.2 ⟨by omega, not_or.2 ⟨?_, ?_⟩⟩
  ·intro ⟨e1, e2⟩
   rcases Nat.eq_zero_or_pos u with rfl | hu
   ·have : (decDigits 0).length = 1 := by rw [decDigits]; rfl
    omega
   ·obtain ⟨c, r, g1, g2, g3⟩ := dec_head u hu
    rw [g1] at h
    have hb := Rd.byte0 (c := c) h
    rw [hb.2] at e1
    omega
  ·intro ⟨e1, e2⟩
   have h2 := h.drop
   rcases hr : rest with _ | ⟨c, r⟩
   ·rw [hr] at h2
    have := h2.len (by omega)
    simp at this
    omega
   ·rw [hr] at h2
    have hb := Rd.byte0 (c := c) h2
    have hh := hrest c (by rw [hr]; rfl)
    rw [hb.2] at e2
    omega
 ·unfold numB
  rw [h1, extract_list, show s.data.toList.drop a = decDigits u ++ rest from h, List.take_left, dec_val]
theorem whole_back {s : ByteArray} {j : Nat} {n : Int} {rest : List UInt8} (hn : -9223372036854775808 <= n /\ n <= 9223372036854775807) (hrest : headOk rest) (h : Rd s j ((decS n).data.toList ++ rest)) : j < s.size /\ markI (byteI s j) = 0 /\ byteI s j ≠ 34 /\ (byteI s j = 45 ∨ figI (byteI s j) = true) /\ wholeB s j = (n, ((j + (decS n).data.toList.length : Nat) : Int)) := by
 have hd : (decS n).data.toList = itoa n := by unfold decS; simp
 rw [hd] at h ⊢
 unfold itoa at h ⊢
 by_cases hneg : n < 0
 ·rw [if_pos hneg] at h ⊢
  have hb := Rd.byte0 (c := 45) h
  have e45 : byteI s j = 45 := hb.2
  have h2 : Rd s (j + 1) (decDigits n.natAbs ++ rest) := Rd.drop (a := [45]) h
  obtain ⟨g1, g2, g3⟩ := num_back hrest h2
  refine ⟨hb.1, by rw [e45]; decide, by rw [e45]; decide, .inl e45, ?_⟩
  unfold wholeB
  rw [if_pos hb.1, if_pos e45]
  unfold wholeA
  rw [if_neg g2, if_pos rfl, g3, if_pos (by omega), g1, List.length_cons]
  simp only [Prod.mk.injEq]
  omega
 ·rw [if_neg hneg] at h ⊢
  obtain ⟨g1, g2, g3⟩ := num_back hrest h
  have hb : ∃ c r, decDigits n.toNat = c :: r := by
   rcases hq : decDigits n.toNat with _ | ⟨c, r⟩
   ·exact absurd hq (dec_ne _)
   ·exact ⟨c, r, rfl⟩
  obtain ⟨c, r, hcr⟩ := hb
  have hfc := dec_figs n.toNat c (by rw [hcr]; simp)
  unfold figB at hfc
  have hb : j < s.size /\ byteI s j = (c.toNat : Int) := by
   rw [hcr] at h
   exact Rd.byte0 (c := c) h
  have hm : markI (byteI s j) = 0 := by
   rw [hb.2]
   unfold markI
   rw [if_neg (by omega), if_neg (by omega), if_neg (by omega), if_neg (by omega), if_neg (by omega), if_neg (by omega)]
  refine ⟨hb.1, hm, by rw [hb.2]; omega, .inr (by rw [hb.2]; unfold figI; simp only [Bool.and_eq_true, decide_eq_true_eq]; omega), ?_⟩
  unfold wholeB
  rw [if_pos hb.1, if_neg (by rw [hb.2]; omega)]
  unfold wholeA
  rw [if_neg g2, if_neg (by decide), g3, if_pos (by omega), g1]
  exact Prod.ext (by show ((n.toNat : Nat) : Int) = n; omega) rfl
theorem i64_zero : I64 0 := by unfold I64; omega
def VU (a : List UInt8) : Prop := ∀ (s : ByteArray) (j : Nat) (rest : List UInt8), Rd s j (a ++ rest) -> badAt s j = badAt s (j + a.length)
theorem VU.nil : VU [] := fun _ _ _ _ => rfl
theorem VU.app {a b : List UInt8} (h : VU a) (k : VU b) : VU (a ++ b) := by
 intro s j rest hr
 rw [List.append_assoc] at hr
 rw [h s j _ hr, k s _ _ hr.drop, List.length_append, Nat.add_assoc]
theorem VU.low : ∀ {a : List UInt8}, (∀ c ∈ a, c.toNat < 128) -> VU a
 | [], _ => VU.nil
 | c :: a, h => by
  refine VU.app (a := [c]) ?_ (VU.low (fun x hx => h x (by simp [hx])))
  intro s j rest hr
  have hb := Rd.byte0 (c := c) hr
  have hc := h c (by simp)
  have h1 := decodeL_drop s j hb.1
  rw [show s.data.toList.drop j = c :: rest from hr, decode_one (by simpa using hc)] at h1
  rw [badAt_step hb.1 (by rw [<- h1]; intro e; have := congrArg Prod.fst e; simp at this; omega), <- h1]
  rfl
theorem qB_low {c : UInt8} (h : c.toNat < 128) : ∀ x ∈ qB c, x.toNat < 128 := by
 have hf : ∀ y : Fin 16, (figU y.val).toNat < 128 := by decide
 intro x hx
 unfold qB qN at hx
 by_cases c1 : c.toNat = 34 ∨ c.toNat = 92
 ·rw [if_pos c1] at hx
  simp at hx
  rcases hx with rfl | rfl
  ·decide
  ·exact h
 rw [if_neg c1] at hx
 by_cases c2 : c.toNat = 8
 ·rw [if_pos c2] at hx; simp at hx; rcases hx with rfl | rfl <;> decide
 rw [if_neg c2] at hx
 by_cases c3 : c.toNat = 12
 ·rw [if_pos c3] at hx; simp at hx; rcases hx with rfl | rfl <;> decide
 rw [if_neg c3] at hx
 by_cases c4 : c.toNat = 10
 ·rw [if_pos c4] at hx; simp at hx; rcases hx with rfl | rfl <;> decide
 rw [if_neg c4] at hx
 by_cases c5 : c.toNat = 13
 ·rw [if_pos c5] at hx; simp at hx; rcases hx with rfl | rfl <;> decide
 rw [if_neg c5] at hx
 by_cases c6 : c.toNat = 9
 ·rw [if_pos c6] at hx; simp at hx; rcases hx with rfl | rfl <;> decide
 rw [if_neg c6] at hx
 by_cases c7 : c.toNat < 32
 ·rw [if_pos c7] at hx
  simp only [List.mem_cons, List.mem_nil_iff, or_false] at hx
  rcases hx with rfl | rfl | rfl | rfl | rfl | rfl
  ·decide
  ·decide
  ·decide
  ·decide
  ·exact hf ⟨c.toNat / 16, by omega⟩
  ·exact hf ⟨c.toNat % 16, by omega⟩
 ·rw [if_neg c7] at hx
  simp at hx
  rw [hx]
  exact h
theorem VU.rune {l : List UInt8} (hv : decodeL l ≠ (65533, 1)) (hk : 1 <= (decodeL l).2) (hl : (decodeL l).2 <= l.length) : VU (l.take (decodeL l).2) := by
 intro s j rest hr
 have hlen : (l.take (decodeL l).2).length = (decodeL l).2 := by rw [List.length_take]; omega
 have hj : j < s.size := by
  rcases hq : l.take (decodeL l).2 with _ | ⟨z, zs⟩
  ·rw [hq] at hlen; simp at hlen; omega
  ·rw [hq] at hr
   exact (Rd.byte0 (c := z) hr).1
 have h1 := decodeL_drop s j hj
 rw [show s.data.toList.drop j = l.take (decodeL l).2 ++ rest from hr, decode_local (l := l) hv (by rw [List.take_append_of_le_length (by omega), List.take_take, Nat.min_self]) (by rw [List.length_append]; omega)] at h1
 rw [badAt_step hj (by rw [<- h1]; exact hv), <- h1, hlen]
theorem VU.flat (x : ByteArray) : ∀ (f i : Nat) (rs : List Nat), x.size - i <= f -> runesAt x i = some rs -> VU ((x.data.toList.drop i).flatMap qB) := by
 intro f
 induction f with
 | zero =>
  intro i rs hf h
  rw [List.drop_of_length_le (by rw [Array.length_toList]; exact (show x.size <= i by omega))]
  exact VU.nil
 | succ f ih =>
  intro i rs hf h
  by_cases hi : i < x.size
  ·by_cases hd : Utf8.decode x i = (65533, 1)
   ·rw [runesAt_bad hi hd] at h; cases h
   ·rw [runesAt_step hi hd] at h
    have hdl := decodeL_drop x i hi
    have hl : x.data.toList.length = x.size := Array.length_toList
    have hne : x.data.toList.drop i ≠ [] := fun e => by
     have := congrArg List.length e
     rw [List.length_drop, hl] at this
     simp at this
     omega
    have hfit := decode_fits x i hi
    rcases hr2 : runesAt x (i + (Utf8.decode x i).2) with _ | rs'
    ·rw [hr2] at h; cases h
    ·have hs : x.data.toList.drop i = (x.data.toList.drop i).take (Utf8.decode x i).2 ++ x.data.toList.drop (i + (Utf8.decode x i).2) := by
      rw [<- List.drop_drop, List.take_append_drop]
     have hdv : decodeL (x.data.toList.drop i) ≠ (65533, 1) := by rw [hdl]; exact hd
     have ih' := ih (i + (Utf8.decode x i).2) rs' (by omega) hr2
     have hway := decode_way _ hne hdv
     have hru := VU.rune hdv (by rw [hdl]; exact hfit.2.1) (by rw [hdl, List.length_drop, hl]; omega)
     rw [hdl] at hway hru
     rw [hs, List.flatMap_append]
     refine VU.app ?_ ih'
     rcases hway with ⟨y, h1, h2, h3⟩ | ⟨h1, h2, h3⟩
     ·rw [h3]
      have hq1 : [y].flatMap qB = qB y := by simp
      rw [hq1]
      exact VU.low (qB_low h2)
     ·rw [flat_high h3]
      exact hru
  ·rw [List.drop_of_length_le (by rw [Array.length_toList]; exact (show x.size <= i by omega))]
   exact VU.nil
theorem VU.quote {x : ByteArray} (hx : utf8B x = true) : VU (quoteB x).data.toList := by
 obtain ⟨rs, hrs⟩ := Option.isSome_iff_exists.1 (show (runesAt x 0).isSome = true from hx)
 have h := VU.flat x _ 0 rs (Nat.le_refl _) hrs
 rw [List.drop_zero] at h
 have hq : (quoteB x).data.toList = [34] ++ (x.data.toList.flatMap qB ++ [34]) := by unfold quoteB; rw [if_pos hx]; rfl
 rw [hq]
 exact VU.app (VU.low (by simp)) (VU.app h (VU.low (by simp)))
def seqP {α : Type} (p : Nat -> List α) : Nat -> Nat -> List α
 | _, 0 => []
 | k, n + 1 => p k ++ seqP p (k + 1) n
theorem seqP_succ {α : Type} (p : Nat -> List α) (k n : Nat) : seqP p k (n + 1) = p k ++ seqP p (k + 1) n := rfl
theorem seqP_last {α : Type} (p : Nat -> List α) : ∀ (n k : Nat), seqP p k (n + 1) = seqP p k n ++ p (k + n)
 | 0, k => by simp [seqP]
 | n + 1, k => by
  rw [seqP_succ, seqP_last p n (k + 1), seqP_succ p k n, List.append_assoc]
  congr 3
  omega
theorem strB_utf {s : ByteArray} (h : strB s = true) : utf8B s = true /\ s.size <= 400 := by
 unfold strB at h
 simp only [Bool.and_eq_true, decide_eq_true_eq] at h
 exact ⟨h.2, h.1⟩
theorem key_str {n i : Nat} {d : TreeD} {k : ByteArray} (h : shapeT (n + 1) d = true) (hk : d.keys[i]? = some k) : strB k = true := by
 have := (shape_parts h).2.2.2.1 i (List.getElem?_eq_some_iff.1 hk).1
 unfold keyOk at this
 rw [hk] at this
 simp only [Bool.and_eq_true] at this
 exact this.1
open Go.RowKit
theorem bless_irrefl : ∀ a : List UInt8, Op.bytesLess a a = false
 | [] => rfl
 | x :: a => by unfold Op.bytesLess; simp [UInt8.lt_irrefl, bless_irrefl a]
theorem lessS_irrefl (a : ByteArray) : lessS a a = false := bless_irrefl _
open Go.Shelf
def laysBs_ren : Go.Shelf.Ren := ⟨fun | 26 => 183 | 33 => 239 | 34 => 240 | 38 => 264 | n => n, fun | 24 => 31 | 9 => 9 | 3 => 3 | 4 => 4 | 40 => 179 | 0 => 0 | n => n, fun | n => n⟩
theorem laysBs : Go.Proofs.Lays2.n26 Tryz.prog laysBs_ren := {
 mixed := by kernel_rfl
 f26 := Tryz.func183.trans (congrArg some (by kernel_rfl))
 f33 := Tryz.func239.trans (congrArg some (by kernel_rfl))
 f34 := Tryz.func240.trans (congrArg some (by kernel_rfl))
 f38 := Tryz.func264.trans (congrArg some (by kernel_rfl))
 t0 := Tryz.underlying0
 a0 := Tryz.isAgg0
 z0 := Tryz.sizeOf0
 v0 := Tryz.zeroValue0
 t3 := Tryz.underlying3
 a3 := Tryz.isAgg3
 z3 := Tryz.sizeOf3
 v3 := Tryz.zeroValue3
 t4 := Tryz.underlying4
 a4 := Tryz.isAgg4
 z4 := Tryz.sizeOf4
 v4 := Tryz.zeroValue4
 t9 := Tryz.underlying9
 a9 := Tryz.isAgg9
 z9 := Tryz.sizeOf9
 v9 := Tryz.zeroValue9
 t24 := Tryz.underlying31
 a24 := Tryz.isAgg31
 z24 := Tryz.sizeOf31
 v24 := Tryz.zeroValue31
 t40 := Tryz.underlying179
 a40 := Tryz.isAgg179
 z40 := Tryz.sizeOf179
 v40 := Tryz.zeroValue179 }
def laysIs_ren : Go.Shelf.Ren := ⟨fun | 22 => 184 | 29 => 241 | 30 => 242 | 36 => 265 | 17 => 281 | n => n, fun | 24 => 31 | 9 => 9 | 3 => 3 | 4 => 4 | 0 => 0 | n => n, fun | n => n⟩
theorem laysIs : Go.Proofs.Lays2.n22 Tryz.prog laysIs_ren := {
 mixed := by kernel_rfl
 f17 := Tryz.func281.trans (congrArg some (by kernel_rfl))
 f22 := Tryz.func184.trans (congrArg some (by kernel_rfl))
 f29 := Tryz.func241.trans (congrArg some (by kernel_rfl))
 f30 := Tryz.func242.trans (congrArg some (by kernel_rfl))
 f36 := Tryz.func265.trans (congrArg some (by kernel_rfl))
 t0 := Tryz.underlying0
 a0 := Tryz.isAgg0
 z0 := Tryz.sizeOf0
 v0 := Tryz.zeroValue0
 t3 := Tryz.underlying3
 a3 := Tryz.isAgg3
 z3 := Tryz.sizeOf3
 v3 := Tryz.zeroValue3
 t4 := Tryz.underlying4
 a4 := Tryz.isAgg4
 z4 := Tryz.sizeOf4
 v4 := Tryz.zeroValue4
 t9 := Tryz.underlying9
 a9 := Tryz.isAgg9
 z9 := Tryz.sizeOf9
 v9 := Tryz.zeroValue9
 t24 := Tryz.underlying31
 a24 := Tryz.isAgg31
 z24 := Tryz.sizeOf31
 v24 := Tryz.zeroValue31
 i9 := by kernel_rfl }
def isS (s x : ByteArray) : Bool := x.toList == s.toList
def hasS (l : List ByteArray) (s : ByteArray) : Bool := l.any (isS s)
def SortK (ks : List ByteArray) : Prop := ks.Pairwise fun a b => lessS a b = true
theorem lessS_trans3 {a b c : ByteArray} (h1 : lessS a b = true) (h2 : lessS b c = true) : lessS a c = true := bless_trans2 _ _ _ h1 h2
theorem lessS_other {a b : ByteArray} (h : lessS a b = false) (hn : a ≠ b) : lessS b a = true := by
 rcases h2 : lessS b a with _ | _
 ·exact absurd (toList_inj (bless_tri _ _ h h2)) hn
 ·rfl
theorem hasS_mem (ks : List ByteArray) (s : ByteArray) : hasS ks s = true ↔ s ∈ ks := by
 unfold hasS isS
 rw [List.any_eq_true]
 constructor
 ·rintro ⟨x, hx, h⟩
  have := toList_inj (beq_iff_eq.1 h)
  rwa [this] at hx
 ·intro h
  exact ⟨s, h, beq_self_eq_true _⟩
theorem beq_BA (a b : ByteArray) : (a == b) = (b.toList == a.toList) := by
 have h : (a == b) = (a.data == b.data) := rfl
 rw [h, Bool.eq_iff_iff, beq_iff_eq, beq_iff_eq]
 constructor
 ·intro e
  rw [ByteArray.ext e]
 ·intro e
  rw [toList_inj e]
theorem contains_hasS : ∀ (ks : List ByteArray) (s : ByteArray), ks.contains s = hasS ks s
 | [], _ => rfl
 | x :: ks, s => by
  rw [List.contains_cons, contains_hasS ks s, beq_BA]
  rfl
theorem tw_mem {D : Type} {p : D -> Bool} : ∀ {l : List D} {a : D}, a ∈ l.takeWhile p -> p a = true
 | [], a, h => by simp at h
 | x :: l, a, h => by
  rw [List.takeWhile_cons] at h
  by_cases hx : p x = true
  ·rw [if_pos hx] at h
   rcases List.mem_cons.1 h with rfl | h
   ·exact hx
   ·exact tw_mem h
  ·rw [if_neg hx] at h
   cases h
theorem posK_le (ks : List ByteArray) (key : ByteArray) : posK ks key <= ks.length := by
 unfold posK
 exact (List.takeWhile_sublist _).length_le
theorem posK_take (ks : List ByteArray) (key : ByteArray) : ks.take (posK ks key) = ks.takeWhile (fun k => lessS k key) := by
 unfold posK
 have h := List.takeWhile_append_dropWhile (p := fun k => lessS k key) (l := ks)
 conv => lhs; arg 2; rw [<- h]
 exact List.take_left' rfl
theorem posK_drop (ks : List ByteArray) (key : ByteArray) : ks.drop (posK ks key) = ks.dropWhile (fun k => lessS k key) := by
 unfold posK
 have h := List.takeWhile_append_dropWhile (p := fun k => lessS k key) (l := ks)
 conv => lhs; arg 2; rw [<- h]
 exact List.drop_left' rfl
theorem posK_less {ks : List ByteArray} {key : ByteArray} {t : Nat} {a : ByteArray} (h : t < posK ks key) (ha : ks[t]? = some a) : lessS a key = true := by
 have h1 : (ks.take (posK ks key))[t]? = some a := by rw [List.getElem?_take, if_pos h]; exact ha
 rw [posK_take] at h1
 exact tw_mem (p := fun k => lessS k key) (List.mem_of_getElem? h1)
theorem drop_not : ∀ {ks : List ByteArray} {key : ByteArray}, SortK ks -> ∀ a ∈ ks.dropWhile (fun k => lessS k key), lessS a key = false
 | [], key, _, a, ha => by simp at ha
 | x :: ks, key, hs, a, ha => by
  rw [List.dropWhile_cons] at ha
  by_cases hx : lessS x key = true
  ·rw [if_pos hx] at ha
   exact drop_not (List.Pairwise.of_cons hs) a ha
  ·rw [if_neg hx] at ha
   have hx0 : lessS x key = false := by simpa using hx
   rcases List.mem_cons.1 ha with rfl | ha
   ·exact hx0
   ·have h1 := (List.pairwise_cons.1 hs).1 a ha
    rcases h2 : lessS a key with _ | _
    ·rfl
    ·rw [lessS_trans3 h1 h2] at hx0; cases hx0
theorem posK_not {ks : List ByteArray} {key : ByteArray} {t : Nat} {a : ByteArray} (hs : SortK ks) (h : posK ks key <= t) (ha : ks[t]? = some a) : lessS a key = false := by
 refine drop_not hs a ?_
 rw [<- posK_drop]
 refine List.mem_of_getElem? (i := t - posK ks key) ?_
 rw [List.getElem?_drop, show posK ks key + (t - posK ks key) = t by omega]
 exact ha
theorem ins_sorted {ks : List ByteArray} {key : ByteArray} (hs : SortK ks) (hn : hasS ks key = false) : SortK (insL ks (posK ks key) key) := by
 have hnm : key ∉ ks := fun h => by rw [(hasS_mem ks key).2 h] at hn; cases hn
 unfold SortK insL
 rw [List.pairwise_append]
 refine ⟨List.Pairwise.sublist (List.take_sublist _ _) hs, List.pairwise_cons.2 ⟨fun a ha => ?_, List.Pairwise.sublist (List.drop_sublist _ _) hs⟩, fun a ha b hb => ?_⟩
 ·have hm := List.mem_of_mem_drop ha
  rw [posK_drop] at ha
  exact lessS_other (drop_not hs a ha) (fun e => hnm (by rw [<- e]; exact hm))
 ·have hl : lessS a key = true := by rw [posK_take] at ha; exact tw_mem (p := fun k => lessS k key) ha
  rcases List.mem_cons.1 hb with rfl | hb
  ·exact hl
  ·have hm := List.mem_of_mem_drop hb
   rw [posK_drop] at hb
   exact lessS_trans3 hl (lessS_other (drop_not hs b hb) (fun e => hnm (by rw [<- e]; exact hm)))
theorem ins_len {D : Type} {l : List D} {i : Nat} {x : D} (h : i <= l.length) : (insL l i x).length = l.length + 1 := by
 unfold insL
 rw [List.length_append, List.length_cons, List.length_take, List.length_drop]
 omega
theorem key_less {n : Nat} {d : TreeD} (h : shapeT (n + 1) d = true) : ∀ (j i : Nat) (a b : ByteArray), i < j -> d.keys[i]? = some a -> d.keys[j]? = some b -> lessS a b = true := by
 intro j
 induction j with
 | zero => intro i a b hi; omega
 | succ j ih =>
  intro i a b hi ha hb
  have hj := (List.getElem?_eq_some_iff.1 hb).1
  obtain ⟨c, hc⟩ := exists_at (show j < d.keys.length by omega)
  have h1 := (shape_parts h).2.2.2.1 (j + 1) hj
  rw [keyOk_succ hb hc] at h1
  simp only [Bool.and_eq_true] at h1
  rcases Nat.lt_or_ge i j with hij | hij
  ·exact lessS_trans3 (ih i a c hij ha hc) h1.2
  ·obtain rfl : i = j := by omega
   rw [ha] at hc
   obtain rfl := Option.some.inj hc
   exact h1.2
theorem tw_all {D : Type} {p : D -> Bool} : ∀ {l : List D}, (∀ x ∈ l, p x = true) -> l.takeWhile p = l
 | [], _ => rfl
 | x :: l, h => by rw [List.takeWhile_cons, if_pos (h x (by simp)), tw_all (fun y hy => h y (by simp [hy]))]
theorem posK_last {ks : List ByteArray} {key : ByteArray} (h : ∀ k ∈ ks, lessS k key = true) : posK ks key = ks.length := by
 unfold posK
 rw [tw_all h]
theorem insL_last {D : Type} (l : List D) (x : D) : insL l l.length x = l ++ [x] := by
 unfold insL
 rw [List.take_length, List.drop_length]
theorem not_contains {ks : List ByteArray} {key : ByteArray} (h : ∀ k ∈ ks, lessS k key = true) : ks.contains key = false := by
 rcases hc : ks.contains key with _ | _
 ·rfl
 ·rw [contains_hasS] at hc
  have h1 := h key ((hasS_mem ks key).1 hc)
  rw [lessS_irrefl] at h1
  cases h1
theorem bad_parts {d : TreeD} (h : badH d = false) : (1 <= d.kind /\ d.kind <= 6) /\ (d.kind ≠ 2 -> d.flag = false) /\ (d.kind ≠ 3 -> d.num = 0) /\ (d.kind ≠ 4 -> d.text = ⟨#[]⟩) /\ (d.kind ≠ 6 -> d.keys = []) /\ (d.kind < 5 -> d.kids = []) := by
 unfold badH at h
 simp only [Bool.or_eq_false_iff, Bool.not_eq_false', Bool.and_eq_false_iff, bne_eq_false_iff_eq, decide_eq_false_iff_not, Nat.not_lt, Nat.le_zero, List.length_eq_zero_iff] at h
 obtain ⟨⟨⟨⟨⟨h1, h2⟩, h3⟩, h4⟩, h5⟩, h6⟩ := h
 refine ⟨by unfold inB at h1; exact of_decide_eq_true h1, fun hk => h2.resolve_right hk, fun hk => h3.resolve_right hk, fun hk => ?_, fun hk => h5.resolve_right hk, fun hk => h6.resolve_right (by omega)⟩
 have h7 := h4.resolve_right hk
 rw [List.isEmpty_iff, ByteArray.toList_eq] at h7
 exact ByteArray.ext (Array.toList_inj.1 h7)
theorem seq_kids {D : Type} {l : List D} {k : Nat} {t : D} (h : l[k]? = some t) : l.drop k = t :: l.drop (k + 1) := by
 obtain ⟨h1, h2⟩ := List.getElem?_eq_some_iff.1 h
 rw [List.drop_eq_getElem_cons h1, h2]
theorem Aside.join {S S' : Nat -> Prop} {a b c : World} (h : Aside S a b) (k : Aside S' b c) (hs : ∀ q, S' q -> q < a.heap.size -> S q) : Aside S a c :=
 ⟨k.os.trans h.os, k.tape.trans h.tape, k.output.trans h.output, Nat.le_trans h.size k.size, fun i hi hn => (k.block i (Nat.lt_of_lt_of_le hi h.size) (fun hq => hn (hs i hq hi))).trans (h.block i hi hn)⟩
theorem own_leaf {n : Nat} {S : Nat -> Prop} {w : World} {k num : Int} {f : Bool} {t : ByteArray} (hk : I64 k) (hn : I64 num) (ht : t.size <= 9223372036854775807) : OwnT (n + 1) S w ⟨k, f, num, t, [], []⟩ [.int .i64 k, .bool f, .int .i64 num, .string t, .slice none 0 0, .slice none 0 0] :=
 OwnT.into ⟨_, _, fun _ => False, fun _ => False, rfl, hk, hn, ht, fun _ h => h.elim, fun _ h => h.elim, ⟨none, 0, rfl, Nat.le_refl _, by omega, fun h => absurd h (by simp)⟩, ⟨none, 0, rfl, Nat.le_refl _, by omega, fun h => absurd h (by simp)⟩⟩
theorem c_rd_TextTree (t : ByteArray) (w : World) : Calls Tryz.prog 135 #[.string t] w fun e w' => e = .returned (.agg #[.int .i64 4, .bool false, .int .i64 0, .string t, .slice none 0 0, .slice none 0 0]) /\ Below w.heap.size w w' := by
 go_enter Tryz.func135, Tryz.ntmps135
 go_wp2_with fail
 exact bodyPost_ret (v := .agg #[.int .i64 4, .bool false, .int .i64 0, .string t, .slice none 0 0, .slice none 0 0]) (by simp only [results, Tryz.results135]; go_simp) rfl ⟨rfl, bel⟩
theorem c_rd_IntTree (x : Int) (w : World) : Calls Tryz.prog 136 #[.int .i64 x] w fun e w' => e = .returned (.agg #[.int .i64 3, .bool false, .int .i64 x, .string ⟨#[]⟩, .slice none 0 0, .slice none 0 0]) /\ Below w.heap.size w w' := by
 go_enter Tryz.func136, Tryz.ntmps136
 go_wp2_with fail
 exact bodyPost_ret (v := .agg #[.int .i64 3, .bool false, .int .i64 x, .string ⟨#[]⟩, .slice none 0 0, .slice none 0 0]) (by simp only [results, Tryz.results136]; go_simp) rfl ⟨rfl, bel⟩
theorem GrowK.empty {n base B : Nat} {w : World} (hB : B = w.heap.size) (hb : base <= w.heap.size) : GrowK n base (w.alloc (.cells #[] 34)).heap.size (w.alloc (.cells #[] 34)) [] (.slice (some ⟨B, 0, none⟩) 0 0) :=
 ⟨[], fun _ _ => False, rfl, fun _ h => (by cases h), own_empty hB hb, fun g h => (by simp [Value.ownBlock] at h; simp; omega), fun _ _ h => h.elim, fun _ _ _ h => h.elim, fun i d es h => (by simp at h)⟩
theorem own9 {wr W9 w9 : World} {o : Obj} {base n m size : Nat} {e : TypeId} {v : Value} {xs : List Value} (h : wr.ownsRow base e size v n xs) (hb : Below W9.heap.size W9 w9) (he : W9.heap = wr.heap) (hn : n = m) : (w9.alloc o).ownsRow base e size v m xs := by
 subst hn
 refine World.ownsRow.alloc (ownsRow_carry h (fun q hq => ?_)) o
 have := (h.lt q hq).2
 rw [<- he] at this
 rw [hb.block q this, he]
theorem grown_at {w w' : World} {r q : Option Nat} (h : r = q) (k : w.grownBy w' q) : w.grownBy w' r := by subst h; exact k
theorem row9 {wr W9 w9 w2 : World} {o row : Obj} {r q : Option Nat} {b : Nat} (hrow : wr.heap[b]? = some row) (hb : Below W9.heap.size W9 w9) (he : W9.heap = wr.heap) (hg : (w9.alloc o).grownBy w2 q) (hr : r = q) (hn : r ≠ some b) : w2.heap[b]? = some row := by
 subst hr
 have h1 : b < W9.heap.size := by rw [he]; exact row_lt hrow
 have h2 := hb.size
 rw [hg.block b (by simp; omega) (fun e => hn e.symm), Below.heap_alloc w9 o b (by omega), hb.block b h1, he, hrow]
theorem blk9 {wr W9 w9 w2 : World} {o : Obj} {r q : Option Nat} {b : Nat} (hrow : b < wr.heap.size) (hb : Below W9.heap.size W9 w9) (he : W9.heap = wr.heap) (hg : (w9.alloc o).grownBy w2 q) (hr : r = q) (hn : r ≠ some b) : w2.heap[b]? = wr.heap[b]? := by
 subst hr
 have h1 : b < W9.heap.size := by rw [he]; exact hrow
 have h2 := hb.size
 rw [hg.block b (by simp; omega) (fun e => hn e.symm), Below.heap_alloc w9 o b (by omega), hb.block b h1, he]
theorem old9 {wr W9 w9 : World} {o : Obj} {b : Nat} (hrow : b < wr.heap.size) (hb : Below W9.heap.size W9 w9) (he : W9.heap = wr.heap) : (w9.alloc o).heap[b]? = wr.heap[b]? := by
 have h1 : b < W9.heap.size := by rw [he]; exact hrow
 have h2 := hb.size
 rw [Below.heap_alloc w9 o b (by omega), hb.block b h1, he]
theorem own_listT {n base hi : Nat} {w wF : World} {l : List TreeD} {v : Value} {S : Nat -> Prop} (h : GrowK n base hi w l v) (hF : ∀ q, base <= q -> q < hi -> wF.heap[q]? = w.heap[q]?) (hS : ∀ b, base <= b -> b < hi -> S b) :
  OwnT (n + 1) S wF (tList l) [.int .i64 5, .bool false, .int .i64 0, .string ⟨#[]⟩, .slice none 0 0, v] :=
 OwnT.into ⟨_, _, fun _ => False, fun b => base <= b /\ b < hi, rfl, (show I64 5 from by unfold I64; decide), (show I64 0 from by unfold I64; decide), (show ByteArray.size ⟨#[]⟩ <= 9223372036854775807 from by decide), fun _ h => h.elim, fun b hb => hS b hb.1 hb.2,
  ⟨none, 0, rfl, Nat.le_refl _, by decide, fun h => by simp [tList] at h⟩, h.own.keep (fun b hb => hF b hb.1 hb.2) (fun _ h => h)⟩
theorem run_copy_rows {P : Program} (w : World) (dT sT ty elem : TypeId) (k b o dLen dCap : Nat) (a : Addr) (sLen sCap : Nat) (cs : List Value)
  (hu : P.underlying dT = some (.slice elem)) (hs : (P.info? elem).map (·.size) = some k) (hn : cs.length = Nat.min sLen dLen * k)
  (hsrc : ∀ j v, cs[j]? = some v -> w.cell? (a.add j) = some v) (hc : ∀ j, j < cs.length -> (w.cell? ⟨b, o + j, none⟩).isSome = true) (hf : ∀ j, j < cs.length -> w.frozen? ⟨b, o + j, none⟩ = false) (h1 : ∀ v ∈ cs, v.oneCell' = true) :
  (Builtin.copy_ #[dT, sT] ty #[.slice (some ⟨b, o, none⟩) dLen dCap, .slice (some a) sLen sCap]).run P w = .ok (goInt (Nat.min sLen dLen)) (w.setCells b o cs) := by
 have hl := run_loadCells_list (P := P) w a cs hsrc
 have hst := run_storeCells_cells (P := P) b o cs 0 w (by simpa using hc) (by simpa using hf) h1
 cases hq : P.info? elem with
 | none => simp [hq] at hs
 | some i =>
  have hi : i.size = k := by simpa [hq] using hs
  rw [hn] at hl
  simp [Builtin.copy_, run_underlying hu, Builtin.lenOf, Builtin.firstCells, sizeOf, typeInfo, hq, hi, hl, hst]
theorem wpList_copy_run {P : Program} {w : World} {ops : Array Oper} {rest : List Oper} {o : Oper} {a : Act} {Q : Exit -> Act -> World -> Prop} (hgd : o.guard = none) (d s : Operand) (t t' : TypeId)
  (ho : o.op = .call { callee := .builtin .copy, args := #[d, s], argTypes := #[t, t'] }) (v u : Value) (hd : a.eval d = v) (hs : a.eval s = u) {v' : Value} {w' : World}
  (hr : (Builtin.copy_ #[t, t'] o.type #[v, u]).run P w = .ok v' w') (h : wpList P ops Q rest (a.put o.dst v') w') : wpList P ops Q (o :: rest) a w :=
 wpList_plain hgd fun _ hK => by
  unfold Oper.wp execOp
  simp only [ho, resolve, invoke, builtin, Sem.run_bind, Sem.run_pure, Result.andThen_ok, List.map_toArray, List.map_cons, List.map_nil, hd, hs, hr]
  exact hK _ _ h
theorem step_copy_run {P : Program} {w : World} {ops : Array Oper} {o : Oper} {a : Act} {K : Act -> World -> Prop} {Q : Exit -> Act -> World -> Prop} {E : Prop} (hg : o.guard = none) (d x : Operand) (dT sT : TypeId)
  (hop : o.op = Op.call { callee := Callee.builtin Builtin.copy, args := #[d, x], argTypes := #[dT, sT] })
  (v u : Value) (hd : a.eval d = v) (hx : a.eval x = u) {v' : Value} {w' : World} (hr : (Builtin.copy_ #[dT, sT] o.type #[v, u]).run P w = .ok v' w') (hK : K (a.put o.dst v') w') :
  if Region.wanted o (yielded ops a.tmps) = true then Oper.wp P o a w K Q else E := by
 have hw : Region.wanted o (yielded ops a.tmps) = true := by simp [Region.wanted, hg]
 rw [if_pos hw]
 unfold Oper.wp
 simp [execOp, hop, resolve, invoke, builtin, hd, hx, hr, Result.andThen]
 exact hK
theorem isSome_setC (b : Nat) (vs : List Value) (o : Nat) (w : World) (h : ∀ j, j < vs.length -> (w.cell? ⟨b, o + j, none⟩).isSome = true) (k : Nat) (hk : (w.cell? ⟨b, k, none⟩).isSome = true) : ((w.setCells b o vs).cell? ⟨b, k, none⟩).isSome = true := by
 by_cases hin : o <= k /\ k < o + vs.length
 ·have := World.cell?_setCells_in b vs o w h (k - o) (by omega)
  rw [show o + (k - o) = k by omega] at this
  rw [this]; rfl
 ·rw [World.cell?_setCells_out b vs o w ⟨b, k, none⟩ (fun _ _ => by show k < o ∨ o + vs.length <= k; omega)]
  exact hk
def setA (cur : Array Value) : Nat -> List Value -> Array Value
 | _, [] => cur
 | o, v :: r => setA (cur.setIfInBounds o v) (o + 1) r
theorem setA_size (vs : List Value) : ∀ (cur : Array Value) (o : Nat), (setA cur o vs).size = cur.size := by
 induction vs with
 | nil => intro cur o; rfl
 | cons v r ih => intro cur o; rw [setA, ih]; simp
theorem heap_setCells {b : Nat} {t : TypeId} (vs : List Value) : ∀ (w : World) (o : Nat) (cur : Array Value), w.heap[b]? = some (.cells cur t (0, 0)) -> (w.setCells b o vs).heap[b]? = some (.cells (setA cur o vs) t (0, 0)) := by
 induction vs with
 | nil => intro w o cur h; exact h
 | cons v r ih => intro w o cur h; rw [World.setCells, setA]; exact ih _ _ _ (heap_setCell_same w b o cur t v h)
theorem setA_list (vs : List Value) : ∀ (cur : Array Value) (o : Nat), o + vs.length <= cur.size -> (setA cur o vs).toList = cur.toList.take o ++ vs ++ cur.toList.drop (o + vs.length) := by
 induction vs with
 | nil => intro cur o h; simp [setA]
 | cons v r ih =>
  intro cur o h
  simp only [List.length_cons] at h
  rw [setA, ih _ _ (by simp; omega)]
  simp only [Array.toList_setIfInBounds, List.length_cons]
  rw [List.take_add_one, List.getElem?_set_self (by simp; omega), List.take_set_of_le (Nat.le_refl o), List.drop_set_of_lt (by omega)]
  simp only [Option.toList_some, List.append_assoc, List.cons_append, List.nil_append]
  rw [show o + 1 + r.length = o + (r.length + 1) by omega]
theorem aside_setC {S : Nat -> Prop} {b : Nat} (hb : S b) (vs : List Value) : ∀ (a w : World) (o : Nat), Aside S a w -> Aside S a (w.setCells b o vs) := by
 induction vs with
 | nil => intro a w o h; exact h
 | cons v r ih => intro a w o h; rw [World.setCells]; exact ih _ _ _ (aside_set (p := ⟨b, o, none⟩) hb h)
theorem isSome_row {w : World} {b o : Nat} {cur : Array Value} {t : TypeId} (h : w.heap[b]? = some (.cells cur t (0, 0))) (ho : o < cur.size) : (w.cell? ⟨b, o, none⟩).isSome = true := by
 rw [cell_of_row _ _ _ _ _ _ h, Array.getElem?_eq_getElem ho]
 rfl
theorem shape_row {w : World} {b : Nat} {cur : Array Value} {t : TypeId} (h : w.heap[b]? = some (.cells cur t (0, 0))) : w.shape? b = some (t, cur.size) := by
 simp [World.shape?, h]
theorem c_InsT_shift (g n c i vb : Nat) (cs vs : List Value) (w : World) (hi : i < n) (hroom : n + 1 <= c) (hc63 : c <= 9223372036854775807) (hvb : vb ≠ g)
  (hcl : cs.length = n * 6) (hvl : vs.length = 6)
  (hcs : ∀ j v, cs[j]? = some v -> w.cell? ⟨g, j, none⟩ = some v) (hsp : ∀ j, j < (n + 1) * 6 -> (w.cell? ⟨g, j, none⟩).isSome = true) (hfz : ∀ j, w.frozen? ⟨g, j, none⟩ = false)
  (hvs : ∀ j v, vs[j]? = some v -> w.cell? ⟨vb, j, none⟩ = some v) (h1c : ∀ v ∈ cs, v.oneCell' = true) (h1v : ∀ v ∈ vs, v.oneCell' = true)
  (tA tB : TypeId) (kA kB : Nat) (hsa : w.shape? vb = some (tA, kA)) (hsb : w.shape? g = some (tB, kB)) (hkB : kB ≠ 0) (hfa : w.frozen? ⟨vb, 0, none⟩ = false) (hfe : w.frozen? ⟨vb, kA, none⟩ = false) :
  Calls Tryz.prog 185 #[.slice (some ⟨g, 0, none⟩) n c, .int .i64 i, .slice (some ⟨vb, 0, none⟩) 1 1] w fun e w' =>
   e = .returned (.slice (some ⟨g, 0, none⟩) (n + 1) c) /\ w' = (w.drew.setCells g ((i + 1) * 6) (cs.drop (i * 6))).setCells g (i * 6) vs := by
 have hz2 : ¬ ((i : Int) = (n : Int)) := by omega
 have hsz : (Tryz.prog.info? 34).map (·.size) = some 6 := by kernel_rfl
 have hov : ∀ lb cb, (callFunc 243 #[.slice (some ⟨vb, 0, none⟩) 1 1, .slice (some ⟨g, (i + 1) * 6, none⟩) lb cb]).run Tryz.prog w = .ok (.value (.bool false)) w := fun lb cb => by
  rw [run_callFunc_extern Tryz.func243 (by kernel_rfl) (by kernel_rfl) (by kernel_rfl) (e := Extern.SlicesOverlaps.overlaps #[32, 32] #[4]) (by kernel_rfl),
   Lib.run_overlaps_apart w 32 4 34 Tryz.underlying32 6 (fun w => Tryz.sizeOf34 w) ⟨vb, 0, none⟩ ⟨g, (i + 1) * 6, none⟩ 1 1 lb cb hvb tA tB kA kB hsa hsb hkB hfa hfe]
  rfl
 have hdl : (cs.drop (i * 6)).length = (n - i) * 6 := by rw [List.length_drop, hcl]; omega
 have mixed : Tryz.prog.follows Departure.mixedOrders = true := by kernel_rfl
 have hw1 : IntKind.i64.wrap ((i : Int) + 1) = (i : Int) + 1 := by rw [IntKind.wrap_i64]; omega
 have hb1 : (0 : Int) <= (i : Int) + 1 := by omega
 have hin : i <= n := by omega
 have htn : ((i : Int) + 1).toNat = i + 1 := by omega
 have hb2 : ¬ (c = i + 1) := by omega
 have hb3 : (i : Int) <= (n : Int) + 1 := by omega
 have hb4 : ¬ (c = i) := by omega
 have hcp1 : ∀ ty dc sc, (Builtin.copy_ #[32, 32] ty #[.slice (some ⟨g, (i + 1) * 6, none⟩) (n - i) dc, .slice (some ⟨g, i * 6, none⟩) (n + 1 - i) sc]).run Tryz.prog w.drew = .ok (goInt (Nat.min (n + 1 - i) (n - i))) (w.drew.setCells g ((i + 1) * 6) (cs.drop (i * 6))) := fun ty dc sc =>
  run_copy_rows w.drew _ _ ty 34 6 g ((i + 1) * 6) (n - i) dc ⟨g, i * 6, none⟩ (n + 1 - i) sc (cs.drop (i * 6)) Tryz.underlying32 hsz (by rw [hdl]; simp only [Nat.min_def]; split <;> omega)
   (fun j v hj => by rw [add_at]; exact hcs (i * 6 + j) v (by rwa [List.getElem?_drop] at hj))
   (fun j hj => hsp _ (by rw [hdl] at hj; omega)) (fun j _ => hfz _) (fun v hv => h1c v (List.mem_of_mem_drop hv))
 obtain ⟨W1, hW1⟩ : ∃ W1, W1 = w.drew.setCells g ((i + 1) * 6) (cs.drop (i * 6)) := ⟨_, rfl⟩
 have hsp1 : ∀ k, k < (n + 1) * 6 -> (W1.cell? ⟨g, k, none⟩).isSome = true := fun k hk => by
  rw [hW1]
  exact isSome_setC g (cs.drop (i * 6)) ((i + 1) * 6) w.drew (fun j hj => hsp _ (by rw [hdl] at hj; omega)) _ (hsp k hk)
 have hcp2 : ∀ (W : World), (∀ x, W.cell? x = W1.cell? x) -> (∀ x, W.frozen? x = W1.frozen? x) -> ∀ ty dc, (Builtin.copy_ #[32, 32] ty #[.slice (some ⟨g, i * 6, none⟩) (n + 1 - i) dc, .slice (some ⟨vb, 0, none⟩) 1 1]).run Tryz.prog W = .ok (goInt (Nat.min 1 (n + 1 - i))) (W.setCells g (i * 6) vs) := fun W hWc hWf ty dc =>
  run_copy_rows W _ _ ty 34 6 g (i * 6) (n + 1 - i) dc ⟨vb, 0, none⟩ 1 1 vs Tryz.underlying32 hsz (by rw [hvl]; simp only [Nat.min_def]; split <;> omega)
   (fun j v hj => by
    rw [add_at, hWc, hW1, World.cell?_setCells_out g _ _ _ _ (fun h _ => absurd h hvb), Nat.zero_add]
    exact hvs j v hj)
   (fun j hj => by rw [hWc]; exact hsp1 _ (by omega)) (fun j _ => by rw [hWf, hW1, World.frozen?_setCells]; exact hfz _) h1v
 rw [<- hW1] at hcp1
 go_enter Tryz.func185, Tryz.ntmps185
 go_wp2_with (simp only [hov])
 go_region_law_o (refine step_copy_run rfl _ _ 32 32 rfl _ _ (by simp [Act.eval, Act.put]) (by simp [Act.eval, Act.put]) (hcp1 _ _ _) ?_)
 go_wp2_with (at_builtin; refine wpList_copy_run rfl _ _ 32 32 rfl _ _ rfl rfl (hcp2 _ (fun _ => rfl) (fun _ => rfl) _ _) ?_)
 go_ret
 first | exact ⟨rfl, rfl⟩ | exact ⟨rfl, by rw [hW1]⟩
theorem c_InsT_end (base n vb : Nat) (v : Value) (xs vs : List Value) (w : World) (hown : w.ownsRow base 34 6 v n xs) (hvl : vs.length = 6)
  (hvs : ∀ j u, vs[j]? = some u -> w.cell? ⟨vb, j, none⟩ = some u) (h1v : ∀ u ∈ vs, u.oneCell' = true) (hn : n <= 1048576) (hbase : base <= w.heap.size) :
  Calls Tryz.prog 185 #[v, .int .i64 n, .slice (some ⟨vb, 0, none⟩) 1 1] w fun e w' => ∃ g cap, e = .returned (.slice (some ⟨g, 0, none⟩) (n + 1) cap) /\ w'.ownsRow base 34 6 (.slice (some ⟨g, 0, none⟩) (n + 1) cap) (n + 1) (xs ++ vs) /\ w.grownBy w' v.ownBlock /\ (v.ownBlock = some g ∨ g = w.heap.size) /\ g < w'.heap.size := by
 obtain ⟨i0, hi, hz0, hz1, hz2⟩ := info_parts (show (Tryz.prog.info? 34).map (fun i => (i.zero, i.size, i.bytes)) = some (some (.agg #[.int .i64 0, .bool false, .int .i64 0, .string ⟨#[]⟩, .slice none 0 0, .slice none 0 0]), 6, 88) from by kernel_rfl)
 have HO := hid hown
 obtain ⟨A, c, rfl⟩ := own_form hown
 have hnc := own_cap hown
 have hnews : ∀ j u, vs[j]? = some u -> w.cell? ((⟨vb, 0, none⟩ : Addr).add j) = some u := fun j u hj => by rw [add_at, Nat.zero_add]; exact hvs j u hj
 have HNw := hid hnews
 have H1v := hid h1v
 clear hvs hnews h1v
 rcases A with _ | ⟨ab, ao, asp⟩
 ·have hn0 : n = 0 := by
   rcases hown.2 with ⟨-, h0⟩ | ⟨g, cap, cur, h0, -⟩
   ·exact h0
   ·cases h0
  subst hn0
  clear hown
  go_enter Tryz.func185, Tryz.ntmps185
  go_wp2_with (at_builtin; refine wpList_append_lies _ rfl _ _ 32 rfl base 34 i0 (.agg #[.int .i64 0, .bool false, .int .i64 0, .string ⟨#[]⟩, .slice none 0 0, .slice none 0 0]) 6 88 Tryz.underlying32 hi hz0 hz1 hz2 rfl (by decide) _ 0 xs rfl HO.out ⟨vb, 0, none⟩ 1 1 vs rfl (by rw [hvl]) HNw.out H1v.out (by decide) (by unfold maxLen; omega) (by omega) hbase _ rfl ?_)
  intro g cap w2 hown2 hgrow2 hat2 hlt2
  have HX := hid (And.intro hown2 (And.intro hgrow2 (And.intro hat2 hlt2)))
  clear hown2 hgrow2 hat2 hlt2
  go_wp2_with fail
  go_ret
  exact ⟨g, cap, rfl, HX.out.1, HX.out.2.1, HX.out.2.2.1, HX.out.2.2.2⟩
 ·clear hown
  go_enter Tryz.func185, Tryz.ntmps185
  go_wp2_with (at_builtin; refine wpList_append_lies _ rfl _ _ 32 rfl base 34 i0 (.agg #[.int .i64 0, .bool false, .int .i64 0, .string ⟨#[]⟩, .slice none 0 0, .slice none 0 0]) 6 88 Tryz.underlying32 hi hz0 hz1 hz2 rfl (by decide) _ n xs rfl HO.out ⟨vb, 0, none⟩ 1 1 vs rfl (by rw [hvl]) HNw.out H1v.out (by decide) (by unfold maxLen; omega) (by omega) hbase _ rfl ?_)
  all_goals
   intro g cap w2 hown2 hgrow2 hat2 hlt2
   have HX := hid (And.intro hown2 (And.intro hgrow2 (And.intro hat2 hlt2)))
   clear hown2 hgrow2 hat2 hlt2
   go_wp2_with fail
   go_ret
   exact ⟨g, cap, rfl, HX.out.1, HX.out.2.1, HX.out.2.2.1, HX.out.2.2.2⟩
theorem c_InsT_grow (g n c i vb : Nat) (cs vs : List Value) (w : World) (hi : i < n) (hnc : n <= c) (hroom : c < n + 1) (hbig : (n + 1) * 88 <= 140737488355328)
  (hcl : cs.length = n * 6) (hvl : vs.length = 6)
  (hcs : ∀ j v, cs[j]? = some v -> w.cell? ⟨g, j, none⟩ = some v)
  (hvs : ∀ j v, vs[j]? = some v -> w.cell? ⟨vb, j, none⟩ = some v) (h1c : ∀ v ∈ cs, v.oneCell' = true) (h1v : ∀ v ∈ vs, v.oneCell' = true) :
  Calls Tryz.prog 185 #[.slice (some ⟨g, 0, none⟩) n c, .int .i64 i, .slice (some ⟨vb, 0, none⟩) 1 1] w fun e w' => ∃ (G : Nat) (ROW : Array Value),
   e = .returned (.slice (some ⟨w.heap.size, 0, none⟩) (n + 1) G) /\ n + 1 <= G /\ G <= maxLen /\ ROW.size = G * 6 /\ ROW.toList.take (i * 6) = cs.take (i * 6) /\
   w' = ((w.alloc (.cells ROW 34)).drew.setCells w.heap.size (i * 6) vs).drew.setCells w.heap.size ((i + 1) * 6) (cs.drop (i * 6)) := by
 obtain ⟨i0, hi0, hz0, hzs, hzb⟩ := info_parts (show (Tryz.prog.info? 34).map (fun i => (i.zero, i.size, i.bytes)) = some (some (.agg #[.int .i64 0, .bool false, .int .i64 0, .string ⟨#[]⟩, .slice none 0 0, .slice none 0 0]), 6, 88) from by kernel_rfl)
 have mixed : Tryz.prog.follows Departure.mixedOrders = true := by kernel_rfl
 have hz2 : ¬ ((i : Int) = (n : Int)) := by omega
 have hz3 : (c : Int) < (n : Int) + 1 := by omega
 have hsz : (Tryz.prog.info? 34).map (·.size) = some 6 := by kernel_rfl
 have hbw : g < w.heap.size := block_lt_of_cell (hcs 0 _ (List.getElem?_eq_getElem (by omega)))
 have hvw : vb < w.heap.size := block_lt_of_cell (hvs 0 _ (List.getElem?_eq_getElem (by omega)))
 have hkk : (n : Int) + 1 - (i : Int) = ((n + 1 - i : Nat) : Int) := by omega
 have hik : i + (n + 1 - i) = n + 1 := by omega
 have htl : (cs.take (i * 6)).length = i * 6 := by rw [List.length_take, hcl]; omega
 have hold : (Builtin.firstCells i0.size i (.slice (some ⟨g, 0, none⟩) i c)).run Tryz.prog w.drew = .ok (cs.take (i * 6)).toArray w.drew := by
  rw [hzs]
  exact run_firstCells_some w.drew 6 i ⟨g, 0, none⟩ i c (cs.take (i * 6)) htl (fun j v hj => by
   rw [add_at, Nat.zero_add]
   rw [List.getElem?_take] at hj
   split at hj
   ·exact hcs j v hj
   ·cases hj)
 have hrz : ∀ ty, (Builtin.append_ #[32, 3] ty #[.slice (some ⟨g, 0, none⟩) i c, .int .i64 ((n : Int) + 1 - (i : Int))]).run Tryz.prog w =
   .ok (.slice (some ⟨w.heap.size, 0, none⟩) (n + 1) (grownCap w (n + 1) c 34)) (w.drew.alloc (.cells ((cs.take (i * 6)).toArray ++ Builtin.zeroCells (.agg #[.int .i64 0, .bool false, .int .i64 0, .string ⟨#[]⟩, .slice none 0 0, .slice none 0 0] : Value).cells (n + 1 - i) ++ Builtin.zeroCells (.agg #[.int .i64 0, .bool false, .int .i64 0, .string ⟨#[]⟩, .slice none 0 0, .slice none 0 0] : Value).cells (grownCap w (n + 1) c 34 - (n + 1))) 34)) := fun ty => by
  have h := Lib.run_append_grow_zeros w 32 3 ty 34 i0 _ .i64 .i64 Tryz.underlying32 Tryz.underlying3 hi0 hz0 (some ⟨g, 0, none⟩) i c (cs.take (i * 6)) hold (n + 1 - i) (by omega) (by omega) (by omega) (by omega) (by rw [hzb]; omega) (by rw [hzb, hik]; exact growslice_fits hroom hbig)
  rw [hik] at h
  rw [hkk]
  exact h
 obtain ⟨G, hG⟩ : ∃ G, G = grownCap w (n + 1) c 34 := ⟨_, rfl⟩
 have hGn : n + 1 <= G := by rw [hG]; exact grownCap_ge w _ _ _
 have hG63 : G <= maxLen := by rw [hG]; exact grownCap_le_maxLen w (n + 1) c 34 (by unfold maxLen; omega)
 obtain ⟨ROW, hROW⟩ : ∃ ROW : Array Value, ROW = (cs.take (i * 6)).toArray ++ Builtin.zeroCells (.agg #[.int .i64 0, .bool false, .int .i64 0, .string ⟨#[]⟩, .slice none 0 0, .slice none 0 0] : Value).cells (n + 1 - i) ++ Builtin.zeroCells (.agg #[.int .i64 0, .bool false, .int .i64 0, .string ⟨#[]⟩, .slice none 0 0, .slice none 0 0] : Value).cells (G - (n + 1)) := ⟨_, rfl⟩
 rw [<- hG] at hrz
 rw [<- hROW] at hrz
 have hRl : ROW.size = G * 6 := by
  rw [hROW]
  simp only [Array.size_append, size_zeroCells, List.size_toArray, htl]
  rw [show (.agg #[.int .i64 0, .bool false, .int .i64 0, .string ⟨#[]⟩, .slice none 0 0, .slice none 0 0] : Value).cells.size = 6 from rfl]
  omega
 have hRt : ROW.toList.take (i * 6) = cs.take (i * 6) := by
  rw [hROW, Array.append_assoc, Array.toList_append]
  rw [List.take_left' htl]
 obtain ⟨W1, hW1⟩ : ∃ W1, W1 = w.drew.alloc (.cells ROW 34) := ⟨_, rfl⟩
 rw [<- hW1] at hrz
 have hN : ∀ j, j < (n + 1) * 6 -> (W1.cell? ⟨w.heap.size, j, none⟩).isSome = true := fun j hj => by
  rw [hW1, World.cell?_alloc_at (w := w.drew) ROW _ w.heap.size j rfl, Array.getElem?_eq_getElem (by omega)]; rfl
 have hNf : ∀ j, W1.frozen? ⟨w.heap.size, j, none⟩ = false := fun j => by rw [hW1]; exact World.frozen?_alloc_at (w := w.drew) ROW _ w.heap.size j rfl
 have hOb : ∀ j v, w.cell? ⟨g, j, none⟩ = some v -> W1.cell? ⟨g, j, none⟩ = some v := fun j v h => by rw [hW1, World.cell?_alloc_past (w := w.drew) _ g j hbw]; exact h
 have hOv : ∀ j v, w.cell? ⟨vb, j, none⟩ = some v -> W1.cell? ⟨vb, j, none⟩ = some v := fun j v h => by rw [hW1, World.cell?_alloc_past (w := w.drew) _ vb j hvw]; exact h
 have hcpA : ∀ (W : World), (∀ x, W.cell? x = W1.cell? x) -> (∀ x, W.frozen? x = W1.frozen? x) -> ∀ ty dc, (Builtin.copy_ #[32, 32] ty #[.slice (some ⟨w.heap.size, i * 6, none⟩) (n + 1 - i) dc, .slice (some ⟨vb, 0, none⟩) 1 1]).run Tryz.prog W = .ok (goInt (Nat.min 1 (n + 1 - i))) (W.setCells w.heap.size (i * 6) vs) := fun W hWc hWf ty dc =>
  run_copy_rows W _ _ ty 34 6 w.heap.size (i * 6) (n + 1 - i) dc ⟨vb, 0, none⟩ 1 1 vs Tryz.underlying32 hsz (by rw [hvl]; simp only [Nat.min_def]; split <;> omega)
   (fun j v hj => by rw [add_at, hWc, Nat.zero_add]; exact hOv _ v (hvs j v hj))
   (fun j hj => by rw [hWc]; exact hN _ (by omega)) (fun j _ => by rw [hWf]; exact hNf _) h1v
 have hG63i : G <= 9223372036854775807 := by unfold maxLen at hG63; omega
 have hGi : ¬ (G = i) := by omega
 have hGim : ¬ (G = i + 1) := by omega
 have hci : ¬ (c = i) := by omega
 have hbN : g ≠ w.heap.size := by omega
 have hdl : (cs.drop (i * 6)).length = (n - i) * 6 := by rw [List.length_drop, hcl]; omega
 have hcpB : ∀ (W : World), (∀ x, W.cell? x = (W1.setCells w.heap.size (i * 6) vs).cell? x) -> (∀ x, W.frozen? x = (W1.setCells w.heap.size (i * 6) vs).frozen? x) -> ∀ ty dc sc, (Builtin.copy_ #[32, 32] ty #[.slice (some ⟨w.heap.size, (i + 1) * 6, none⟩) (n - i) dc, .slice (some ⟨g, i * 6, none⟩) (n - i) sc]).run Tryz.prog W = .ok (goInt (Nat.min (n - i) (n - i))) (W.setCells w.heap.size ((i + 1) * 6) (cs.drop (i * 6))) := fun W hWc hWf ty dc sc =>
  run_copy_rows W _ _ ty 34 6 w.heap.size ((i + 1) * 6) (n - i) dc ⟨g, i * 6, none⟩ (n - i) sc (cs.drop (i * 6)) Tryz.underlying32 hsz (by rw [hdl]; simp only [Nat.min_def]; split <;> omega)
   (fun j v hj => by
    rw [add_at, hWc, World.cell?_setCells_out _ _ _ _ _ (fun h _ => absurd h hbN)]
    exact hOb _ v (hcs (i * 6 + j) v (by rwa [List.getElem?_drop] at hj)))
   (fun j hj => by rw [hWc]; exact isSome_setC _ vs (i * 6) W1 (fun t ht => hN _ (by omega)) _ (hN _ (by rw [hdl] at hj; omega)))
   (fun j _ => by rw [hWf, World.frozen?_setCells]; exact hNf _) (fun v hv => h1c v (List.mem_of_mem_drop hv))
 subst hW1
 have hE1 : ∀ x, ((w.alloc (.cells ROW 34)).drew).cell? x = (w.drew.alloc (.cells ROW 34)).cell? x := fun x => rfl
 have hE2 : ∀ x, ((w.alloc (.cells ROW 34)).drew).frozen? x = (w.drew.alloc (.cells ROW 34)).frozen? x := fun x => rfl
 have hF1 : ∀ x, (((w.alloc (.cells ROW 34)).drew.setCells w.heap.size (i * 6) vs).drew).cell? x = ((w.drew.alloc (.cells ROW 34)).setCells w.heap.size (i * 6) vs).cell? x := fun x => rfl
 have hF2 : ∀ x, (((w.alloc (.cells ROW 34)).drew.setCells w.heap.size (i * 6) vs).drew).frozen? x = ((w.drew.alloc (.cells ROW 34)).setCells w.heap.size (i * 6) vs).frozen? x := fun x => rfl
 have hw1 : IntKind.i64.wrap ((i : Int) + 1) = (i : Int) + 1 := by rw [IntKind.wrap_i64]; omega
 have hb1 : (0 : Int) <= (i : Int) + 1 := by omega
 have hin : i <= n := by omega
 have htn : ((i : Int) + 1).toNat = i + 1 := by omega
 have hb3 : (i : Int) <= (n : Int) := by omega
 have HFin := hid (And.intro hGn (And.intro hG63 (And.intro hRl hRt)))
 clear hkk hik hold hROW hG hRl hRt hG63
 go_enter Tryz.func185, Tryz.ntmps185
 go_wp2_with (first
  | (at_builtin; refine wpList_append_of rfl _ _ _ ?_ _ _ _ _ rfl rfl (hrz _) ?_)
  | (at_builtin; refine Lib.wpList_append_run _ rfl _ _ _ _ rfl _ _ rfl rfl _ _ (hrz _) ?_)
  | (at_builtin; refine wpList_copy_run rfl _ _ 32 32 rfl _ _ rfl rfl (hcpA _ hE1 hE2 _ _) ?_)
  | (at_builtin; refine wpList_copy_run rfl _ _ 32 32 rfl _ _ rfl rfl (hcpB _ (fun _ => rfl) (fun _ => rfl) _ _ _) ?_))
 go_region_law_o (refine step_copy_run rfl _ _ 32 32 rfl (.slice (some ⟨w.heap.size, (i + 1) * 6, none⟩) (n - i) (G - (i + 1))) (.slice (some ⟨g, i * 6, none⟩) (n - i) (c - i)) (by simp [Act.eval, Act.put]) (by simp [Act.eval, Act.put]) (hcpB _ hF1 hF2 3 (G - (i + 1)) (c - i)) ?_)
 go_wp2
 go_ret
 exact ⟨G, ROW, rfl, HFin.out.1, HFin.out.2.1, HFin.out.2.2.1, HFin.out.2.2.2, rfl⟩
theorem c_InsS_end (base n vb : Nat) (v : Value) (xs vs : List Value) (w : World) (hown : w.ownsRow base 9 1 v n xs) (hvl : vs.length = 1)
  (hvs : ∀ j u, vs[j]? = some u -> w.cell? ⟨vb, j, none⟩ = some u) (h1v : ∀ u ∈ vs, u.oneCell' = true) (hn : n <= 1048576) (hbase : base <= w.heap.size) :
  Calls Tryz.prog 184 #[v, .int .i64 n, .slice (some ⟨vb, 0, none⟩) 1 1] w fun e w' => ∃ g cap, e = .returned (.slice (some ⟨g, 0, none⟩) (n + 1) cap) /\ w'.ownsRow base 9 1 (.slice (some ⟨g, 0, none⟩) (n + 1) cap) (n + 1) (xs ++ vs) /\ w.grownBy w' v.ownBlock /\ (v.ownBlock = some g ∨ g = w.heap.size) /\ g < w'.heap.size := by
 obtain ⟨i0, hi, hz0, hz1, hz2⟩ := info_parts (show (Tryz.prog.info? 9).map (fun i => (i.zero, i.size, i.bytes)) = some (some (.string ⟨#[]⟩), 1, 16) from by kernel_rfl)
 have HO := hid hown
 obtain ⟨A, c, rfl⟩ := own_form hown
 have hnc := own_cap hown
 have hnews : ∀ j u, vs[j]? = some u -> w.cell? ((⟨vb, 0, none⟩ : Addr).add j) = some u := fun j u hj => by rw [add_at, Nat.zero_add]; exact hvs j u hj
 have HNw := hid hnews
 have H1v := hid h1v
 clear hvs hnews h1v
 rcases A with _ | ⟨ab, ao, asp⟩
 ·have hn0 : n = 0 := by
   rcases hown.2 with ⟨-, h0⟩ | ⟨g, cap, cur, h0, -⟩
   ·exact h0
   ·cases h0
  subst hn0
  clear hown
  go_enter Tryz.func184, Tryz.ntmps184
  go_wp2_with (at_builtin; refine wpList_append_lies _ rfl _ _ 31 rfl base 9 i0 (.string ⟨#[]⟩) 1 16 Tryz.underlying31 hi hz0 hz1 hz2 rfl (by decide) _ 0 xs rfl HO.out ⟨vb, 0, none⟩ 1 1 vs rfl (by rw [hvl]) HNw.out H1v.out (by decide) (by unfold maxLen; omega) (by omega) hbase _ rfl ?_)
  intro g cap w2 hown2 hgrow2 hat2 hlt2
  have HX := hid (And.intro hown2 (And.intro hgrow2 (And.intro hat2 hlt2)))
  clear hown2 hgrow2 hat2 hlt2
  go_wp2_with fail
  go_ret
  exact ⟨g, cap, rfl, HX.out.1, HX.out.2.1, HX.out.2.2.1, HX.out.2.2.2⟩
 ·clear hown
  go_enter Tryz.func184, Tryz.ntmps184
  go_wp2_with (at_builtin; refine wpList_append_lies _ rfl _ _ 31 rfl base 9 i0 (.string ⟨#[]⟩) 1 16 Tryz.underlying31 hi hz0 hz1 hz2 rfl (by decide) _ n xs rfl HO.out ⟨vb, 0, none⟩ 1 1 vs rfl (by rw [hvl]) HNw.out H1v.out (by decide) (by unfold maxLen; omega) (by omega) hbase _ rfl ?_)
  all_goals
   intro g cap w2 hown2 hgrow2 hat2 hlt2
   have HX := hid (And.intro hown2 (And.intro hgrow2 (And.intro hat2 hlt2)))
   clear hown2 hgrow2 hat2 hlt2
   go_wp2_with fail
   go_ret
   exact ⟨g, cap, rfl, HX.out.1, HX.out.2.1, HX.out.2.2.1, HX.out.2.2.2⟩
end Go.Proofs.YtohcpifekcehjaaGreatDoor
