/- Steps to FnIndentedNormal. No conditions. -/
import Derived.Test.YtohcpifekcehjaaGreatDoorKfni1
import Derived.Deep.AppendLies
import Derived.OwnWalk
import Derived.Sort.Statements
import Derived.Lib.SliceRun
import Derived.Lib.ValidLaws
set_option maxHeartbeats 16000000
set_option maxRecDepth 20000
namespace Go.Proofs.YtohcpifekcehjaaGreatDoor
open Go.RowKit Go.Lib
def Tabs (w : World) : Prop := Lib.Utf8Tabs (Zi.g 3) (Zi.g 4) w
theorem Tabs.below {w w' : World} (h : Tabs w) (hb : Below w.heap.size w w') : Tabs w' :=
 ⟨fun c hc => by have h1 := h.1 c hc; rw [hb.cell (World.block_lt_of_cell? w _ h1)]; exact h1,
  fun i hi => by
  have h1 := h.2 i hi
  exact ⟨by rw [hb.cell (World.block_lt_of_cell? w _ h1.1)]; exact h1.1, by rw [hb.cell (World.block_lt_of_cell? w _ h1.2)]; exact h1.2⟩⟩
theorem Jjx (s : ByteArray) (w : World) (hT : Tabs w) :
  Calls Tryz.prog 224 #[.string s] w fun e w' => e = .returned (.tuple #[.int .i32 (Lib.decodeGo s).1, .int .i64 (Lib.decodeGo s).2]) /\ Below w.heap.size w w' :=
 Any.utf8_DecodeRuneInString JhE s w hT
theorem Jar (s : ByteArray) (i k : Nat) (hi : i <= s.size) : (s.extract i s.size).get! k = s.get! (i + k) := by
 show (s.extract i s.size).data[k]! = s.data[i + k]!
 rw [ByteArray.data_extract, Array.getElem!_eq_getD, Array.getElem!_eq_getD, Array.getD_eq_getD_getElem?, Array.getD_eq_getD_getElem?, Array.getElem?_extract];by_cases h : k < s.size - i
 ·have h2 : k < min s.size s.data.size - i := by rw [show s.data.size = s.size from rfl]; omega
  rw [if_pos h2]
 have h2 : ¬ k < min s.size s.data.size - i := by rw [show s.data.size = s.size from rfl]; omega
 rw [if_neg h2, Array.getElem?_eq_none (by rw [show s.data.size = s.size from rfl]; omega)]
theorem Jgg (n b0 b1 b2 b3 : Nat) (hn : 1 <= n) : (Lib.decodeN n b0 b1 b2 b3).1 <= 1114111 /\ 1 <= (Lib.decodeN n b0 b1 b2 b3).2 /\ (Lib.decodeN n b0 b1 b2 b3).2 <= n := by
 unfold Lib.decodeN;repeat' split
 all_goals (refine ⟨?_, ?_, ?_⟩ <;> simp only <;> omega)
theorem JT (s : ByteArray) (i : Nat) (hi : i < s.size) : (Utf8.decode s i).1 <= 1114111 /\ 1 <= (Utf8.decode s i).2 /\ i + (Utf8.decode s i).2 <= s.size := by
 rw [Lib.decode_at];obtain ⟨h1, h2, h3⟩ := Jgg (s.size - i) (s.get! i).toNat (s.get! (i + 1)).toNat (s.get! (i + 2)).toNat (s.get! (i + 3)).toNat (by omega);exact ⟨h1, h2, by omega⟩
theorem JbW (s : ByteArray) (i : Nat) (hi : i < s.size) : Lib.decodeGo (s.extract i s.size) = Utf8.decode s i := by
 have hz : (s.extract i s.size).size = s.size - i := by simp
 unfold Lib.decodeGo;rw [if_neg (by omega), Lib.decode_at, Lib.decode_at, hz];simp only [Jar s i _ (Nat.le_of_lt hi), Nat.zero_add, Nat.sub_zero, Nat.add_zero]
theorem Yg (s : ByteArray) (i : Nat) (w : World) (hs : s.size <= 9223372036854775807) (hi : i <= 9223372036854775807) (hT : Tabs w) :
  Calls Tryz.prog 170 #[.string s, .int .i64 i] w fun e w' => e = .returned (.tuple #[.int .i64 (JI s i).1, .int .i64 (JI s i).2]) /\ Below w.heap.size w w' := by
 have HT := hid hT;clear hT;by_cases hlt : (i : Int) < s.size
 focus
  have h0 : (0 : Int) <= i := by omega
  have h1 : (i : Int) <= s.size := by omega
  go_enter Tryz.func170, Tryz.ntmps170
  go_wp2_with fail
  refine (Jjx _ _ HT.out).mono ?_;rintro e w1 ⟨rfl, hb⟩;rw [JbW s i (by omega)];obtain ⟨f1, f2, f3⟩ := JT s i (by omega);obtain ⟨r, hr⟩ : ∃ r, r = (Utf8.decode s i).1 := ⟨_, rfl⟩
  obtain ⟨k, hk⟩ : ∃ k, k = (Utf8.decode s i).2 := ⟨_, rfl⟩
  rw [<- hr] at f1;rw [<- hk] at f2 f3;rw [<- hr, <- hk];have hrk : Utf8.decode s i = (r, k) := by rw [hr, hk]
  clear hr hk;by_cases e1 : (r : Int) = 65533
  ·obtain rfl : r = 65533 := by omega
   clear e1;by_cases e2 : (k : Int) <= 1
   focus
    have Hf := hid (show JI s i = (0, -1) by unfold JI; rw [if_pos (by omega), hrk, if_pos (by rw [Prod.mk.injEq]; omega)]);clear hrk
   rotate_left
   focus
    have Hf := hid (show JI s i = ((65533 : Int), ((i + k : Nat) : Int)) by unfold JI; rw [if_pos (by omega), hrk, if_neg (by rw [Prod.mk.injEq]; omega)]; rfl);have b2 : decide ((k : Int) <= 1) = false := JmF e2;have hik : (i : Int) + k <= 9223372036854775807 := by omega
    clear hrk e2
   rotate_left
   all_goals
    go_wp2_with fail
    go_ret2
    exact ⟨by rw [Hf.out]; rfl, Jj⟩
  have Hf := hid (show JI s i = ((r : Int), ((i + k : Nat) : Int)) by unfold JI; rw [if_pos (by omega), hrk, if_neg (by rw [Prod.mk.injEq]; omega)]);have b1 : ((r : Int) == 65533) = false := JmH e1;have hik : (i : Int) + k <= 9223372036854775807 := by omega
  clear hrk e1
 rotate_left
 focus
  have Hf := hid (show JI s i = (0, -1) by unfold JI; rw [if_neg (by omega)]);go_enter Tryz.func170, Tryz.ntmps170
 rotate_left
 all_goals
  go_wp2_with fail
  go_ret2
  exact ⟨by rw [Hf.out]; rfl, Jj⟩
theorem Q2 (s : ByteArray) (i : Nat) (h : i < s.size) : (s[i]'h).toNat = (s.get! i).toNat := by
 show _ = (s.data[i]!).toNat
 rw [getElem!_pos s.data i h];rfl
theorem Jcy (s : ByteArray) (i n : Nat) (h : i + n <= s.size) : (s.extract i (i + n)).data.toList.map UInt8.toNat = (List.range n).map fun j => (s.get! (i + j)).toNat := by
 apply List.ext_getElem?;intro j;rw [List.getElem?_map, List.getElem?_map, ByteArray.data_extract, Array.getElem?_toList, Array.getElem?_extract];by_cases hj : j < n
 ·have h2 : j < min (i + n) s.data.size - i := by rw [show s.data.size = s.size from rfl]; omega
  rw [if_pos h2, List.getElem?_range hj, Array.getElem?_eq_getElem (by rw [show s.data.size = s.size from rfl]; omega)];have := Q2 s (i + j) (by omega);simp only [Option.map_some];rw [<- this];rfl
 have h2 : ¬ j < min (i + n) s.data.size - i := by rw [show s.data.size = s.size from rfl]; omega
 rw [if_neg h2, List.getElem?_eq_none (by simp; omega)];rfl
theorem toNat_inj : ∀ {a b : List UInt8}, a.map UInt8.toNat = b.map UInt8.toNat -> a = b
 | [], [], _ => rfl
 | [], _ :: _, h => by simp at h
 | _ :: _, [], h => by simp at h
 | x :: a, y :: b, h => by
  simp only [List.map_cons, List.cons.injEq] at h;rw [UInt8.toNat_inj.1 h.1, toNat_inj h.2]
theorem Zt (s : ByteArray) (i n g : Nat) (h : i + n <= s.size) : Jq g = s.extract i (i + n) ↔ J5 g = (List.range n).map fun j => (s.get! (i + j)).toNat := by
 rw [<- Vm g, <- Jcy s i n h];constructor
 ·intro e; rw [e]
 intro e;apply ByteArray.ext;exact Array.toList_inj.1 (toNat_inj e)
theorem XI (s : ByteArray) (i : Nat) (hi : i < s.size) (g n : Nat) (h : Utf8.decode s i = (g, n)) (he : Utf8.decode s i ≠ (65533, 1)) : JI s i = ((g : Int), (i : Int) + n) := by
 unfold JI;rw [if_pos hi, if_neg he, h];rfl
theorem UH (s : ByteArray) (i : Nat) (hi : i < s.size) (he : Utf8.decode s i = (65533, 1)) : JI s i = (0, -1) := by
 unfold JI;rw [if_pos hi, if_pos he]
theorem JjI (s : ByteArray) (i : Nat) (hi : i < s.size) (hb : (s.get! i).toNat < 192) (h : i + 1 <= s.size /\ Jq (s.get! i).toNat = s.extract i (i + 1)) : JI s i = ((((s.get! i).toNat : Nat) : Int), (i : Int) + 1) := by
 obtain ⟨h1, ht⟩ := h;have he := (Zt s i 1 _ h1).1 ht;obtain ⟨wa, wb⟩ := YP (s.size - i) _ (s.get! (i + 1)).toNat (s.get! (i + 2)).toNat (s.get! (i + 3)).toNat hb;have he2 : J5 (s.get! i).toNat = [(s.get! i).toNat] := he;exact XI s i hi _ 1 (by rw [Lib.decode_at]; exact wb he2) (by rw [Lib.decode_at]; exact wa.1 he2)
theorem Jf1 (s : ByteArray) (i : Nat) (hi : i < s.size) (hb : (s.get! i).toNat < 192) (h : ¬ (i + 1 <= s.size /\ Jq (s.get! i).toNat = s.extract i (i + 1))) : JI s i = (0, -1) := by
 obtain ⟨wa, wb⟩ := YP (s.size - i) _ (s.get! (i + 1)).toNat (s.get! (i + 2)).toNat (s.get! (i + 3)).toNat hb;refine UH s i hi (Classical.byContradiction fun hc => h ?_);rw [Lib.decode_at] at hc;exact ⟨by omega, (Zt s i 1 _ (by omega)).2 (wa.2 hc)⟩
theorem Jj2 (s : ByteArray) (i : Nat) (hi : i < s.size) (hb : 192 <= (s.get! i).toNat) (hb2 : (s.get! i).toNat < 224) (h : i + 2 <= s.size /\ JO (s.get! (i + 1)).toNat = true /\ Jq (JS (s.get! i).toNat (s.get! (i + 1)).toNat (s.get! (i + 2)).toNat (s.get! (i + 3)).toNat 2) = s.extract i (i + 2)) : JI s i = ((((JS (s.get! i).toNat (s.get! (i + 1)).toNat (s.get! (i + 2)).toNat (s.get! (i + 3)).toNat 2) : Nat) : Int), (i : Int) + 2) := by
 obtain ⟨h1, k1, ht⟩ := h;have he := (Zt s i 2 _ h1).1 ht;obtain ⟨wa, wb⟩ := YJ (s.size - i) _ _ (s.get! (i + 2)).toNat (s.get! (i + 3)).toNat hb hb2 ((s.get! (i + 1)).toNat_lt);have hne := wa.1 ⟨by omega, k1, he⟩;exact XI s i hi _ 2 (by rw [Lib.decode_at]; exact wb hne) (by rw [Lib.decode_at]; exact hne)
theorem Jb7 (s : ByteArray) (i : Nat) (hi : i < s.size) (hb : 192 <= (s.get! i).toNat) (hb2 : (s.get! i).toNat < 224) (h : ¬ (i + 2 <= s.size /\ JO (s.get! (i + 1)).toNat = true /\ Jq (JS (s.get! i).toNat (s.get! (i + 1)).toNat (s.get! (i + 2)).toNat (s.get! (i + 3)).toNat 2) = s.extract i (i + 2))) : JI s i = (0, -1) := by
 obtain ⟨wa, wb⟩ := YJ (s.size - i) _ _ (s.get! (i + 2)).toNat (s.get! (i + 3)).toNat hb hb2 ((s.get! (i + 1)).toNat_lt);refine UH s i hi (Classical.byContradiction fun hc => h ?_);rw [Lib.decode_at] at hc;obtain ⟨h1, k1, he⟩ := wa.2 hc;exact ⟨by omega, k1, (Zt s i 2 _ (by omega)).2 he⟩
theorem Jkv (s : ByteArray) (i : Nat) (hi : i < s.size) (hb : 224 <= (s.get! i).toNat) (hb2 : (s.get! i).toNat < 240) (h : i + 3 <= s.size /\ JO (s.get! (i + 1)).toNat = true /\ JO (s.get! (i + 2)).toNat = true /\ Jq (JS (s.get! i).toNat (s.get! (i + 1)).toNat (s.get! (i + 2)).toNat (s.get! (i + 3)).toNat 3) = s.extract i (i + 3)) : JI s i = ((((JS (s.get! i).toNat (s.get! (i + 1)).toNat (s.get! (i + 2)).toNat (s.get! (i + 3)).toNat 3) : Nat) : Int), (i : Int) + 3) := by
 obtain ⟨h1, k1, k2, ht⟩ := h;have he := (Zt s i 3 _ h1).1 ht;obtain ⟨wa, wb⟩ := YU (s.size - i) _ _ _ (s.get! (i + 3)).toNat hb hb2 ((s.get! (i + 1)).toNat_lt) ((s.get! (i + 2)).toNat_lt);have hne := wa.1 ⟨by omega, k1, k2, he⟩;exact XI s i hi _ 3 (by rw [Lib.decode_at]; exact wb hne) (by rw [Lib.decode_at]; exact hne)
theorem Xz (s : ByteArray) (i : Nat) (hi : i < s.size) (hb : 224 <= (s.get! i).toNat) (hb2 : (s.get! i).toNat < 240) (h : ¬ (i + 3 <= s.size /\ JO (s.get! (i + 1)).toNat = true /\ JO (s.get! (i + 2)).toNat = true /\ Jq (JS (s.get! i).toNat (s.get! (i + 1)).toNat (s.get! (i + 2)).toNat (s.get! (i + 3)).toNat 3) = s.extract i (i + 3))) : JI s i = (0, -1) := by
 obtain ⟨wa, wb⟩ := YU (s.size - i) _ _ _ (s.get! (i + 3)).toNat hb hb2 ((s.get! (i + 1)).toNat_lt) ((s.get! (i + 2)).toNat_lt);refine UH s i hi (Classical.byContradiction fun hc => h ?_);rw [Lib.decode_at] at hc;obtain ⟨h1, k1, k2, he⟩ := wa.2 hc;exact ⟨by omega, k1, k2, (Zt s i 3 _ (by omega)).2 he⟩
theorem Jja (s : ByteArray) (i : Nat) (hi : i < s.size) (hb : 240 <= (s.get! i).toNat) (h : i + 4 <= s.size /\ JO (s.get! (i + 1)).toNat = true /\ JO (s.get! (i + 2)).toNat = true /\ JO (s.get! (i + 3)).toNat = true /\ Jq (JS (s.get! i).toNat (s.get! (i + 1)).toNat (s.get! (i + 2)).toNat (s.get! (i + 3)).toNat 4) = s.extract i (i + 4)) : JI s i = ((((JS (s.get! i).toNat (s.get! (i + 1)).toNat (s.get! (i + 2)).toNat (s.get! (i + 3)).toNat 4) : Nat) : Int), (i : Int) + 4) := by
 obtain ⟨h1, k1, k2, k3, ht⟩ := h;have he := (Zt s i 4 _ h1).1 ht;obtain ⟨wa, wb⟩ := YK (s.size - i) _ _ _ _ hb (s.get! i).toNat_lt ((s.get! (i + 1)).toNat_lt) ((s.get! (i + 2)).toNat_lt) ((s.get! (i + 3)).toNat_lt);have hne := wa.1 ⟨by omega, k1, k2, k3, he⟩;exact XI s i hi _ 4 (by rw [Lib.decode_at]; exact wb hne) (by rw [Lib.decode_at]; exact hne)
theorem UZ (s : ByteArray) (i : Nat) (hi : i < s.size) (hb : 240 <= (s.get! i).toNat) (h : ¬ (i + 4 <= s.size /\ JO (s.get! (i + 1)).toNat = true /\ JO (s.get! (i + 2)).toNat = true /\ JO (s.get! (i + 3)).toNat = true /\ Jq (JS (s.get! i).toNat (s.get! (i + 1)).toNat (s.get! (i + 2)).toNat (s.get! (i + 3)).toNat 4) = s.extract i (i + 4))) : JI s i = (0, -1) := by
 obtain ⟨wa, wb⟩ := YK (s.size - i) _ _ _ _ hb (s.get! i).toNat_lt ((s.get! (i + 1)).toNat_lt) ((s.get! (i + 2)).toNat_lt) ((s.get! (i + 3)).toNat_lt);refine UH s i hi (Classical.byContradiction fun hc => h ?_);rw [Lib.decode_at] at hc;obtain ⟨h1, k1, k2, k3, he⟩ := wa.2 hc;exact ⟨by omega, k1, k2, k3, (Zt s i 4 _ (by omega)).2 he⟩
theorem JaT {a b : ByteArray} (h : a.toList = b.toList) : a = b := by
 rw [Lib.toList_data, Lib.toList_data] at h;apply ByteArray.ext;exact Array.toList_inj.1 h
theorem Jk1 (b : Nat) (h : b < 256) : Qk b < 256 := by
 unfold Qk;repeat' split
 all_goals omega
theorem Yi (b0 b1 b2 b3 k : Nat) (h0 : b0 < 256) (h1 : b1 < 256) (h2 : b2 < 256) (h3 : b3 < 256) : JS b0 b1 b2 b3 k < 134217728 := by
 have hp := Jk1 b0 h0;unfold JS;repeat' split
 all_goals omega
theorem ZV (b : Nat) : Q6 (b : Int) 128 191 = JO b := by
 unfold Q6 JO;rw [Bool.eq_iff_iff];simp;omega
theorem Vx (s : ByteArray) (i : Nat) (w : World) (hs : s.size <= 9223372036854775807) (hi : i <= 9223372036854775800) :
  Calls Tryz.prog 187 #[.string s, .int .i64 i] w fun e w' => e = .returned (.tuple #[.int .i64 (JI s i).1, .int .i64 (JI s i).2]) /\ Below w.heap.size w w' := by
 by_cases hlt : (i : Int) < s.size
 ·have h0 : (0 : Int) <= i := by omega
  have h1 : (i : Int) <= s.size := by omega
  have hin : Q6 (i : Int) 0 ((s.size : Int) - 1) = true := by unfold Q6; simp; omega
  have hii : i < s.size := by omega
  obtain ⟨b0, hb⟩ : ∃ b, b = (s.get! i).toNat := ⟨_, rfl⟩
  obtain ⟨b1, hb1⟩ : ∃ b, b = (s.get! (i + 1)).toNat := ⟨_, rfl⟩
  obtain ⟨b2, hb2⟩ : ∃ b, b = (s.get! (i + 2)).toNat := ⟨_, rfl⟩
  obtain ⟨b3, hb3⟩ : ∃ b, b = (s.get! (i + 3)).toNat := ⟨_, rfl⟩
  have hx0 : (s[i]'hii).toNat = b0 := by rw [hb]; exact Q2 s i hii
  have l0 : (b0 : Int) < 256 := by have := (s.get! i).toNat_lt; omega
  have l1 : (b1 : Int) < 256 := by have := (s.get! (i + 1)).toNat_lt; omega
  have l2 : (b2 : Int) < 256 := by have := (s.get! (i + 2)).toNat_lt; omega
  have l3 : (b3 : Int) < 256 := by have := (s.get! (i + 3)).toNat_lt; omega
  have HB := hid (And.intro hb (And.intro hb1 (And.intro hb2 hb3)));clear hb hb1 hb2 hb3;by_cases c4 : (240 : Int) <= b0
  ·have HC := hid (show 240 <= b0 /\ b0 < 256 by omega)
   by_cases hw : (s.size : Int) < i + 4
   ·have Hf := hid (show JI s i = (0, -1) from UZ s i hii (by have := HB.out.1; have := HC.out; omega) (fun h => by have := h.1; omega))
    skip
    go_enter Tryz.func187, Tryz.ntmps187
    go_wp2_with (first | (go_at_call 115; refine (Jo _ _ _ _).mono ?_; rintro e w' ⟨rfl, rfl⟩))
    go_ret2
    exact ⟨by rw [Hf.out]; rfl, Jj⟩
   obtain ⟨p1, hp1⟩ : ∃ p : Nat, p = i + 1 := ⟨_, rfl⟩
   have hpl1 : p1 < s.size := by omega
   have hpi1 : (p1 : Int) < s.size := by omega
   have hpe1 : (i : Int) + 1 = p1 := by omega
   have hx1 : (s[p1]'hpl1).toNat = b1 := by rw [HB.out.2.1, <- hp1]; exact Q2 s p1 hpl1
   obtain ⟨p2, hp2⟩ : ∃ p : Nat, p = i + 2 := ⟨_, rfl⟩
   have hpl2 : p2 < s.size := by omega
   have hpi2 : (p2 : Int) < s.size := by omega
   have hpe2 : (i : Int) + 2 = p2 := by omega
   have hx2 : (s[p2]'hpl2).toNat = b2 := by rw [HB.out.2.2.1, <- hp2]; exact Q2 s p2 hpl2
   obtain ⟨p3, hp3⟩ : ∃ p : Nat, p = i + 3 := ⟨_, rfl⟩
   have hpl3 : p3 < s.size := by omega
   have hpi3 : (p3 : Int) < s.size := by omega
   have hpe3 : (i : Int) + 3 = p3 := by omega
   have hx3 : (s[p3]'hpl3).toNat = b3 := by rw [HB.out.2.2.2, <- hp3]; exact Q2 s p3 hpl3
   clear hp1;clear hp2;clear hp3;obtain ⟨p4, hp4⟩ : ∃ p : Nat, p = i + 4 := ⟨_, rfl⟩
   have hpe4 : (i : Int) + 4 = p4 := by omega
   have hpk4 : (i : Int) <= p4 := by omega
   have hpm4 : (p4 : Int) <= s.size := by omega
   have hpd4 : decide (s.size < p4) = false := JmF (by omega);have HP := hid hp4;clear hp4 hw;go_enter Tryz.func187, Tryz.ntmps187
   go_wp2_with (first | (go_at_call 115; refine (Jo _ _ _ _).mono ?_; rintro e w' ⟨rfl, rfl⟩))
   go_loopw [8, 9] (fun s8 s9 wr => ∃ (k : Nat) (z : Int), 1 <= k /\ k <= 4 /\ z = k /\ s9 = .int .i64 z /\ s8 = .int .i64 (JS b0 b1 b2 b3 k : Nat) /\ (2 <= k -> JO b1 = true) /\ (3 <= k -> JO b2 = true) /\ (4 <= k -> JO b3 = true) /\ wr = w) (fun _ s9 _ => 4 - (Lib.intOf s9).toNat)
   case atStart =>
    have hp : ((JS b0 b1 b2 b3 1 : Nat) : Int) = (b0 : Int) - 240 := by have := HC.out; show ((Qk b0 : Nat) : Int) = _; unfold Qk; (repeat' split) <;> omega
    exact ⟨1, 1, by omega, by omega, rfl, rfl, by rw [hp], fun h => absurd h (by omega), fun h => absurd h (by omega), fun h => absurd h (by omega), rfl⟩
   case round =>
    obtain ⟨k, z, hk1, hk2, hz, rfl, rfl, q1, q2, q3, rfl⟩ := hrel;rcases (show k = 1 ∨ k = 2 ∨ k = 3 ∨ k = 4 by omega) with rfl | rfl | rfl | rfl
    ·obtain rfl : z = 1 := by omega
     clear hz;clear q1 q2 q3;obtain ⟨g, hg⟩ : ∃ g, g = JS b0 b1 b2 b3 1 := ⟨_, rfl⟩
     have hgb : (g : Int) < 134217728 := by rw [hg]; have := Yi b0 b1 b2 b3 1 (by omega) (by omega) (by omega) (by omega); omega
     have hgl : JO b1 = true -> ((JS b0 b1 b2 b3 2 : Nat) : Int) = 64 * g + b1 - 128 := fun h => by have h9 := h; unfold JO at h9; simp at h9; rw [hg]; show ((64 * JS b0 b1 b2 b3 1 + b1 - 128 : Nat) : Int) = _; omega
     have hG := hid hg;rw [<- hg];clear hg;have hc := ZV b1;rcases hq : JO b1 with _ | _
     ·rw [hq] at hc
      have Hf := hid (show JI s i = (0, -1) from UZ s i hii (by have := HB.out.1; have := HC.out; omega) (fun h => by have := h.2.1; rw [<- HB.out.2.1, hq] at this; cases this));clear hgl;go_wp2_with (first | (go_at_call 115; refine (Jo _ _ _ _).mono ?_; rintro e w' ⟨rfl, rfl⟩))
      go_ret2
      exact ⟨by rw [Hf.out]; rfl, Jj⟩
     rw [hq] at hc;have hgl2 := hgl hq;clear hgl;have Hgl := hid hgl2;clear hgl2;go_wp2_with (first | (go_at_call 115; refine (Jo _ _ _ _).mono ?_; rintro e w' ⟨rfl, rfl⟩))
     go_roundw
     case rel => exact ⟨2, 2, by omega, by omega, rfl, by first | rfl | go_num, by rw [Hgl.out], (by first | exact fun _ => hq | exact fun _ => True.intro | exact True.intro), (by first | exact fun h => absurd h (by omega) | exact True.intro), (by first | exact fun h => absurd h (by omega) | exact True.intro), (by first | rfl | exact True.intro)⟩
     case measure => simp [Lib.intOf]
    ·obtain rfl : z = 2 := by omega
     clear hz;have e1 := hid (q1 (by omega));clear q1 q2 q3;obtain ⟨g, hg⟩ : ∃ g, g = JS b0 b1 b2 b3 2 := ⟨_, rfl⟩
     have hgb : (g : Int) < 134217728 := by rw [hg]; have := Yi b0 b1 b2 b3 2 (by omega) (by omega) (by omega) (by omega); omega
     have hgl : JO b2 = true -> ((JS b0 b1 b2 b3 3 : Nat) : Int) = 64 * g + b2 - 128 := fun h => by have h9 := h; unfold JO at h9; simp at h9; rw [hg]; show ((64 * JS b0 b1 b2 b3 2 + b2 - 128 : Nat) : Int) = _; omega
     have hG := hid hg;rw [<- hg];clear hg;have hc := ZV b2;rcases hq : JO b2 with _ | _
     ·rw [hq] at hc
      have Hf := hid (show JI s i = (0, -1) from UZ s i hii (by have := HB.out.1; have := HC.out; omega) (fun h => by have := h.2.2.1; rw [<- HB.out.2.2.1, hq] at this; cases this));clear hgl;go_wp2_with (first | (go_at_call 115; refine (Jo _ _ _ _).mono ?_; rintro e w' ⟨rfl, rfl⟩))
      go_ret2
      exact ⟨by rw [Hf.out]; rfl, Jj⟩
     rw [hq] at hc;have hgl2 := hgl hq;clear hgl;have Hgl := hid hgl2;clear hgl2;go_wp2_with (first | (go_at_call 115; refine (Jo _ _ _ _).mono ?_; rintro e w' ⟨rfl, rfl⟩))
     go_roundw
     case rel => exact ⟨3, 3, by omega, by omega, rfl, by first | rfl | go_num, by rw [Hgl.out], (by first | exact fun _ => e1.out | exact fun _ => True.intro | exact True.intro), (by first | exact fun _ => hq | exact fun _ => True.intro | exact True.intro), (by first | exact fun h => absurd h (by omega) | exact True.intro), (by first | rfl | exact True.intro)⟩
     case measure => simp [Lib.intOf]
    ·obtain rfl : z = 3 := by omega
     clear hz;have e1 := hid (q1 (by omega));have e2 := hid (q2 (by omega));clear q1 q2 q3;obtain ⟨g, hg⟩ : ∃ g, g = JS b0 b1 b2 b3 3 := ⟨_, rfl⟩
     have hgb : (g : Int) < 134217728 := by rw [hg]; have := Yi b0 b1 b2 b3 3 (by omega) (by omega) (by omega) (by omega); omega
     have hgl : JO b3 = true -> ((JS b0 b1 b2 b3 4 : Nat) : Int) = 64 * g + b3 - 128 := fun h => by have h9 := h; unfold JO at h9; simp at h9; rw [hg]; show ((64 * JS b0 b1 b2 b3 3 + b3 - 128 : Nat) : Int) = _; omega
     have hG := hid hg;rw [<- hg];clear hg;have hc := ZV b3;rcases hq : JO b3 with _ | _
     ·rw [hq] at hc
      have Hf := hid (show JI s i = (0, -1) from UZ s i hii (by have := HB.out.1; have := HC.out; omega) (fun h => by have := h.2.2.2.1; rw [<- HB.out.2.2.2, hq] at this; cases this));clear hgl;go_wp2_with (first | (go_at_call 115; refine (Jo _ _ _ _).mono ?_; rintro e w' ⟨rfl, rfl⟩))
      go_ret2
      exact ⟨by rw [Hf.out]; rfl, Jj⟩
     rw [hq] at hc;have hgl2 := hgl hq;clear hgl;have Hgl := hid hgl2;clear hgl2;go_wp2_with (first | (go_at_call 115; refine (Jo _ _ _ _).mono ?_; rintro e w' ⟨rfl, rfl⟩))
     go_roundw
     case rel => exact ⟨4, 4, by omega, by omega, rfl, by first | rfl | go_num, by rw [Hgl.out], (by first | exact fun _ => e1.out | exact fun _ => True.intro | exact True.intro), (by first | exact fun _ => e2.out | exact fun _ => True.intro | exact True.intro), (by first | exact fun _ => hq | exact fun _ => True.intro | exact True.intro), (by first | rfl | exact True.intro)⟩
     case measure => simp [Lib.intOf]
    obtain rfl : z = 4 := by omega
    clear hz;have e1 := hid (q1 (by omega));have e2 := hid (q2 (by omega));have e3 := hid (q3 (by omega));clear q1 q2 q3;obtain ⟨g, hg⟩ : ∃ g, g = JS b0 b1 b2 b3 4 := ⟨_, rfl⟩
    have hgb : (g : Int) < 134217728 := by rw [hg]; have := Yi b0 b1 b2 b3 4 (by omega) (by omega) (by omega) (by omega); omega
    have hG := hid hg;rw [<- hg];clear hg;by_cases heq : Jq g = s.extract i p4
    focus
     have hE : ((Jq g).toList == (s.extract i p4).toList) = true := by simp [heq]
     have Hf := hid (show JI s i = ((g : Int), (p4 : Int)) from by rw [<- hpe4]; have h9 := Jja s i hii (by have := HB.out.1; have := HC.out; omega) ⟨by have := HP.out; omega, (by rw [<- HB.out.2.1]; exact e1.out), (by rw [<- HB.out.2.2.1]; exact e2.out), (by rw [<- HB.out.2.2.2]; exact e3.out), by rw [<- HB.out.1, <- HB.out.2.1, <- HB.out.2.2.1, <- HB.out.2.2.2, <- hG.out, <- HP.out]; exact heq⟩; rw [<- HB.out.1, <- HB.out.2.1, <- HB.out.2.2.1, <- HB.out.2.2.2, <- hG.out] at h9; exact h9)
    rotate_left
    focus
     have hE : ((Jq g).toList == (s.extract i p4).toList) = false := JmH (fun e => heq (JaT e));have Hf := hid (show JI s i = (0, -1) from UZ s i hii (by have := HB.out.1; have := HC.out; omega) (fun h => heq (by have h9 := h.2.2.2.2; rw [<- HB.out.1, <- HB.out.2.1, <- HB.out.2.2.1, <- HB.out.2.2.2, <- hG.out, <- HP.out] at h9; exact h9)))
    rotate_left
    all_goals
     clear heq;go_wp2_with fail
     refine Jm 9 (by kernel_rfl) (by kernel_rfl) (by decide) ?_;refine ds ?_
     (apply Exists.intro; refine And.intro ?_ ?_; (focus (intro W hW; (try simp only [Act.put, List.setIfInBounds_toArray, List.set_cons_zero, List.set_cons_succ]); first | (obtain ⟨hcW, hfW⟩ := JE hW; have hsW := hW.size; (try simp at hsW); (try have hsW0 := Jd hsW); (try (have hsW1 := Jc hsW; (try (have hsW2 := Jc hsW1)))); go_wp2_with (first | (go_at_call 220; refine (Qn _ _ (by omega)).mono ?_; rintro e w9 ⟨rfl, hb9⟩)); exact ⟨rfl, rfl, Jj⟩))))
     iterate 7 refine ds ?_
     intro w1 hb
     (first | (have hcu2 := Cum.join hcu hb; (try clear hcu); (try clear hc); (try clear hfz); (try clear hsz); (try clear hs0); (try clear hs1); (try clear hs2); (try clear hs3); (try clear hs4); ) | have hcu2 := Cum.mk hb); have hcu := hcu2; clear hcu2; obtain ⟨hc, hfz⟩ := JE hcu.h; have hsz := hcu.h.size; (try simp at hsz); (try have hs0 := Jd hsz); (try (have hs1 := Jc hsz; (try (have hs2 := Jc hs1; (try (have hs3 := Jc hs2; (try have hs4 := Jc hs3)))))))
     (try simp only [Act.put, List.setIfInBounds_toArray, List.set_cons_zero, List.set_cons_succ])
     (try simp only [List.drop_succ_cons, List.drop_nil])
     go_wp2_with fail
     go_ret2
     exact ⟨by rw [Hf.out]; rfl, Jj⟩
  have d4 : decide ((240 : Int) <= b0) = false := JmF c4;by_cases c3 : (224 : Int) <= b0
  ·have HC := hid (show 224 <= b0 /\ b0 < 240 by omega)
   clear c4;by_cases hw : (s.size : Int) < i + 3
   ·have Hf := hid (show JI s i = (0, -1) from Xz s i hii (by have := HB.out.1; have := HC.out; omega) (by have := HB.out.1; have := HC.out; omega) (fun h => by have := h.1; omega))
    skip
    go_enter Tryz.func187, Tryz.ntmps187
    go_wp2_with (first | (go_at_call 115; refine (Jo _ _ _ _).mono ?_; rintro e w' ⟨rfl, rfl⟩))
    go_ret2
    exact ⟨by rw [Hf.out]; rfl, Jj⟩
   obtain ⟨p1, hp1⟩ : ∃ p : Nat, p = i + 1 := ⟨_, rfl⟩
   have hpl1 : p1 < s.size := by omega
   have hpi1 : (p1 : Int) < s.size := by omega
   have hpe1 : (i : Int) + 1 = p1 := by omega
   have hx1 : (s[p1]'hpl1).toNat = b1 := by rw [HB.out.2.1, <- hp1]; exact Q2 s p1 hpl1
   obtain ⟨p2, hp2⟩ : ∃ p : Nat, p = i + 2 := ⟨_, rfl⟩
   have hpl2 : p2 < s.size := by omega
   have hpi2 : (p2 : Int) < s.size := by omega
   have hpe2 : (i : Int) + 2 = p2 := by omega
   have hx2 : (s[p2]'hpl2).toNat = b2 := by rw [HB.out.2.2.1, <- hp2]; exact Q2 s p2 hpl2
   clear hp1;clear hp2;obtain ⟨p3, hp3⟩ : ∃ p : Nat, p = i + 3 := ⟨_, rfl⟩
   have hpe3 : (i : Int) + 3 = p3 := by omega
   have hpk3 : (i : Int) <= p3 := by omega
   have hpm3 : (p3 : Int) <= s.size := by omega
   have hpd3 : decide (s.size < p3) = false := JmF (by omega);have HP := hid hp3;clear hp3 hw;go_enter Tryz.func187, Tryz.ntmps187
   go_wp2_with (first | (go_at_call 115; refine (Jo _ _ _ _).mono ?_; rintro e w' ⟨rfl, rfl⟩))
   go_loopw [8, 9] (fun s8 s9 wr => ∃ (k : Nat) (z : Int), 1 <= k /\ k <= 3 /\ z = k /\ s9 = .int .i64 z /\ s8 = .int .i64 (JS b0 b1 b2 b3 k : Nat) /\ (2 <= k -> JO b1 = true) /\ (3 <= k -> JO b2 = true) /\ wr = w) (fun _ s9 _ => 3 - (Lib.intOf s9).toNat)
   case atStart =>
    have hp : ((JS b0 b1 b2 b3 1 : Nat) : Int) = (b0 : Int) - 224 := by have := HC.out; show ((Qk b0 : Nat) : Int) = _; unfold Qk; (repeat' split) <;> omega
    exact ⟨1, 1, by omega, by omega, rfl, rfl, by rw [hp], fun h => absurd h (by omega), fun h => absurd h (by omega), rfl⟩
   case round =>
    obtain ⟨k, z, hk1, hk2, hz, rfl, rfl, q1, q2, rfl⟩ := hrel;rcases (show k = 1 ∨ k = 2 ∨ k = 3 by omega) with rfl | rfl | rfl
    ·obtain rfl : z = 1 := by omega
     clear hz;clear q1 q2;obtain ⟨g, hg⟩ : ∃ g, g = JS b0 b1 b2 b3 1 := ⟨_, rfl⟩
     have hgb : (g : Int) < 134217728 := by rw [hg]; have := Yi b0 b1 b2 b3 1 (by omega) (by omega) (by omega) (by omega); omega
     have hgl : JO b1 = true -> ((JS b0 b1 b2 b3 2 : Nat) : Int) = 64 * g + b1 - 128 := fun h => by have h9 := h; unfold JO at h9; simp at h9; rw [hg]; show ((64 * JS b0 b1 b2 b3 1 + b1 - 128 : Nat) : Int) = _; omega
     have hG := hid hg;rw [<- hg];clear hg;have hc := ZV b1;rcases hq : JO b1 with _ | _
     ·rw [hq] at hc
      have Hf := hid (show JI s i = (0, -1) from Xz s i hii (by have := HB.out.1; have := HC.out; omega) (by have := HB.out.1; have := HC.out; omega) (fun h => by have := h.2.1; rw [<- HB.out.2.1, hq] at this; cases this));clear hgl;go_wp2_with (first | (go_at_call 115; refine (Jo _ _ _ _).mono ?_; rintro e w' ⟨rfl, rfl⟩))
      go_ret2
      exact ⟨by rw [Hf.out]; rfl, Jj⟩
     rw [hq] at hc;have hgl2 := hgl hq;clear hgl;have Hgl := hid hgl2;clear hgl2;go_wp2_with (first | (go_at_call 115; refine (Jo _ _ _ _).mono ?_; rintro e w' ⟨rfl, rfl⟩))
     go_roundw
     case rel => exact ⟨2, 2, by omega, by omega, rfl, by first | rfl | go_num, by rw [Hgl.out], (by first | exact fun _ => hq | exact fun _ => True.intro | exact True.intro), (by first | exact fun h => absurd h (by omega) | exact True.intro), (by first | rfl | exact True.intro)⟩
     case measure => simp [Lib.intOf]
    ·obtain rfl : z = 2 := by omega
     clear hz;have e1 := hid (q1 (by omega));clear q1 q2;obtain ⟨g, hg⟩ : ∃ g, g = JS b0 b1 b2 b3 2 := ⟨_, rfl⟩
     have hgb : (g : Int) < 134217728 := by rw [hg]; have := Yi b0 b1 b2 b3 2 (by omega) (by omega) (by omega) (by omega); omega
     have hgl : JO b2 = true -> ((JS b0 b1 b2 b3 3 : Nat) : Int) = 64 * g + b2 - 128 := fun h => by have h9 := h; unfold JO at h9; simp at h9; rw [hg]; show ((64 * JS b0 b1 b2 b3 2 + b2 - 128 : Nat) : Int) = _; omega
     have hG := hid hg;rw [<- hg];clear hg;have hc := ZV b2;rcases hq : JO b2 with _ | _
     ·rw [hq] at hc
      have Hf := hid (show JI s i = (0, -1) from Xz s i hii (by have := HB.out.1; have := HC.out; omega) (by have := HB.out.1; have := HC.out; omega) (fun h => by have := h.2.2.1; rw [<- HB.out.2.2.1, hq] at this; cases this));clear hgl;go_wp2_with (first | (go_at_call 115; refine (Jo _ _ _ _).mono ?_; rintro e w' ⟨rfl, rfl⟩))
      go_ret2
      exact ⟨by rw [Hf.out]; rfl, Jj⟩
     rw [hq] at hc;have hgl2 := hgl hq;clear hgl;have Hgl := hid hgl2;clear hgl2;go_wp2_with (first | (go_at_call 115; refine (Jo _ _ _ _).mono ?_; rintro e w' ⟨rfl, rfl⟩))
     go_roundw
     case rel => exact ⟨3, 3, by omega, by omega, rfl, by first | rfl | go_num, by rw [Hgl.out], (by first | exact fun _ => e1.out | exact fun _ => True.intro | exact True.intro), (by first | exact fun _ => hq | exact fun _ => True.intro | exact True.intro), (by first | rfl | exact True.intro)⟩
     case measure => simp [Lib.intOf]
    obtain rfl : z = 3 := by omega
    clear hz;have e1 := hid (q1 (by omega));have e2 := hid (q2 (by omega));clear q1 q2;obtain ⟨g, hg⟩ : ∃ g, g = JS b0 b1 b2 b3 3 := ⟨_, rfl⟩
    have hgb : (g : Int) < 134217728 := by rw [hg]; have := Yi b0 b1 b2 b3 3 (by omega) (by omega) (by omega) (by omega); omega
    have hG := hid hg;rw [<- hg];clear hg;by_cases heq : Jq g = s.extract i p3
    focus
     have hE : ((Jq g).toList == (s.extract i p3).toList) = true := by simp [heq]
     have Hf := hid (show JI s i = ((g : Int), (p3 : Int)) from by rw [<- hpe3]; have h9 := Jkv s i hii (by have := HB.out.1; have := HC.out; omega) (by have := HB.out.1; have := HC.out; omega) ⟨by have := HP.out; omega, (by rw [<- HB.out.2.1]; exact e1.out), (by rw [<- HB.out.2.2.1]; exact e2.out), by rw [<- HB.out.1, <- HB.out.2.1, <- HB.out.2.2.1, <- HB.out.2.2.2, <- hG.out, <- HP.out]; exact heq⟩; rw [<- HB.out.1, <- HB.out.2.1, <- HB.out.2.2.1, <- HB.out.2.2.2, <- hG.out] at h9; exact h9)
    rotate_left
    focus
     have hE : ((Jq g).toList == (s.extract i p3).toList) = false := JmH (fun e => heq (JaT e));have Hf := hid (show JI s i = (0, -1) from Xz s i hii (by have := HB.out.1; have := HC.out; omega) (by have := HB.out.1; have := HC.out; omega) (fun h => heq (by have h9 := h.2.2.2; rw [<- HB.out.1, <- HB.out.2.1, <- HB.out.2.2.1, <- HB.out.2.2.2, <- hG.out, <- HP.out] at h9; exact h9)))
    rotate_left
    all_goals
     clear heq;go_wp2_with fail
     refine Jm 9 (by kernel_rfl) (by kernel_rfl) (by decide) ?_;refine ds ?_
     (apply Exists.intro; refine And.intro ?_ ?_; (focus (intro W hW; (try simp only [Act.put, List.setIfInBounds_toArray, List.set_cons_zero, List.set_cons_succ]); first | (obtain ⟨hcW, hfW⟩ := JE hW; have hsW := hW.size; (try simp at hsW); (try have hsW0 := Jd hsW); (try (have hsW1 := Jc hsW; (try (have hsW2 := Jc hsW1)))); go_wp2_with (first | (go_at_call 220; refine (Qn _ _ (by omega)).mono ?_; rintro e w9 ⟨rfl, hb9⟩)); exact ⟨rfl, rfl, Jj⟩))))
     iterate 7 refine ds ?_
     intro w1 hb
     (first | (have hcu2 := Cum.join hcu hb; (try clear hcu); (try clear hc); (try clear hfz); (try clear hsz); (try clear hs0); (try clear hs1); (try clear hs2); (try clear hs3); (try clear hs4); ) | have hcu2 := Cum.mk hb); have hcu := hcu2; clear hcu2; obtain ⟨hc, hfz⟩ := JE hcu.h; have hsz := hcu.h.size; (try simp at hsz); (try have hs0 := Jd hsz); (try (have hs1 := Jc hsz; (try (have hs2 := Jc hs1; (try (have hs3 := Jc hs2; (try have hs4 := Jc hs3)))))))
     (try simp only [Act.put, List.setIfInBounds_toArray, List.set_cons_zero, List.set_cons_succ])
     (try simp only [List.drop_succ_cons, List.drop_nil])
     go_wp2_with fail
     go_ret2
     exact ⟨by rw [Hf.out]; rfl, Jj⟩
  have d3 : decide ((224 : Int) <= b0) = false := JmF c3;by_cases c2 : (192 : Int) <= b0
  ·have HC := hid (show 192 <= b0 /\ b0 < 224 by omega)
   clear c4 c3;by_cases hw : (s.size : Int) < i + 2
   ·have Hf := hid (show JI s i = (0, -1) from Jb7 s i hii (by have := HB.out.1; have := HC.out; omega) (by have := HB.out.1; have := HC.out; omega) (fun h => by have := h.1; omega))
    skip
    go_enter Tryz.func187, Tryz.ntmps187
    go_wp2_with (first | (go_at_call 115; refine (Jo _ _ _ _).mono ?_; rintro e w' ⟨rfl, rfl⟩))
    go_ret2
    exact ⟨by rw [Hf.out]; rfl, Jj⟩
   obtain ⟨p1, hp1⟩ : ∃ p : Nat, p = i + 1 := ⟨_, rfl⟩
   have hpl1 : p1 < s.size := by omega
   have hpi1 : (p1 : Int) < s.size := by omega
   have hpe1 : (i : Int) + 1 = p1 := by omega
   have hx1 : (s[p1]'hpl1).toNat = b1 := by rw [HB.out.2.1, <- hp1]; exact Q2 s p1 hpl1
   clear hp1;obtain ⟨p2, hp2⟩ : ∃ p : Nat, p = i + 2 := ⟨_, rfl⟩
   have hpe2 : (i : Int) + 2 = p2 := by omega
   have hpk2 : (i : Int) <= p2 := by omega
   have hpm2 : (p2 : Int) <= s.size := by omega
   have hpd2 : decide (s.size < p2) = false := JmF (by omega);have HP := hid hp2;clear hp2 hw;go_enter Tryz.func187, Tryz.ntmps187
   go_wp2_with (first | (go_at_call 115; refine (Jo _ _ _ _).mono ?_; rintro e w' ⟨rfl, rfl⟩))
   go_loopw [8, 9] (fun s8 s9 wr => ∃ (k : Nat) (z : Int), 1 <= k /\ k <= 2 /\ z = k /\ s9 = .int .i64 z /\ s8 = .int .i64 (JS b0 b1 b2 b3 k : Nat) /\ (2 <= k -> JO b1 = true) /\ wr = w) (fun _ s9 _ => 2 - (Lib.intOf s9).toNat)
   case atStart =>
    have hp : ((JS b0 b1 b2 b3 1 : Nat) : Int) = (b0 : Int) - 192 := by have := HC.out; show ((Qk b0 : Nat) : Int) = _; unfold Qk; (repeat' split) <;> omega
    exact ⟨1, 1, by omega, by omega, rfl, rfl, by rw [hp], fun h => absurd h (by omega), rfl⟩
   case round =>
    obtain ⟨k, z, hk1, hk2, hz, rfl, rfl, q1, rfl⟩ := hrel;rcases (show k = 1 ∨ k = 2 by omega) with rfl | rfl
    ·obtain rfl : z = 1 := by omega
     clear hz;clear q1;obtain ⟨g, hg⟩ : ∃ g, g = JS b0 b1 b2 b3 1 := ⟨_, rfl⟩
     have hgb : (g : Int) < 134217728 := by rw [hg]; have := Yi b0 b1 b2 b3 1 (by omega) (by omega) (by omega) (by omega); omega
     have hgl : JO b1 = true -> ((JS b0 b1 b2 b3 2 : Nat) : Int) = 64 * g + b1 - 128 := fun h => by have h9 := h; unfold JO at h9; simp at h9; rw [hg]; show ((64 * JS b0 b1 b2 b3 1 + b1 - 128 : Nat) : Int) = _; omega
     have hG := hid hg;rw [<- hg];clear hg;have hc := ZV b1;rcases hq : JO b1 with _ | _
     ·rw [hq] at hc
      have Hf := hid (show JI s i = (0, -1) from Jb7 s i hii (by have := HB.out.1; have := HC.out; omega) (by have := HB.out.1; have := HC.out; omega) (fun h => by have := h.2.1; rw [<- HB.out.2.1, hq] at this; cases this));clear hgl;go_wp2_with (first | (go_at_call 115; refine (Jo _ _ _ _).mono ?_; rintro e w' ⟨rfl, rfl⟩))
      go_ret2
      exact ⟨by rw [Hf.out]; rfl, Jj⟩
     rw [hq] at hc;have hgl2 := hgl hq;clear hgl;have Hgl := hid hgl2;clear hgl2;go_wp2_with (first | (go_at_call 115; refine (Jo _ _ _ _).mono ?_; rintro e w' ⟨rfl, rfl⟩))
     go_roundw
     case rel => exact ⟨2, 2, by omega, by omega, rfl, by first | rfl | go_num, by rw [Hgl.out], (by first | exact fun _ => hq | exact fun _ => True.intro | exact True.intro), (by first | rfl | exact True.intro)⟩
     case measure => simp [Lib.intOf]
    obtain rfl : z = 2 := by omega
    clear hz;have e1 := hid (q1 (by omega));clear q1;obtain ⟨g, hg⟩ : ∃ g, g = JS b0 b1 b2 b3 2 := ⟨_, rfl⟩
    have hgb : (g : Int) < 134217728 := by rw [hg]; have := Yi b0 b1 b2 b3 2 (by omega) (by omega) (by omega) (by omega); omega
    have hG := hid hg;rw [<- hg];clear hg;by_cases heq : Jq g = s.extract i p2
    focus
     have hE : ((Jq g).toList == (s.extract i p2).toList) = true := by simp [heq]
     have Hf := hid (show JI s i = ((g : Int), (p2 : Int)) from by rw [<- hpe2]; have h9 := Jj2 s i hii (by have := HB.out.1; have := HC.out; omega) (by have := HB.out.1; have := HC.out; omega) ⟨by have := HP.out; omega, (by rw [<- HB.out.2.1]; exact e1.out), by rw [<- HB.out.1, <- HB.out.2.1, <- HB.out.2.2.1, <- HB.out.2.2.2, <- hG.out, <- HP.out]; exact heq⟩; rw [<- HB.out.1, <- HB.out.2.1, <- HB.out.2.2.1, <- HB.out.2.2.2, <- hG.out] at h9; exact h9)
    rotate_left
    focus
     have hE : ((Jq g).toList == (s.extract i p2).toList) = false := JmH (fun e => heq (JaT e));have Hf := hid (show JI s i = (0, -1) from Jb7 s i hii (by have := HB.out.1; have := HC.out; omega) (by have := HB.out.1; have := HC.out; omega) (fun h => heq (by have h9 := h.2.2; rw [<- HB.out.1, <- HB.out.2.1, <- HB.out.2.2.1, <- HB.out.2.2.2, <- hG.out, <- HP.out] at h9; exact h9)))
    rotate_left
    all_goals
     clear heq;go_wp2_with fail
     refine Jm 9 (by kernel_rfl) (by kernel_rfl) (by decide) ?_;refine ds ?_
     (apply Exists.intro; refine And.intro ?_ ?_; (focus (intro W hW; (try simp only [Act.put, List.setIfInBounds_toArray, List.set_cons_zero, List.set_cons_succ]); first | (obtain ⟨hcW, hfW⟩ := JE hW; have hsW := hW.size; (try simp at hsW); (try have hsW0 := Jd hsW); (try (have hsW1 := Jc hsW; (try (have hsW2 := Jc hsW1)))); go_wp2_with (first | (go_at_call 220; refine (Qn _ _ (by omega)).mono ?_; rintro e w9 ⟨rfl, hb9⟩)); exact ⟨rfl, rfl, Jj⟩))))
     iterate 7 refine ds ?_
     intro w1 hb
     (first | (have hcu2 := Cum.join hcu hb; (try clear hcu); (try clear hc); (try clear hfz); (try clear hsz); (try clear hs0); (try clear hs1); (try clear hs2); (try clear hs3); (try clear hs4); ) | have hcu2 := Cum.mk hb); have hcu := hcu2; clear hcu2; obtain ⟨hc, hfz⟩ := JE hcu.h; have hsz := hcu.h.size; (try simp at hsz); (try have hs0 := Jd hsz); (try (have hs1 := Jc hsz; (try (have hs2 := Jc hs1; (try (have hs3 := Jc hs2; (try have hs4 := Jc hs3)))))))
     (try simp only [Act.put, List.setIfInBounds_toArray, List.set_cons_zero, List.set_cons_succ])
     (try simp only [List.drop_succ_cons, List.drop_nil])
     go_wp2_with fail
     go_ret2
     exact ⟨by rw [Hf.out]; rfl, Jj⟩
  have d2 : decide ((192 : Int) <= b0) = false := JmF c2;have HC := hid (show 0 <= b0 /\ b0 < 192 by omega);clear c4 c3 c2;by_cases hw : (s.size : Int) < i + 1
  ·have Hf := hid (show JI s i = (0, -1) from Jf1 s i hii (by have := HB.out.1; have := HC.out; omega) (fun h => by have := h.1; omega))
   skip
   go_enter Tryz.func187, Tryz.ntmps187
   go_wp2_with (first | (go_at_call 115; refine (Jo _ _ _ _).mono ?_; rintro e w' ⟨rfl, rfl⟩))
   go_ret2
   exact ⟨by rw [Hf.out]; rfl, Jj⟩
  obtain ⟨p1, hp1⟩ : ∃ p : Nat, p = i + 1 := ⟨_, rfl⟩
  have hpe1 : (i : Int) + 1 = p1 := by omega
  have hpk1 : (i : Int) <= p1 := by omega
  have hpm1 : (p1 : Int) <= s.size := by omega
  have hpd1 : decide (s.size < p1) = false := JmF (by omega);have HP := hid hp1;clear hp1 hw;go_enter Tryz.func187, Tryz.ntmps187
  go_wp2_with (first | (go_at_call 115; refine (Jo _ _ _ _).mono ?_; rintro e w' ⟨rfl, rfl⟩))
  go_loopw [8, 9] (fun s8 s9 wr => ∃ (k : Nat) (z : Int), 1 <= k /\ k <= 1 /\ z = k /\ s9 = .int .i64 z /\ s8 = .int .i64 (JS b0 b1 b2 b3 k : Nat) /\ wr = w) (fun _ s9 _ => 1 - (Lib.intOf s9).toNat)
  case atStart =>
   have hp : ((JS b0 b1 b2 b3 1 : Nat) : Int) = (b0 : Int) := by have := HC.out; show ((Qk b0 : Nat) : Int) = _; unfold Qk; (repeat' split) <;> omega
   exact ⟨1, 1, by omega, by omega, rfl, rfl, by rw [hp], rfl⟩
  case round =>
   obtain ⟨k, z, hk1, hk2, hz, rfl, rfl, rfl⟩ := hrel;obtain rfl : k = 1 := by omega
   obtain rfl : z = 1 := by omega
   clear hz;obtain ⟨g, hg⟩ : ∃ g, g = JS b0 b1 b2 b3 1 := ⟨_, rfl⟩
   have hgb : (g : Int) < 134217728 := by rw [hg]; have := Yi b0 b1 b2 b3 1 (by omega) (by omega) (by omega) (by omega); omega
   have hG := hid hg;rw [<- hg];clear hg;have HG1 := hid (show g = b0 by rw [hG.out]; show Qk b0 = b0; have := HC.out; unfold Qk; rw [if_neg (by omega), if_neg (by omega), if_neg (by omega)]);by_cases heq : Jq g = s.extract i p1
   focus
    have hE : ((Jq g).toList == (s.extract i p1).toList) = true := by simp [heq]
    have Hf := hid (show JI s i = ((g : Int), (p1 : Int)) from by rw [<- hpe1]; have h9 := JjI s i hii (by have := HB.out.1; have := HC.out; omega) ⟨by have := HP.out; omega, by rw [<- HB.out.1, <- HP.out, <- HG1.out]; exact heq⟩; rw [<- HB.out.1, <- HG1.out] at h9; exact h9)
   rotate_left
   focus
    have hE : ((Jq g).toList == (s.extract i p1).toList) = false := JmH (fun e => heq (JaT e));have Hf := hid (show JI s i = (0, -1) from Jf1 s i hii (by have := HB.out.1; have := HC.out; omega) (fun h => heq (by have h9 := h.2; rw [<- HB.out.1, <- HP.out, <- HG1.out] at h9; exact h9)))
   rotate_left
   all_goals
    clear heq;go_wp2_with fail
    refine Jm 9 (by kernel_rfl) (by kernel_rfl) (by decide) ?_;refine ds ?_
    (apply Exists.intro; refine And.intro ?_ ?_; (focus (intro W hW; (try simp only [Act.put, List.setIfInBounds_toArray, List.set_cons_zero, List.set_cons_succ]); first | (obtain ⟨hcW, hfW⟩ := JE hW; have hsW := hW.size; (try simp at hsW); (try have hsW0 := Jd hsW); (try (have hsW1 := Jc hsW; (try (have hsW2 := Jc hsW1)))); go_wp2_with (first | (go_at_call 220; refine (Qn _ _ (by omega)).mono ?_; rintro e w9 ⟨rfl, hb9⟩)); exact ⟨rfl, rfl, Jj⟩))))
    iterate 7 refine ds ?_
    intro w1 hb
    (first | (have hcu2 := Cum.join hcu hb; (try clear hcu); (try clear hc); (try clear hfz); (try clear hsz); (try clear hs0); (try clear hs1); (try clear hs2); (try clear hs3); (try clear hs4); ) | have hcu2 := Cum.mk hb); have hcu := hcu2; clear hcu2; obtain ⟨hc, hfz⟩ := JE hcu.h; have hsz := hcu.h.size; (try simp at hsz); (try have hs0 := Jd hsz); (try (have hs1 := Jc hsz; (try (have hs2 := Jc hs1; (try (have hs3 := Jc hs2; (try have hs4 := Jc hs3)))))))
    (try simp only [Act.put, List.setIfInBounds_toArray, List.set_cons_zero, List.set_cons_succ])
    (try simp only [List.drop_succ_cons, List.drop_nil])
    go_wp2_with fail
    go_ret2
    exact ⟨by rw [Hf.out]; rfl, Jj⟩
 have Hf := hid (show JI s i = (0, -1) by unfold JI; rw [if_neg (by omega)]);have hin : Q6 (i : Int) 0 ((s.size : Int) - 1) = false := by unfold Q6; simp; omega
 go_enter Tryz.func187, Tryz.ntmps187
 go_wp2_with (first | (go_at_call 115; refine (Jo _ _ _ _).mono ?_; rintro e w' ⟨rfl, rfl⟩))
 go_ret2
 exact ⟨by rw [Hf.out]; rfl, Jj⟩
open Go.RowKit
structure Aside (S : Nat -> Prop) (w w' : World) : Prop where
 os : w'.os = w.os
 tape : w'.tape = w.tape
 output : w'.output = w.output
 size : w.heap.size <= w'.heap.size
 block : ∀ b, b < w.heap.size -> ¬ S b -> w'.heap[b]? = w.heap[b]?
theorem Aside.refl (S : Nat -> Prop) (w : World) : Aside S w w := ⟨rfl, rfl, rfl, Nat.le_refl _, fun _ _ _ => rfl⟩
theorem Aside.trans {S : Nat -> Prop} {a b c : World} (h : Aside S a b) (k : Aside S b c) : Aside S a c :=
 ⟨k.os.trans h.os, k.tape.trans h.tape, k.output.trans h.output, Nat.le_trans h.size k.size, fun i hi hs => (k.block i (Nat.lt_of_lt_of_le hi h.size) hs).trans (h.block i hi hs)⟩
theorem Aside.mono {S S' : Nat -> Prop} {a b : World} (h : Aside S a b) (hs : ∀ i, S i -> S' i) : Aside S' a b := ⟨h.os, h.tape, h.output, h.size, fun i hi hn => h.block i hi (fun x => hn (hs i x))⟩
theorem Aside.of_below {S : Nat -> Prop} {a b : World} (h : Below a.heap.size a b) : Aside S a b := ⟨h.os, h.tape, h.output, h.size, fun i hi _ => h.block i hi⟩
theorem Aside.below {S : Nat -> Prop} {B : Nat} {a b : World} (h : Aside S a b) (hB : B <= a.heap.size) (hs : ∀ i, S i -> B <= i) : Below B a b :=
 ⟨h.os, h.tape, h.output, h.size, fun i hi => h.block i (Nat.lt_of_lt_of_le hi hB) (fun x => absurd (hs i x) (by omega))⟩
theorem Aside.setCell {S : Nat -> Prop} {a b : World} {p : Addr} {u : Value} (h : Aside S a b) (hp : S p.block) : Aside S a (b.setCell p u) :=
 h.trans ⟨rfl, rfl, rfl, by simp [World.setCell], fun i _ hn => Below.heap_setCell b p u i (fun e => hn (e ▸ hp))⟩
def OwnS (S : Nat -> Prop) (w : World) (l : List ByteArray) (v : Value) : Prop :=
 ∃ A c, v = .slice A l.length c /\ l.length <= c /\ c <= 9223372036854775807 /\ (0 < l.length -> ∃ g cur, A = some ⟨g, 0, none⟩ /\ S g /\ w.heap[g]? = some (.cells cur 9 (0, 0)) /\ ∀ (i : Nat) (s : ByteArray), l[i]? = some s -> cur[i]? = some (Value.string s) /\ s.size <= 9223372036854775807)
theorem OwnS.form {S : Nat -> Prop} {w : World} {l : List ByteArray} {v : Value} (h : OwnS S w l v) : ∃ A c, v = .slice A l.length c := by
 obtain ⟨A, c, hv, _⟩ := h;exact ⟨A, c, hv⟩
theorem OwnS.carry {S S' : Nat -> Prop} {w w' : World} {l : List ByteArray} {v : Value} (h : OwnS S w l v) (hs : ∀ b, S b -> w'.heap[b]? = w.heap[b]?) (hS : ∀ b, S b -> S' b) : OwnS S' w' l v := by
 obtain ⟨A, c, hv, h1, h2, h3⟩ := h;refine ⟨A, c, hv, h1, h2, fun hp => ?_⟩;obtain ⟨g, cur, hA, hg, hr, hc⟩ := h3 hp;exact ⟨g, cur, hA, hS g hg, (hs g hg).trans hr, hc⟩
theorem OwnS.toC {S : Nat -> Prop} {lo hi : Nat} {w : World} {l : List ByteArray} {v : Value} (h : OwnS S w l v) (hS : ∀ b, S b -> lo <= b /\ b < hi) : Sl_Str lo hi w l v := by
 obtain ⟨A, c, rfl, h1, h2, h3⟩ := h;refine ⟨A, c, rfl, h1, h2, fun hp => ?_⟩;obtain ⟨g, cur, rfl, hg, hr, hc⟩ := h3 hp;refine ⟨g, 0, rfl, (hS g hg).1, (hS g hg).2, fun i s hs => ⟨[.string s], rfl, fun j hj => ?_, rfl, (hc i s hs).2⟩⟩;obtain rfl : j = 0 := by omega
 rw [cell_of_row w g _ cur _ _ hr]
 simpa using (hc i s hs).1
def Yy (k : Nat) : ByteArray := ⟨#[UInt8.ofNat (48 + k % 10)]⟩
def mkL (k : Nat) (out : ByteArray) : ByteArray := if k = 0 then out else mkL (k / 10) (Yy k ++ out)
 termination_by k
 decreasing_by omega
theorem Ja1 (out : ByteArray) : mkL 0 out = out := by rw [mkL]; rfl
theorem Jd0 (k : Nat) (out : ByteArray) (h : 0 < k) : mkL k out = mkL (k / 10) (Yy k ++ out) := by rw [mkL, if_neg (by omega)]
theorem Yu (b o j : Nat) : (⟨b, o, none⟩ : Addr).add j = ⟨b, o + j, none⟩ := by
 unfold Addr.add;split
 ·simp_all
 rfl
theorem Jk {S : Nat -> Prop} {a b : World} {p : Addr} {u : Value} (hp : S p.block) (h : Aside S a b) : Aside S a (b.setCell p u) := h.setCell hp
theorem Vn {S : Nat -> Prop} {a b : World} {o : Obj} (h : Aside S a b) : Aside S a (b.alloc o) :=
 h.trans ⟨rfl, rfl, rfl, by simp, fun i hi _ => Below.heap_alloc b o i hi⟩
theorem QC {S : Nat -> Prop} {a b : World} (h : Aside S a b := by repeat (first | (with_reducible exact Aside.refl _ _) | ((with_reducible refine Jk ?_ ?_); (focus (simp; done))) | (with_reducible refine Vn ?_))) : Aside S a b := h
theorem Je {w : World} {o : Obj} {b : Nat} (h : b = w.heap.size) : (w.alloc o).heap[b]? = some o := by subst h; exact heap_alloc_new w o
theorem Jf {w : World} {b : Nat} {a0 a1 a2 a3 a4 a5 : Value} {e : TypeId} (hr : w.heap[b]? = some (.cells #[a0, a1, a2, a3, a4, a5] e (0, 0))) :
  w.cell? ⟨b, 0, none⟩ = some a0 /\ w.cell? ⟨b, 1, none⟩ = some a1 /\ w.cell? ⟨b, 2, none⟩ = some a2 /\ w.cell? ⟨b, 3, none⟩ = some a3 /\ w.cell? ⟨b, 4, none⟩ = some a4 /\ w.cell? ⟨b, 5, none⟩ = some a5 /\ ∀ o, w.frozen? ⟨b, o, none⟩ = false :=
 ⟨by rw [cell_of_row _ _ _ _ _ _ hr]; rfl, by rw [cell_of_row _ _ _ _ _ _ hr]; rfl, by rw [cell_of_row _ _ _ _ _ _ hr]; rfl, by rw [cell_of_row _ _ _ _ _ _ hr]; rfl, by rw [cell_of_row _ _ _ _ _ _ hr]; rfl, by rw [cell_of_row _ _ _ _ _ _ hr]; rfl, fun o => QJ hr o⟩
theorem Jh {w w' : World} {base : Nat} {e : TypeId} {size : Nat} {v : Value} {n : Nat} {xs : List Value} (h : w.ownsRow base e size v n xs) (hb : ∀ g, v.ownBlock = some g -> w'.heap[g]? = w.heap[g]?) : w'.ownsRow base e size v n xs := by
 refine ⟨h.1, ?_⟩;rcases h.2 with h0 | ⟨g, cap, cur, rfl, h1, h2, h3⟩
 ·exact .inl h0
 exact .inr ⟨g, cap, cur, rfl, h1, (hb g rfl).trans h2, h3⟩
theorem JiB {w : World} {lo hi : Nat} {l : List ByteArray} {A : Addr} {c : Nat} (h : Sl_Str lo hi w l (.slice (some A) l.length c)) (hp : 0 < l.length) : ∀ j u, (l.map Value.string)[j]? = some u -> w.cell? (A.add j) = some u := by
 intro j u hu;obtain ⟨A', c', hv, h1, h2, h3⟩ := h;obtain ⟨b, o, rfl, -, -, hcell⟩ := h3 hp;simp only [Value.slice.injEq, Option.some.injEq] at hv;obtain ⟨rfl, -, -⟩ := hv;rw [List.getElem?_map] at hu;rcases hs : l[j]? with _ | s
 ·rw [hs] at hu; cases hu
 rw [hs] at hu;simp at hu;subst hu;obtain ⟨cs, -, hcs, rfl, -⟩ := hcell j s hs;have := hcs 0 (by omega);rw [Yu]
 simpa using this
theorem Uz (l : List ByteArray) : ∀ u ∈ l.map Value.string, u.oneCell' = true := by
 intro u hu;obtain ⟨s, -, rfl⟩ := List.mem_map.1 hu;rfl
theorem JiG {w : World} {lo hi : Nat} {l : List ByteArray} {v : Value} (h : Sl_Str lo hi w l v) : ∀ s ∈ l, s.size <= 9223372036854775807 := by
 intro s hs;obtain ⟨i, hi⟩ := List.getElem?_of_mem hs;obtain ⟨A, c, rfl, -, -, h3⟩ := h;obtain ⟨b, o, -, -, -, hcell⟩ := h3 (Nat.lt_of_le_of_lt (Nat.zero_le i) (List.getElem?_eq_some_iff.1 hi).1);obtain ⟨cs, -, -, -, h4⟩ := hcell i s hi;exact h4
theorem Yv {P : Program} (w : World) (t ty : TypeId) (base : Nat) (e : TypeId) (i : TypeInfo) (size : Nat) (ht : P.underlying t = some (.slice e)) (hi : P.info? e = some i)
  (v : Value) (n : Nat) (xs : List Value) (hown : w.ownsRow base e size v n xs) (c : Nat) :
  (Builtin.append_ #[t, t] ty #[v, .slice none 0 c]).run P w = .ok v w := by
 rcases hown.2 with ⟨rfl, rfl⟩ | ⟨g, cap, cur, rfl, hb, hg, hnc, _⟩
 ·simp [Builtin.append_, run_underlying ht, sizeOf, typeInfo, hi, Builtin.lenOf, Builtin.firstCells]
 simp [Builtin.append_, run_underlying ht, sizeOf, typeInfo, hi, Builtin.lenOf, Builtin.firstCells, loadCells, storeCells, hnc]
theorem Ji {P : Program} {w : World} {ops : Array Oper} {rest : List Oper} {o : Oper} {a : Act} {Q : Exit -> Act -> World -> Prop} (hgd : o.guard = none) (s x : Operand) (t : TypeId)
  (ho : o.op = .call { callee := .builtin .append, args := #[s, x], argTypes := #[t, t] }) (v u v' : Value) (w' : World) (hs : a.eval s = v) (hx : a.eval x = u)
  (hr : (Builtin.append_ #[t, t] o.type #[v, u]).run P w = .ok v' w') (h : wpList P ops Q rest (a.put o.dst v') w') : wpList P ops Q (o :: rest) a w :=
 wpList_plain hgd fun K hK => by
  unfold Oper.wp execOp;simp only [ho, resolve, invoke, builtin, Sem.run_bind, Sem.run_pure, Result.andThen_ok, List.map_toArray, List.map_cons, List.map_nil, hs, hx, hr];exact hK _ _ h
theorem WT {P : Program} {w : World} {ops : Array Oper} {rest : List Oper} {o : Oper} {a : Act} {Q : Exit -> Act -> World -> Prop} (hgd : o.guard = none) (s x : Operand) (t : TypeId)
  (ho : o.op = .call { callee := .builtin .append, args := #[s, x], argTypes := #[t, t] }) (base : Nat) (e : TypeId) (i : TypeInfo) (z : Value) (bytes : Nat) (ht : P.underlying t = some (.slice e)) (hi : P.info? e = some i) (hz : i.zero = some z)
  (hsize : i.size = 1) (hby : i.bytes = bytes) (hzs : z.cells.size = 1) (v : Value) (n : Nat) (xs : List Value) (hs : a.eval s = v) (hown : w.ownsRow base e 1 v n xs)
  (l : List ByteArray) (A : Option Addr) (c lo hi' : Nat) (hx : a.eval x = .slice A l.length c) (hl : Sl_Str lo hi' w l (.slice A l.length c)) (h63 : n + l.length <= 9223372036854775807) (hbytes : (n + l.length) * bytes <= 140737488355328) (hbase : base <= w.heap.size)
  (h : ∀ v' w', w'.ownsRow base e 1 v' (n + l.length) (xs ++ l.map Value.string) -> w.grownBy w' v.ownBlock -> (v'.ownBlock = v.ownBlock ∨ v'.ownBlock = some w.heap.size) -> wpList P ops Q rest (a.put o.dst v') w') : wpList P ops Q (o :: rest) a w := by
 by_cases hp : 0 < l.length
 ·have hl2 := hl
  obtain ⟨A', c', hv, -, -, hA⟩ := hl;obtain ⟨b, off, rfl, -⟩ := hA hp;simp only [Value.slice.injEq] at hv;obtain ⟨rfl, -, rfl⟩ := hv;exact wpList_append_own_at w hgd s x t ho base e i z 1 bytes ht hi hz hsize hby hzs (by decide) v n xs hs hown ⟨b, off, none⟩ l.length c (l.map Value.string) hx (by simp) (JiB hl2 hp) (Uz l) (by unfold maxLen; omega) hbytes hbase (fun v' w' h1 h2 _ h4 => h v' w' h1 h2 h4)
 obtain rfl : l = [] := List.eq_nil_of_length_eq_zero (by omega);rcases A with _ | ad
 ·refine Ji hgd s x t ho v _ v w hs hx (Yv w t _ base e i 1 ht hi v n xs hown c) (h v w (by simpa using hown) (World.grownBy.refl _ _) (.inl rfl))
 exact wpList_append_own_at w hgd s x t ho base e i z 1 bytes ht hi hz hsize hby hzs (by decide) v n xs hs hown ad 0 c [] hx rfl (fun j u h => by simp at h) (fun u h => by simp at h) (by unfold maxLen; omega) hbytes hbase (fun v' w' h1 h2 _ h4 => h v' w' h1 h2 h4)
theorem JV {w : World} {e : TypeId} {size base B : Nat} (hB : B = w.heap.size) (hb : base <= w.heap.size) : (w.alloc (.cells #[] e)).ownsRow base e size (.slice (some ⟨B, 0, none⟩) 0 0) 0 [] := by
 subst hB;exact World.ownsRow_made w #[] 0 hb (by decide) (by simp)
theorem JP {w : World} {base : Nat} {e : TypeId} {size : Nat} {v : Value} {n : Nat} {xs : List Value} (h : w.ownsRow base e size v n xs) : ∃ A c, v = .slice A n c := by
 rcases h.2 with ⟨rfl, rfl⟩ | ⟨g, cap, cur, rfl, _⟩
 ·exact ⟨_, _, rfl⟩
 exact ⟨_, _, rfl⟩
theorem VV {w : World} {base base' : Nat} {e e' : TypeId} {size size' : Nat} {v v' : Value} {n n' : Nat} {xs xs' : List Value} (h : w.ownsRow base e size v n xs) (h' : w.ownsRow base' e' size' v' n' xs') (he : e ≠ e') : ∀ g, v.ownBlock = some g -> v'.ownBlock ≠ some g := by
 intro g h1 h2;rcases h.2 with ⟨rfl, -⟩ | ⟨g1, cap, cur, rfl, -, hg, -⟩
 ·cases h1
 rcases h'.2 with ⟨rfl, -⟩ | ⟨g2, cap', cur', rfl, -, hg', -⟩
 ·cases h2
 simp [Value.ownBlock] at h1 h2;subst h1 h2;rw [hg] at hg';simp at hg';exact he hg'.2
theorem JaX {w : World} {base : Nat} {e : TypeId} {size : Nat} {g n cap : Nat} {xs : List Value} (h : w.ownsRow base e size (.slice (some ⟨g, 0, none⟩) n cap) n xs) : ∃ cur, w.heap[g]? = some (.cells cur e (0, 0)) /\ n <= cap /\ cap <= maxLen /\ cur.size = cap * size /\ cur.toList.take (n * size) = xs /\ base <= g := by
 rcases h.2 with ⟨h1, -⟩ | ⟨g1, cap1, cur, h1, h2, h3, h4, h5, h6, h7⟩
 ·cases h1
 simp only [Value.slice.injEq, Option.some.injEq, Addr.mk.injEq, true_and] at h1;obtain ⟨⟨rfl, -⟩, rfl⟩ := h1;exact ⟨cur, h3, h4, h5, h6, h7, h2⟩
theorem W7 {w : World} {base : Nat} {ks : List ByteArray} {v : Value} (h : w.ownsRow base 9 1 v ks.length (ks.map Value.string)) (hs : ∀ k ∈ ks, k.size <= 9223372036854775807) : Sl_Str base w.heap.size w ks v := by
 rcases h.2 with ⟨rfl, h0⟩ | ⟨g, cap, cur, rfl, hb, hg, hn, hcm, hcs, ht⟩
 ·exact ⟨none, 0, by rw [h0], by omega, by omega, fun hp => by omega⟩
 refine ⟨_, _, rfl, hn, hcm, fun hp => ⟨g, 0, rfl, hb, Ja hg, ?_⟩⟩;intro i s hi;have hil := List.getElem?_eq_some_iff.1 hi;refine ⟨[.string s], rfl, ?_, ?_⟩
 ·intro j hj
  obtain rfl : j = 0 := by omega
  have : (cur.toList.take (ks.length * 1))[i]? = (ks.map Value.string)[i]? := by rw [ht]
  rw [List.getElem?_take, if_pos (by have := hil.1; omega), Array.getElem?_toList, List.getElem?_map, hi] at this;rw [cell_of_row w g _ cur _ _ hg]
  simpa using this
 exact ⟨rfl, hs s (List.mem_of_getElem? hi)⟩
theorem Jb9 {w : World} {base : Nat} {e : TypeId} {size : Nat} {g m cap : Nat} {news : List Value} (h : w.ownsRow base e size (.slice (some ⟨g, 0, none⟩) m cap) m news) : ∀ j u, news[j]? = some u -> w.cell? ((⟨g, 0, none⟩ : Addr).add j) = some u := by
 obtain ⟨cur, hg, hn, hcm, hcs, ht, hb⟩ := JaX h;intro j u hu;have hadd : (⟨g, 0, none⟩ : Addr).add j = ⟨g, j, none⟩ := by unfold Addr.add; split <;> simp_all
 rw [hadd, cell_of_row w g j cur _ _ hg];rw [<- ht, List.getElem?_take] at hu;split at hu
 ·simpa using hu
 cases hu
theorem Vl {P : Program} (w : World) (t ty : TypeId) (base : Nat) (e : TypeId) (i : TypeInfo) (z : Value) (size bytes : Nat) (ht : P.underlying t = some (.slice e)) (hi : P.info? e = some i) (hz : i.zero = some z)
  (hsize : i.size = size) (hby : i.bytes = bytes) (hzs : z.cells.size = size) (hsz : 0 < size) (v : Value) (n : Nat) (xs : List Value) (hown : w.ownsRow base e size v n xs)
  (base' m : Nat) (news : List Value) (u : Value) (hu : w.ownsRow base' e size u m news) (h1 : ∀ x ∈ news, x.oneCell' = true) (h63 : n + m <= maxLen) (hbytes : (n + m) * bytes <= 140737488355328) (hbase : base <= w.heap.size) :
  ∃ v' w', (Builtin.append_ #[t, t] ty #[v, u]).run P w = .ok v' w' /\ w'.ownsRow base e size v' (n + m) (xs ++ news) /\ w.grownBy w' v.ownBlock /\ (v'.ownBlock = v.ownBlock ∨ v'.ownBlock = some w.heap.size) := by
 rcases hu.2 with ⟨rfl, rfl⟩ | ⟨g, cap, cur, rfl, -⟩
 ·have hx : news = [] := List.eq_nil_of_length_eq_zero (by have := hu.1; omega)
  subst hx;exact ⟨v, w, Yv w t ty base e i size ht hi v n xs hown 0, by simpa using hown, World.grownBy.refl _ _, .inl rfl⟩
 obtain ⟨v', w', hr, h2, h3, _, h5⟩ := run_append_own_at (P := P) w base t ty e i z size bytes ht hi hz hsize hby hzs hsz v n xs hown ⟨g, 0, none⟩ m cap news hu.1 (Jb9 hu) h1 h63 hbytes hbase;exact ⟨v', w', hr, h2, h3, h5⟩
theorem Up {P : Program} (w : World) (t ty : TypeId) (e : TypeId) (i : TypeInfo) (ht : P.underlying t = some (.slice e)) (hi : P.info? e = some i) (ad : Addr) (n cap : Nat) (hn : n <= cap) (A : Option Addr) (c : Nat) :
  (Builtin.append_ #[t, t] ty #[.slice (some ad) n cap, .slice A 0 c]).run P w = .ok (.slice (some ad) n cap) w := by
 rcases A with _ | a
 ·simp [Builtin.append_, run_underlying ht, sizeOf, typeInfo, hi, Builtin.lenOf, Builtin.firstCells, loadCells, storeCells, hn]
 simp [Builtin.append_, run_underlying ht, sizeOf, typeInfo, hi, Builtin.lenOf, Builtin.firstCells, loadCells, loadCellsFrom, storeCells, hn]
theorem UB {P : Program} {w : World} {ops : Array Oper} {o : Oper} {a : Act} {K : Act -> World -> Prop} {Q : Exit -> Act -> World -> Prop} {E : Prop} (hgd : o.guard = none) (s x : Operand) (t : TypeId)
  (ho : o.op = .call { callee := .builtin .append, args := #[s, x], argTypes := #[t, t] }) (v u v' : Value) (w' : World) (hs : a.eval s = v) (hx : a.eval x = u)
  (hr : (Builtin.append_ #[t, t] o.type #[v, u]).run P w = .ok v' w') (h : K (a.put o.dst v') w') : if Region.wanted o (yielded ops a.tmps) = true then Oper.wp P o a w K Q else E := by
 have hw : Region.wanted o (yielded ops a.tmps) = true := by simp [Region.wanted, hgd]
 rw [if_pos hw];unfold Oper.wp execOp;simp only [ho, resolve, invoke, builtin, Sem.run_bind, Sem.run_pure, Result.andThen_ok, List.map_toArray, List.map_cons, List.map_nil, hs, hx, hr];exact h
theorem XZ {w w' : World} {base : Nat} {e : TypeId} {size : Nat} {v : Value} {n : Nat} {xs : List Value} (h : w.ownsRow base e size v n xs) (he : w'.heap = w.heap) : w'.ownsRow base e size v n xs := Jh h (fun q _ => by rw [he])
theorem Z4 {w : World} {base : Nat} {e : TypeId} {size n c : Nat} {A : Option Addr} {xs : List Value} (h : w.ownsRow base e size (.slice A n c) n xs) : n <= c := by
 rcases h.2 with ⟨h1, rfl⟩ | ⟨g, cap, cur, h1, hb, hg, hn, hcm, hcs, ht⟩
 ·omega
 simp only [Value.slice.injEq] at h1;obtain ⟨-, -, rfl⟩ := h1;exact hn
theorem Ul {P : Program} {w : World} {ops : Array Oper} {o : Oper} {a : Act} {K : Act -> World -> Prop} {Q : Exit -> Act -> World -> Prop} {E : Prop} (hgd : o.guard = none) (s x : Operand) (t : TypeId)
  (ho : o.op = .call { callee := .builtin .append, args := #[s, x], argTypes := #[t, t] }) (base : Nat) (e : TypeId) (i : TypeInfo) (z : Value) (size bytes : Nat) (ht : P.underlying t = some (.slice e)) (hi : P.info? e = some i) (hz : i.zero = some z)
  (hsize : i.size = size) (hby : i.bytes = bytes) (hzs : z.cells.size = size) (hsz : 0 < size) (v : Value) (n : Nat) (xs : List Value) (hs : a.eval s = v) (hown : w.ownsRow base e size v n xs)
  (base' m : Nat) (news : List Value) (u : Value) (hx : a.eval x = u) (hu : w.ownsRow base' e size u m news) (h1 : ∀ x ∈ news, x.oneCell' = true) (h63 : n + m <= maxLen) (hbytes : (n + m) * bytes <= 140737488355328) (hbase : base <= w.heap.size)
  (h : ∀ v' w', w'.ownsRow base e size v' (n + m) (xs ++ news) -> w.grownBy w' v.ownBlock -> (v'.ownBlock = v.ownBlock ∨ v'.ownBlock = some w.heap.size) -> K (a.put o.dst v') w') :
  if Region.wanted o (yielded ops a.tmps) = true then Oper.wp P o a w K Q else E := by
 obtain ⟨v', w', hr, h2, h3, h4⟩ := Vl (P := P) w t o.type base e i z size bytes ht hi hz hsize hby hzs hsz v n xs hown base' m news u hu h1 h63 hbytes hbase;exact UB hgd s x t ho v u v' w' hs hx hr (h v' w' h2 h3 h4)
theorem VP {w : World} {base base' : Nat} {e : TypeId} {size : Nat} {v : Value} {n : Nat} {xs : List Value} (h : w.ownsRow base e size v n xs) (hb : base' <= base) : w.ownsRow base' e size v n xs := by
 refine ⟨h.1, ?_⟩;rcases h.2 with h0 | ⟨g, cap, cur, h1, h2, h3⟩
 ·exact .inl h0
 exact .inr ⟨g, cap, cur, h1, Nat.le_trans hb h2, h3⟩
theorem Qi {w : World} {b : Nat} {a0 a1 a2 : Value} {e : TypeId} (hr : w.heap[b]? = some (.cells #[a0, a1, a2] e (0, 0))) :
  w.cell? ⟨b, 0, none⟩ = some a0 /\ w.cell? ⟨b, 1, none⟩ = some a1 /\ w.cell? ⟨b, 2, none⟩ = some a2 /\ ∀ o, w.frozen? ⟨b, o, none⟩ = false :=
 ⟨by rw [cell_of_row _ _ _ _ _ _ hr]; rfl, by rw [cell_of_row _ _ _ _ _ _ hr]; rfl, by rw [cell_of_row _ _ _ _ _ _ hr]; rfl, fun o => QJ hr o⟩
def Jmh {D : Type} (C : D -> List Value -> Prop) (sz : Nat) (cur : Array Value) (l : List D) : Prop := ∀ i d, l[i]? = some d -> ∃ es, es.length = sz /\ (∀ j, j < sz -> cur[i * sz + j]? = es[j]?) /\ C d es
def OwnR {D : Type} (C : D -> List Value -> Prop) (sz ty : Nat) (S : Nat -> Prop) (w : World) (l : List D) (v : Value) : Prop :=
 ∃ A c, v = .slice A l.length c /\ l.length <= c /\ c <= 9223372036854775807 /\ (0 < l.length -> ∃ g cur, A = some ⟨g, 0, none⟩ /\ S g /\ w.heap[g]? = some (.cells cur ty (0, 0)) /\ Jmh C sz cur l)
theorem OwnR.toC {D : Type} {C : D -> List Value -> Prop} {sz ty lo hi : Nat} {S : Nat -> Prop} {w : World} {l : List D} {v : Value} (h : OwnR C sz ty S w l v) (hS : ∀ b, S b -> lo <= b /\ b < hi) : SlOf C sz lo hi w l v := by
 obtain ⟨A, c, rfl, h1, h2, h3⟩ := h;refine ⟨A, c, rfl, h1, h2, fun hp => ?_⟩;obtain ⟨g, cur, rfl, hg, hr, hc⟩ := h3 hp;refine ⟨g, 0, rfl, (hS g hg).1, (hS g hg).2, fun i d hd => ?_⟩;obtain ⟨es, e1, e2, e3⟩ := hc i d hd;refine ⟨es, e1, fun j hj => ?_, e3⟩;rw [cell_of_row w g _ cur _ _ hr, Nat.zero_add];exact e2 j hj
def VQ {D : Type} (enc : D -> List Value) (l : List D) : List Value := (l.map enc).flatten
def RowE {D : Type} (enc : D -> List Value) (sz : Nat) (ty : TypeId) (base : Nat) (w : World) (l : List D) (v : Value) : Prop := w.ownsRow base ty sz v l.length (VQ enc l)
theorem Jg9 {D : Type} {enc : D -> List Value} {sz : Nat} (hk : ∀ d, (enc d).length = sz) (l : List D) : ∀ es ∈ l.map enc, es.length = sz := by
 intro es h;obtain ⟨d, -, rfl⟩ := List.mem_map.1 h;exact hk d
theorem Jc4 {sz : Nat} : ∀ (css : List (List Value)) (i : Nat) (es : List Value) (j : Nat), (∀ es ∈ css, es.length = sz) -> css[i]? = some es -> j < sz -> css.flatten[i * sz + j]? = es[j]?
 | [], i, es, j, _, h, _ => by cases h
 | c :: css, 0, es, j, h6, h, hj => by
  simp at h;subst h;have := h6 c (by simp);rw [List.flatten_cons, Nat.zero_mul, Nat.zero_add, List.getElem?_append_left (by omega)]
 | c :: css, i + 1, es, j, h6, h, hj => by
  have hc := h6 c (by simp);have ih := Jc4 css i es j (fun es h => h6 es (by simp [h])) (by simpa using h) hj;rw [List.flatten_cons, List.getElem?_append_right (by rw [hc, Nat.succ_mul]; omega), <- ih];congr 1
  rw [hc, Nat.succ_mul];omega
theorem JcP {sz : Nat} : ∀ (css : List (List Value)), (∀ es ∈ css, es.length = sz) -> css.flatten.length = css.length * sz
 | [], _ => by simp
 | c :: css, h => by
  rw [List.flatten_cons, List.length_append, JcP css (fun es he => h es (by simp [he])), h c (by simp), List.length_cons, Nat.succ_mul];omega
theorem Jc8 {D : Type} {enc : D -> List Value} {sz : Nat} (hk : ∀ d, (enc d).length = sz) (l : List D) : (VQ enc l).length = l.length * sz := by
 unfold VQ;rw [JcP (l.map enc) (Jg9 hk l), List.length_map]
theorem Jfk {D : Type} {enc : D -> List Value} {sz : Nat} (hk : ∀ d, (enc d).length = sz) {l : List D} {i : Nat} {d : D} (h : l[i]? = some d) {j : Nat} (hj : j < sz) : (VQ enc l)[i * sz + j]? = (enc d)[j]? :=
 Jc4 (l.map enc) i (enc d) j (Jg9 hk l) (by rw [List.getElem?_map, h]; rfl) hj
theorem JiY {D : Type} (enc : D -> List Value) (l m : List D) : VQ enc (l ++ m) = VQ enc l ++ VQ enc m := by simp [VQ]
theorem RowE.form {D : Type} {enc : D -> List Value} {sz ty base : Nat} {w : World} {l : List D} {v : Value} (h : RowE enc sz ty base w l v) : ∃ A c, v = .slice A l.length c := JP h
theorem RowE.carry {D : Type} {enc : D -> List Value} {sz ty base : Nat} {w w' : World} {l : List D} {v : Value} (h : RowE enc sz ty base w l v) (hs : ∀ q, v.ownBlock = some q -> w'.heap[q]? = w.heap[q]?) : RowE enc sz ty base w' l v := Jh h hs
theorem RowE.less {D : Type} {enc : D -> List Value} {sz ty base base' : Nat} {w : World} {l : List D} {v : Value} (h : RowE enc sz ty base w l v) (hb : base' <= base) : RowE enc sz ty base' w l v := VP h hb
theorem RowE.below {D : Type} {enc : D -> List Value} {sz ty base : Nat} {w w' : World} {l : List D} {v : Value} (h : RowE enc sz ty base w l v) (hb : Below w.heap.size w w') : RowE enc sz ty base w' l v := h.carry (fun q hq => hb.block q (World.ownsRow.lt h q hq).2)
theorem RowE.row {D : Type} {enc : D -> List Value} {sz ty base : Nat} {w : World} {l : List D} {v : Value} (hk : ∀ d, (enc d).length = sz) (h : RowE enc sz ty base w l v) (hp : 0 < l.length) : ∃ g cap cur, v = .slice (some ⟨g, 0, none⟩) l.length cap /\ base <= g /\ w.heap[g]? = some (.cells cur ty (0, 0)) /\ l.length <= cap /\ cap <= 9223372036854775807 /\ l.length * sz <= cur.size /\ ∀ i d, l[i]? = some d -> ∀ j, j < sz -> cur[i * sz + j]? = (enc d)[j]? := by
 obtain ⟨hl, h1⟩ := h;rcases h1 with ⟨rfl, h0⟩ | ⟨g, cap, cur, rfl, hb, hg, hn, hcm, hcs, ht⟩
 ·omega
 refine ⟨g, cap, cur, rfl, hb, hg, hn, by unfold maxLen at hcm; omega, by rw [hcs]; exact Nat.mul_le_mul_right _ hn, fun i d hd j hj => ?_⟩;have hi : i < l.length := (List.getElem?_eq_some_iff.1 hd).1;have h2 := Nat.mul_le_mul_right sz hi;rw [Nat.succ_mul] at h2;have : (cur.toList.take (l.length * sz))[i * sz + j]? = (VQ enc l)[i * sz + j]? := by rw [ht]
 rw [List.getElem?_take, if_pos (by omega), Array.getElem?_toList, Jfk hk hd hj] at this;exact this
theorem RowE.own {D : Type} {enc : D -> List Value} {sz ty base : Nat} {w : World} {l : List D} {v : Value} {C : D -> List Value -> Prop} (hk : ∀ d, (enc d).length = sz) (h : RowE enc sz ty base w l v) (hC : ∀ d ∈ l, C d (enc d)) : OwnR C sz ty (fun b => v.ownBlock = some b) w l v := by
 by_cases hp : 0 < l.length
 ·obtain ⟨g, cap, cur, rfl, -, hg, h1, h2, -, h4⟩ := h.row hk hp
  exact ⟨_, cap, rfl, h1, h2, fun _ => ⟨g, cur, rfl, rfl, hg, fun i d hd => ⟨enc d, hk d, h4 i d hd, hC d (List.mem_of_getElem? hd)⟩⟩⟩
 rcases h.2 with ⟨rfl, h0⟩ | ⟨g, cap, cur, rfl, hb, hg, hn, hcm, hcs, ht⟩
 ·exact ⟨none, 0, by rw [h0], by omega, by decide, fun h => absurd h hp⟩
 exact ⟨_, cap, rfl, hn, by unfold maxLen at hcm; omega, fun h => absurd h hp⟩
theorem RowE.sl {D : Type} {enc : D -> List Value} {sz ty base : Nat} {w : World} {l : List D} {v : Value} {C : D -> List Value -> Prop} (hk : ∀ d, (enc d).length = sz) (h : RowE enc sz ty base w l v) (hC : ∀ d ∈ l, C d (enc d)) : SlOf C sz base w.heap.size w l v :=
 (h.own hk hC).toC (fun b hb => World.ownsRow.lt h b hb)
theorem JkD {D : Type} {enc : D -> List Value} (h1 : ∀ d, ∀ v ∈ enc d, v.oneCell' = true) (l : List D) : ∀ u ∈ VQ enc l, u.oneCell' = true := by
 intro u hu;unfold VQ at hu;obtain ⟨es, h2, h3⟩ := List.mem_flatten.1 hu;obtain ⟨d, -, rfl⟩ := List.mem_map.1 h2;exact h1 d u h3
theorem Jlb {D : Type} {enc : D -> List Value} {sz lo hi : Nat} {w : World} {l : List D} {b o c : Nat} {C : D -> List Value -> Prop} (hk : ∀ d, (enc d).length = sz) (hs : 0 < sz) (h : SlOf C sz lo hi w l (.slice (some ⟨b, o, none⟩) l.length c)) (hC : ∀ d es, C d es -> es = enc d) (hp : 0 < l.length) : ∀ j u, (VQ enc l)[j]? = some u -> w.cell? ((⟨b, o, none⟩ : Addr).add j) = some u := by
 obtain ⟨A, c', hv, -, -, hA⟩ := h;obtain ⟨b', o', rfl, -, -, hc⟩ := hA hp;simp only [Value.slice.injEq, Option.some.injEq, Addr.mk.injEq, and_true] at hv;obtain ⟨⟨rfl, rfl⟩, -⟩ := hv;intro j u hu;have hadd : (⟨b, o, none⟩ : Addr).add j = ⟨b, o + j, none⟩ := by unfold Addr.add; split <;> simp_all
 have hjl : j < l.length * sz := by
  have := (List.getElem?_eq_some_iff.1 hu).1
  rwa [Jc8 hk] at this
 have hi : j / sz < l.length := by rwa [Nat.div_lt_iff_lt_mul hs]
 obtain ⟨d, hd⟩ := Jg hi;obtain ⟨es, -, h2, h3⟩ := hc (j / sz) d hd;obtain rfl := hC d es h3;have hj : j = j / sz * sz + j % sz := by rw [Nat.mul_comm]; exact (Nat.div_add_mod j sz).symm
 have h4 := h2 (j % sz) (Nat.mod_lt _ hs);have h5 := Jfk hk hd (Nat.mod_lt j hs);rw [<- hj] at h5;rw [hadd];rw [Nat.add_assoc, <- hj] at h4;rw [h4, <- h5, hu]
theorem Us {P : Program} {D : Type} {enc : D -> List Value} {C : D -> List Value -> Prop} (w : World) (t ty : TypeId) (base : Nat) (e : TypeId) (i : TypeInfo) (z : Value) (sz bytes : Nat) (ht : P.underlying t = some (.slice e)) (hi : P.info? e = some i) (hz : i.zero = some z)
  (hsize : i.size = sz) (hby : i.bytes = bytes) (hzs : z.cells.size = sz) (hsz : 0 < sz) (hk : ∀ d, (enc d).length = sz) (h1 : ∀ d, ∀ v ∈ enc d, v.oneCell' = true) (hC : ∀ d es, C d es -> es = enc d) (v : Value) (n : Nat) (xs : List D) (hn : xs.length = n) (hown : RowE enc sz e base w xs v)
  (l : List D) (A : Option Addr) (m c lo hi' : Nat) (hm : l.length = m) (hl : SlOf C sz lo hi' w l (.slice A m c)) (h63 : n + m <= maxLen) (hbytes : (n + m) * bytes <= 140737488355328) (hbase : base <= w.heap.size) :
  ∃ v' w', (Builtin.append_ #[t, t] ty #[v, .slice A m c]).run P w = .ok v' w' /\ RowE enc sz e base w' (xs ++ l) v' /\ w.grownBy w' v.ownBlock /\ (v'.ownBlock = v.ownBlock ∨ v'.ownBlock = some w.heap.size) := by
 subst hn hm
 have fin : ∀ v' w', w'.ownsRow base e sz v' (xs.length + l.length) (VQ enc xs ++ VQ enc l) -> RowE enc sz e base w' (xs ++ l) v' := fun v' w' h => by
  unfold RowE;rw [JiY, List.length_append];exact h
 by_cases hp : 0 < l.length
 ·have hl2 := hl
  obtain ⟨A', c', hv, -, -, hA⟩ := hl;obtain ⟨b, off, rfl, -⟩ := hA hp;simp only [Value.slice.injEq] at hv;obtain ⟨rfl, -, rfl⟩ := hv;obtain ⟨v', w', hr, h2, h3, _, h5⟩ := run_append_own_at (P := P) w base t ty e i z sz bytes ht hi hz hsize hby hzs hsz v xs.length (VQ enc xs) hown ⟨b, off, none⟩ l.length c (VQ enc l) (Jc8 hk l) (Jlb hk hsz hl2 hC hp) (JkD h1 l) h63 hbytes hbase
  exact ⟨v', w', hr, fin v' w' h2, h3, h5⟩
 obtain rfl : l = [] := List.eq_nil_of_length_eq_zero (by omega);rcases A with _ | ad
 ·exact ⟨v, w, Yv w t ty base e i sz ht hi v xs.length (VQ enc xs) hown c, by simpa using hown, World.grownBy.refl _ _, .inl rfl⟩
 obtain ⟨v', w', hr, h2, h3, _, h5⟩ := run_append_own_at (P := P) w base t ty e i z sz bytes ht hi hz hsize hby hzs hsz v xs.length (VQ enc xs) hown ad 0 c [] (by simp) (fun j u h => by simp at h) (fun u h => by simp at h) h63 hbytes hbase;exact ⟨v', w', hr, fin v' w' (by simpa [VQ] using h2), h3, h5⟩
def JU (a b : ByteArray) : Bool := Op.bytesLess a.toList b.toList
def Jch (n : Int) (cs : List Value) : Prop := cs = [.int .i64 n]
theorem JjU {D : Type} {C : D -> List Value -> Prop} {enc : D -> List Value} {sz : Nat} (hk : ∀ d, (enc d).length = sz) (w : World) (d : D) (hC : C d (enc d)) (ty : TypeId) (cs : Array Value) (hc : cs = (enc d).toArray) :
  SlOf C sz w.heap.size (w.alloc (.cells cs ty)).heap.size (w.alloc (.cells cs ty)) [d] (.slice (some ⟨w.heap.size, 0, none⟩) 1 1) := by
 subst hc;refine ⟨_, _, rfl, Nat.le_refl _, by decide, fun _ => ⟨w.heap.size, 0, rfl, Nat.le_refl _, by simp, fun i d' hd => ⟨enc d, hk d, fun j hj => ?_, ?_⟩⟩⟩
 ·have hi : i = 0 := by
   have := (List.getElem?_eq_some_iff.1 hd).1;simp at this;exact this
  subst hi;rw [cell_of_row _ _ _ _ _ _ (heap_alloc_new w _)];simp
 have hi : i = 0 := by
  have := (List.getElem?_eq_some_iff.1 hd).1;simp at this;exact this
 subst hi;simp at hd;subst hd;exact hC
def rf (s : ByteArray) : Nat -> Nat -> Option (List Nat)
 | 0, _ => some []
 | f + 1, i => if i < s.size then (if Utf8.decode s i = (65533, 1) then none else (rf s f (i + (Utf8.decode s i).2)).map ((Utf8.decode s i).1 :: ·)) else some []
theorem JkQ (s : ByteArray) (f i : Nat) : rf s (f + 1) i = if i < s.size then (if Utf8.decode s i = (65533, 1) then none else (rf s f (i + (Utf8.decode s i).2)).map ((Utf8.decode s i).1 :: ·)) else some [] := rfl
theorem Jht (s : ByteArray) : ∀ (f g i : Nat), s.size - i <= f -> s.size - i <= g -> rf s f i = rf s g i
 | 0, 0, _, _, _ => rfl
 | 0, g + 1, i, h, _ => by
  have : ¬ i < s.size := by omega
  simp [rf, this]
 | f + 1, 0, i, _, h => by
  have : ¬ i < s.size := by omega
  simp [rf, this]
 | f + 1, g + 1, i, h1, h2 => by
  unfold rf;by_cases hi : i < s.size
  ·rw [if_pos hi, if_pos hi]
   obtain ⟨-, d2, d3⟩ := JT s i hi;rw [Jht s f g (i + (Utf8.decode s i).2) (by omega) (by omega)]
  rw [if_neg hi, if_neg hi]
def JH (s : ByteArray) (i : Nat) : Option (List Nat) := rf s (s.size - i) i
theorem QE {s : ByteArray} {i : Nat} (h : ¬ i < s.size) : JH s i = some [] := by
 unfold JH;rw [show s.size - i = 0 by omega];rfl
theorem QQ {s : ByteArray} {i : Nat} (h : i < s.size) (hd : Utf8.decode s i = (65533, 1)) : JH s i = none := by
 unfold JH;obtain ⟨f, hf⟩ : ∃ f, s.size - i = f + 1 := ⟨s.size - i - 1, by omega⟩
 rw [hf];unfold rf;rw [if_pos h, if_pos hd]
theorem Qu {s : ByteArray} {i : Nat} (h : i < s.size) (hd : Utf8.decode s i ≠ (65533, 1)) : JH s i = (JH s (i + (Utf8.decode s i).2)).map ((Utf8.decode s i).1 :: ·) := by
 obtain ⟨-, d2, d3⟩ := JT s i h;unfold JH;obtain ⟨f, hf⟩ : ∃ f, s.size - i = f + 1 := ⟨s.size - i - 1, by omega⟩
 rw [hf, JkQ, if_pos h, if_neg hd, Jht s f (s.size - (i + (Utf8.decode s i).2)) _ (by omega) (by omega)]
def Qt (s : ByteArray) : Bool := (JH s 0).isSome
def bf (s : ByteArray) : Nat -> Nat -> Int
 | 0, _ => -1
 | f + 1, i => if i < s.size then (if Utf8.decode s i = (65533, 1) then (i : Int) else bf s f (i + (Utf8.decode s i).2)) else -1
theorem JkJ (s : ByteArray) (f i : Nat) : bf s (f + 1) i = if i < s.size then (if Utf8.decode s i = (65533, 1) then (i : Int) else bf s f (i + (Utf8.decode s i).2)) else -1 := rfl
theorem Jhi (s : ByteArray) : ∀ (f g i : Nat), s.size - i <= f -> s.size - i <= g -> bf s f i = bf s g i
 | 0, 0, _, _, _ => rfl
 | 0, g + 1, i, h, _ => by
  have : ¬ i < s.size := by omega
  simp [bf, this]
 | f + 1, 0, i, _, h => by
  have : ¬ i < s.size := by omega
  simp [bf, this]
 | f + 1, g + 1, i, h1, h2 => by
  unfold bf;by_cases hi : i < s.size
  ·rw [if_pos hi, if_pos hi]
   obtain ⟨-, d2, d3⟩ := JT s i hi;rw [Jhi s f g (i + (Utf8.decode s i).2) (by omega) (by omega)]
  rw [if_neg hi, if_neg hi]
def QO (s : ByteArray) (i : Nat) : Int := bf s (s.size - i) i
theorem Wj {s : ByteArray} {i : Nat} (h : ¬ i < s.size) : QO s i = -1 := by
 unfold QO;rw [show s.size - i = 0 by omega];rfl
theorem Jac {s : ByteArray} {i : Nat} (h : i < s.size) (hd : Utf8.decode s i = (65533, 1)) : QO s i = i := by
 unfold QO;obtain ⟨f, hf⟩ : ∃ f, s.size - i = f + 1 := ⟨s.size - i - 1, by omega⟩
 rw [hf];unfold bf;rw [if_pos h, if_pos hd]
theorem Zd {s : ByteArray} {i : Nat} (h : i < s.size) (hd : Utf8.decode s i ≠ (65533, 1)) : QO s i = QO s (i + (Utf8.decode s i).2) := by
 obtain ⟨-, d2, d3⟩ := JT s i h;unfold QO;obtain ⟨f, hf⟩ : ∃ f, s.size - i = f + 1 := ⟨s.size - i - 1, by omega⟩
 rw [hf, JkJ, if_pos h, if_neg hd, Jhi s f (s.size - (i + (Utf8.decode s i).2)) _ (by omega) (by omega)]
theorem XY {s : ByteArray} {i : Nat} (h : i < s.size) (hd : Utf8.decode s i = (65533, 1)) : JI s i = (0, -1) := UH s i h hd
theorem WD {s : ByteArray} {i : Nat} (h : i < s.size) (hd : Utf8.decode s i ≠ (65533, 1)) : JI s i = (((Utf8.decode s i).1 : Int), ((i + (Utf8.decode s i).2 : Nat) : Int)) := by
 unfold JI;rw [if_pos h, if_neg hd]
theorem Qm (s : ByteArray) (i : Nat) (hi : i < s.size) : Lib.decodeL (s.data.toList.drop i) = Utf8.decode s i := by
 have he : (⟨(s.data.toList.drop i).toArray⟩ : ByteArray) = s.extract i s.size := by
  apply ByteArray.ext;rw [ByteArray.data_extract];apply Array.toList_inj.1;rw [Array.toList_extract, List.extract_eq_take_drop];show s.data.toList.drop i = _
  rw [List.take_of_length_le (by rw [List.length_drop, Array.length_toList]; exact Nat.le_refl _)]
 unfold Lib.decodeL;rw [he];have hz : (s.extract i s.size).size = s.size - i := by simp
 rw [Lib.decode_at, Lib.decode_at, hz];simp only [Jar s i _ (Nat.le_of_lt hi), Nat.zero_add, Nat.sub_zero, Nat.add_zero]
theorem JeR (s : ByteArray) : ∀ (n i : Nat), s.size - i <= n -> Lib.validD (s.data.toList.drop i) = (JH s i).isSome
 | 0, i, h => by
  rw [List.drop_eq_nil_of_le (by rw [Array.length_toList]; show s.size <= i; omega), Lib.validD_nil, QE (by omega)];rfl
 | n + 1, i, h => by
  by_cases hi : i < s.size
  ·have hne : s.data.toList.drop i ≠ [] := by
    intro e;have := congrArg List.length e;rw [List.length_drop, Array.length_toList] at this;have h2 : s.data.size = s.size := rfl;simp at this;omega
   rw [Lib.validD_step _ hne, Qm s i hi];by_cases hd : Utf8.decode s i = (65533, 1)
   ·rw [if_pos (by rw [hd]; exact ⟨rfl, rfl⟩), QQ hi hd]
    rfl
   obtain ⟨-, d2, d3⟩ := JT s i hi;rw [if_neg (fun e => hd (Prod.ext e.1 e.2)), Qu hi hd, List.drop_drop, JeR s n (i + (Utf8.decode s i).2) (by omega)];cases JH s (i + (Utf8.decode s i).2) <;> rfl
  rw [List.drop_eq_nil_of_le (by rw [Array.length_toList]; show s.size <= i; omega), Lib.validD_nil, QE hi];rfl
theorem ZB (s : ByteArray) (w : World) (hs : s.size <= 9223372036854775807) (hT : Tabs w) :
  Calls Tryz.prog 222 #[.string s] w fun e w' => e = .returned (.bool (Qt s)) /\ Below w.heap.size w w' := by
 have hv := JeR s s.size 0 (by omega);rw [List.drop_zero] at hv;have h : Calls Tryz.prog 256 #[.string s] w fun e w' => e = .returned (.bool (Lib.validD s.data.toList)) /\ Below w.heap.size w w' := Any.utf8_ValidString JkS s w hs hT
 rw [hv] at h;have H := Lib.hid h;clear h hv hT;go_enter Tryz.func222, Tryz.ntmps222
 go_wp2_with fail
 refine H.out.mono ?_;rintro e w1 ⟨rfl, hb⟩;go_wp2_with fail
 go_ret
 exact ⟨rfl, hb⟩
def JdW (n : Int) : List Value := [.int .i64 n]
theorem Jcf (n : Int) : (JdW n).length = 1 := rfl
theorem Jkr (n : Int) : ∀ v ∈ JdW n, v.oneCell' = true := by intro u hu; simp [JdW] at hu; subst hu; rfl
def C_Z (n : Int) (es : List Value) : Prop := es = JdW n
theorem Jl0 (n : Int) (es : List Value) (h : C_Z n es) : es = JdW n := h
end Go.Proofs.YtohcpifekcehjaaGreatDoor
