/- Steps to FnCrossed. No conditions. -/
import Derived.Test.YtohcpifekcehjaaGreatDoorKfcr3
import Derived.Lib.MapLaws
import Derived.Deep.CutRange
import Derived.Deep.CutBlock
import Derived.Deep.RegionLaw
import Derived.Test.YtohcpifekcehjaaGreatDoorKfcr1
import Derived.Test.YtohcpifekcehjaaGreatDoorKfcr2
import Derived.Deep.AppendLies
import Derived.OwnWalk
set_option maxHeartbeats 16000000
set_option maxRecDepth 20000
namespace Go.Proofs.YtohcpifekcehjaaGreatDoor
open Go.RowKit Go.Lib
def figU (x : Nat) : UInt8 := if x < 10 then UInt8.ofNat (48 + x) else UInt8.ofNat (87 + x)
def qN (n : Nat) : List UInt8 :=
 if n = 34 ∨ n = 92 then [92, UInt8.ofNat n] else if n = 8 then [92, 98] else if n = 12 then [92, 102] else if n = 10 then [92, 110] else if n = 13 then [92, 114] else if n = 9 then [92, 116]
 else if n < 32 then [92, 117, 48, 48, figU (n / 16), figU (n % 16)] else [UInt8.ofNat n]
def qB (c : UInt8) : List UInt8 := qN c.toNat
def qR (r : Nat) : List UInt8 := if r < 128 then qN r else (textB r).data.toList
def quoteB (s : ByteArray) : ByteArray := if utf8B s then ⟨(34 :: s.data.toList.flatMap qB ++ [34]).toArray⟩ else ⟨#[]⟩
theorem qB_high {c : UInt8} (h : 128 <= c.toNat) : qB c = [c] := by
 unfold qB qN;rw [if_neg (by omega), if_neg (by omega), if_neg (by omega), if_neg (by omega), if_neg (by omega), if_neg (by omega), if_neg (by omega)];simp
theorem qN_len (n : Nat) : (qN n).length <= 6 := by
 unfold qN;by_cases h0 : n = 34 ∨ n = 92
 ·rw [if_pos h0]; simp
 rw [if_neg h0];by_cases h1 : n = 8
 ·rw [if_pos h1]; simp
 rw [if_neg h1];by_cases h2 : n = 12
 ·rw [if_pos h2]; simp
 rw [if_neg h2];by_cases h3 : n = 10
 ·rw [if_pos h3]; simp
 rw [if_neg h3];by_cases h4 : n = 13
 ·rw [if_pos h4]; simp
 rw [if_neg h4];by_cases h5 : n = 9
 ·rw [if_pos h5]; simp
 rw [if_neg h5];by_cases h6 : n < 32
 ·rw [if_pos h6]; simp
 rw [if_neg h6];simp
theorem text_len (r : Nat) : (textB r).data.toList.length <= 4 := by
 have h := congrArg List.length (textB_list r);rw [List.length_map] at h;rw [h];unfold encN4;repeat' split
 all_goals simp
theorem qR_len (r : Nat) : (qR r).length <= 6 := by
 unfold qR;split
 ·exact qN_len r
 ·have := text_len r
  omega
theorem bytes_inj : ∀ {a b : List UInt8}, a.map UInt8.toNat = b.map UInt8.toNat -> a = b
 | [], [], _ => rfl
 | [], _ :: _, h => by cases h
 | _ :: _, [], h => by cases h
 | x :: a, y :: b, h => by
  simp only [List.map_cons, List.cons.injEq] at h;rw [UInt8.toNat_inj.1 h.1, bytes_inj h.2]
theorem text_eq {r : Nat} {l : List UInt8} (h : encN4 r = l.map UInt8.toNat) : (textB r).data.toList = l := bytes_inj (by rw [textB_list, h])
theorem decode_way (l : List UInt8) (hne : l ≠ []) (hv : decodeL l ≠ (65533, 1)) :
  (∃ b : UInt8, (decodeL l).1 = b.toNat /\ b.toNat < 128 /\ l.take (decodeL l).2 = [b]) ∨ (128 <= (decodeL l).1 /\ (textB (decodeL l).1).data.toList = l.take (decodeL l).2 /\ ∀ x ∈ l.take (decodeL l).2, 128 <= x.toNat) := by
 have hl : 0 < l.length := List.length_pos_iff.2 hne;rw [decodeL_N] at hv ⊢;have k0 := (l.getD 0 0).toNat_lt;have k1 := (l.getD 1 0).toNat_lt;have k2 := (l.getD 2 0).toNat_lt;have k3 := (l.getD 3 0).toNat_lt;rcases decodeN_shape l.length (l.getD 0 0).toNat (l.getD 1 0).toNat (l.getD 2 0).toNat (l.getD 3 0).toNat with ⟨c, e⟩ | ⟨c1, c2, c3, cv, e⟩ | ⟨c1, c2, c3, c4, cv, cs, e⟩ | ⟨c1, c2, c3, c4, c5, cv, cs, e⟩ | e
 ·rw [e]
  exact .inl ⟨l.getD 0 0, rfl, c, takeA l hl⟩
 ·rw [e]
  refine .inr ⟨cv, ?_, ?_⟩
  ·show (textB ((l.getD 0 0).toNat % 32 * 64 + (l.getD 1 0).toNat % 64 : Nat)).data.toList = l.take 2
   refine text_eq ?_;rw [takeB l c2];unfold encN4;rw [if_neg (by omega), if_neg (by omega), if_pos (by omega)];simp only [List.map_cons, List.map_nil, List.cons.injEq, and_true];omega
  ·intro x hx
   rw [show l.take (((l.getD 0 0).toNat % 32 * 64 + (l.getD 1 0).toNat % 64, 2) : Nat × Nat).2 = l.take 2 from rfl, takeB l c2] at hx;simp only [List.mem_cons, List.mem_nil_iff, or_false] at hx;rcases hx with rfl | rfl <;> omega
 ·rw [e]
  refine .inr ⟨by show 128 <= (l.getD 0 0).toNat % 16 * 4096 + (l.getD 1 0).toNat % 64 * 64 + (l.getD 2 0).toNat % 64; omega, ?_, ?_⟩
  ·show (textB ((l.getD 0 0).toNat % 16 * 4096 + (l.getD 1 0).toNat % 64 * 64 + (l.getD 2 0).toNat % 64 : Nat)).data.toList = l.take 3
   refine text_eq ?_;rw [takeC l c2];unfold encN4;rw [if_neg (by omega), if_neg (by omega), if_neg (by omega), if_pos (by omega)];simp only [List.map_cons, List.map_nil, List.cons.injEq, and_true];omega
  ·intro x hx
   rw [show l.take (((l.getD 0 0).toNat % 16 * 4096 + (l.getD 1 0).toNat % 64 * 64 + (l.getD 2 0).toNat % 64, 3) : Nat × Nat).2 = l.take 3 from rfl, takeC l c2] at hx;simp only [List.mem_cons, List.mem_nil_iff, or_false] at hx;rcases hx with rfl | rfl | rfl <;> omega
 ·rw [e]
  refine .inr ⟨by show 128 <= (l.getD 0 0).toNat % 8 * 262144 + (l.getD 1 0).toNat % 64 * 4096 + (l.getD 2 0).toNat % 64 * 64 + (l.getD 3 0).toNat % 64; omega, ?_, ?_⟩
  ·show (textB ((l.getD 0 0).toNat % 8 * 262144 + (l.getD 1 0).toNat % 64 * 4096 + (l.getD 2 0).toNat % 64 * 64 + (l.getD 3 0).toNat % 64 : Nat)).data.toList = l.take 4
   refine text_eq ?_;rw [takeD l c2];unfold encN4;rw [if_neg (by omega), if_neg (by omega), if_neg (by omega), if_neg (by omega)];simp only [List.map_cons, List.map_nil, List.cons.injEq, and_true];omega
  ·intro x hx
   rw [show l.take (((l.getD 0 0).toNat % 8 * 262144 + (l.getD 1 0).toNat % 64 * 4096 + (l.getD 2 0).toNat % 64 * 64 + (l.getD 3 0).toNat % 64, 4) : Nat × Nat).2 = l.take 4 from rfl, takeD l c2] at hx;simp only [List.mem_cons, List.mem_nil_iff, or_false] at hx;rcases hx with rfl | rfl | rfl | rfl <;> omega
 ·exact absurd e hv
theorem flat_high : ∀ {l : List UInt8}, (∀ x ∈ l, 128 <= x.toNat) -> l.flatMap qB = l
 | [], _ => rfl
 | x :: l, h => by
  rw [List.flatMap_cons, qB_high (h x (by simp)), flat_high (fun y hy => h y (by simp [hy]))];rfl
theorem quote_runes (s : ByteArray) : ∀ (f i : Nat) (rs : List Nat), s.size - i <= f -> runesAt s i = some rs -> (s.data.toList.drop i).flatMap qB = rs.flatMap qR
 | f, i, rs, hf, h => by
  by_cases hi : i < s.size
  ·by_cases hd : Utf8.decode s i = (65533, 1)
   ·rw [runesAt_bad hi hd] at h; cases h
   ·rw [runesAt_step hi hd] at h
    have hdl := decodeL_drop s i hi;have hl : s.data.toList.length = s.size := Array.length_toList
    have hne : s.data.toList.drop i ≠ [] := fun e => by
     have := congrArg List.length e;rw [List.length_drop, hl] at this;simp at this;omega
    have hk : 1 <= (Utf8.decode s i).2 := by have := decode_fits s i hi; omega
    rcases hr : runesAt s (i + (Utf8.decode s i).2) with _ | rs'
    ·rw [hr] at h; cases h
    ·rw [hr] at h
     obtain rfl := Option.some.inj h;cases f with
     | zero => omega
     | succ f =>
      have ih := quote_runes s f (i + (Utf8.decode s i).2) rs' (by omega) hr
      have hs : s.data.toList.drop i = (s.data.toList.drop i).take (Utf8.decode s i).2 ++ s.data.toList.drop (i + (Utf8.decode s i).2) := by
       rw [<- List.drop_drop, List.take_append_drop]
      rw [hs, List.flatMap_append, List.flatMap_cons, ih];congr 1
      rw [<- hdl];rcases decode_way _ hne (by rw [hdl]; exact hd) with ⟨b, h1, h2, h3⟩ | ⟨h1, h2, h3⟩
      ·rw [h3, h1]
       unfold qR;rw [if_pos h2];simp [qB]
      ·unfold qR
       rw [if_neg (by omega), flat_high h3, h2]
  ·rw [runesAt_end hi] at h
   obtain rfl := Option.some.inj h;rw [List.drop_of_length_le (by rw [Array.length_toList]; exact Nat.le_of_not_lt hi)];rfl
theorem quoteB_runes {s : ByteArray} {rs : List Nat} (h : runesAt s 0 = some rs) : quoteB s = ⟨(34 :: rs.flatMap qR ++ [34]).toArray⟩ := by
 have h1 := quote_runes s _ 0 rs (Nat.le_refl _) h;rw [List.drop_zero] at h1;unfold quoteB utf8B;rw [h, h1];rfl
theorem quoteB_none {s : ByteArray} (h : runesAt s 0 = none) : quoteB s = ⟨#[]⟩ := by unfold quoteB utf8B; rw [h]; rfl
theorem own_on {w wr w' : World} {e : TypeId} {sz n : Nat} {v : Value} {xs : List Value} (h : wr.ownsRow w.heap.size e sz v n xs) (_ : Below w.heap.size w w') (hb : Below wr.heap.size wr w') : w'.ownsRow w.heap.size e sz v n xs :=
 ownsRow_carry h (fun q hq => hb.block q (World.ownsRow.lt h q hq).2)
theorem c_impl_ReadQuoted (s : ByteArray) (i : Nat) (w : World) (hs : s.size <= 1048576) (hi : i <= 1048576) (hV : CTab w) (hT : Tabs w) :
  Calls Tryz.prog 180 #[.string s, .int .i64 i] w fun e w' => e = .returned (.tuple #[.string (quotB s i).1, .int .i64 (quotB s i).2]) /\ Below w.heap.size w w' := by
 have HVT := hid (And.intro hV hT);clear hV hT;by_cases hlt : (i : Int) < s.size
 ·have hii : i < s.size := by omega
  have h1 : decide ((s.size : Int) <= i) = false := decide_eq_false (by omega);have h2 : decide (s.size <= i) = false := decide_eq_false (by omega);have h3 : decide ((i : Int) < 0) = false := decide_eq_false (by omega);have hz0 : (0 : Int) <= i := by omega
  obtain ⟨b, hb⟩ : ∃ b : Nat, b = (s.get! i).toNat := ⟨_, rfl⟩
  have hx : (s[i]'hii).toNat = b := by rw [hb]; exact get_at s i hii
  have hby : byteI s i = b := by unfold byteI; rw [hb]
  clear hb;by_cases e34 : (b : Int) = 34
  ·have HQ := hid (show quotB s i = quotG s (i + 1) [] by unfold quotB; rw [if_pos hii, hby, if_pos e34])
   obtain rfl : b = 34 := by omega
   clear e34;obtain ⟨i0, hi, hz0, hz1, hz2⟩ := info_parts (show (Tryz.prog.info? 5).map (fun i => (i.zero, i.size, i.bytes)) = some (some (.int .u8 0), 1, 1) from by kernel_rfl);go_enter Tryz.func180, Tryz.ntmps180
   go_wp2_with fail
   go_loopw [1, 6] (fun s1 s6 wr => ∃ (j : Nat) (M : List UInt8) (A : Option Addr) (c n : Nat), j <= s.size /\ s1 = .int .i64 j /\ n = M.length /\ s6 = .slice A n c /\ wr.ownsRow w.heap.size 5 1 (.slice A n c) n (Lib.strCells ⟨M.toArray⟩) /\ n <= 4 * j /\ quotB s i = quotG s j M /\ Below w.heap.size w wr) (fun s1 _ _ => s.size - (Lib.intOf s1).toNat)
   case atStart => exact ⟨i + 1, [], some ⟨w.heap.size, 0, none⟩, 0, 0, by omega, by go_num, rfl, rfl, own_empty rfl (Nat.le_refl _), by omega, HQ.out, bel⟩
   case round =>
    obtain ⟨j, M, A, c, n, hjl, rfl, hn, rfl, hown, hnj, hq, hbr⟩ := hrel;have HO := hid hown;have HG := hid hq;have HBr := hid hbr;have HNn := hid hn;clear hown hq hbr hn hx hby;by_cases hlt2 : (j : Int) < s.size
    ·have hjj : j < s.size := by omega
     have hj0 : (0 : Int) <= j := by omega
     obtain ⟨b, hb⟩ : ∃ b : Nat, b = (s.get! j).toNat := ⟨_, rfl⟩
     have hx : (s[j]'hjj).toNat = b := by rw [hb]; exact get_at s j hjj
     have hby : byteI s j = b := by unfold byteI; rw [hb]
     have HS := hid (HG.out.trans (quotG_at hjj));rw [hby] at HS;have HY := hid hby;clear hb hby;by_cases e34 : (b : Int) = 34
     ·have Hf := hid (show quotB s i = (⟨M.toArray⟩, (j : Int) + 1) by rw [HS.out, if_pos e34])
      obtain rfl : b = 34 := by omega
      clear e34;have hcv := own_string HNn.out HO.out;go_wp2_with fail
      go_ret2
      exact ⟨by rw [Hf.out]; rfl, HBr.out⟩
     ·have f34 : ((b : Int) == 34) = false := beq_eq_false_iff_ne.2 e34
      have HT := hid (show quotB s i = if (quotN s j).2 < 0 then (⟨#[]⟩, -1) else quotG s (quotN s j).2.toNat (M ++ (textB (quotN s j).1).data.toList) by rw [HS.out, if_neg e34]);by_cases e92 : (b : Int) = 92
      ·obtain rfl : b = 92 := by omega
       clear e92 e34 f34;obtain ⟨p1, hp1⟩ : ∃ p, p = j + 1 := ⟨_, rfl⟩
       have q1 : (j : Int) + 1 = p1 := by omega
       obtain ⟨x, hxx⟩ : ∃ x, x = (escB s p1).1 := ⟨_, rfl⟩
       obtain ⟨y, hyy⟩ : ∃ y, y = (escB s p1).2 := ⟨_, rfl⟩
       have hN : quotN s j = (x, y) := by unfold quotN; rw [HY.out, if_pos (show ((92 : Nat) : Int) = 92 from rfl), <- hp1, hxx, hyy]
       rw [hN] at HT;obtain ⟨hn1, hn2, hn3⟩ := escB_next s p1;rw [<- hxx] at hn2 hn3;rw [<- hyy] at hn1;have HXY := hid (And.intro hxx hyy);have HN1 := hid hn1;clear hxx hyy hN hn1 hp1;by_cases y0 : y < 0
       ·have Hf := hid (show quotB s i = (⟨#[]⟩, -1) by rw [HT.out]; exact if_pos y0)
        go_wp2_with fail
        refine (c_impl_readEscape s p1 _ hs (by omega) (HVT.out.1.below HBr.out) (HVT.out.2.below HBr.out)).mono ?_;rintro e w1 ⟨rfl, hb⟩;have HB1 := hid (HBr.out.trans (hb.mono HBr.out.size));rw [<- HXY.out.1, <- HXY.out.2];go_wp2_with fail
        go_ret2
        exact ⟨by rw [Hf.out]; rfl, HB1.out⟩
       ·obtain ⟨q, rfl⟩ : ∃ q : Nat, y = q := ⟨y.toNat, by omega⟩
        have hjq : j < q := by have := HN1.out; omega
        have hqs : q <= s.size := by have := HN1.out; omega
        have HE := hid (show quotB s i = quotG s q (M ++ (textB x).data.toList) by rw [HT.out]; exact if_neg y0);have d0 : decide ((q : Int) < 0) = false := decide_eq_false y0;clear y0;go_wp2_with fail
        refine (c_impl_readEscape s p1 _ hs (by omega) (HVT.out.1.below HBr.out) (HVT.out.2.below HBr.out)).mono ?_;rintro e w2 ⟨rfl, hb2⟩;have B2 : Below w.heap.size w w2 := HBr.out.trans (hb2.mono (HBr.out).size);have hR2 := own_on HO.out B2 hb2;rw [<- HXY.out.1, <- HXY.out.2];go_wp2_with fail
        refine (c_impl_RuneText x _ (by omega)).mono ?_;rintro e w9 ⟨rfl, rfl⟩;have htz := textB_size x;have hM4 : n + (textB x).size <= 4 * q := by omega
        have HB2 := hid B2;have hsz2 := B2.size;clear hb2 B2;go_wp2_with (at_builtin; refine wpList_append_own_string _ rfl (.tmp 56) (.tmp 58) 28 9 rfl w.heap.size 5 i0 Tryz.underlying28 Tryz.underlying9 hi hz0 hz1 hz2 _ n _ rfl hR2 (textB x) rfl (by simp only [maxLen]; omega) (by omega) hsz2 ?_; intro v5 w5 hR5 hg5 _; obtain ⟨A5, c5, rfl⟩ := own_form hR5; rw [strCells_list] at hR5)
        have HB5 := Below.grown HB2.out hg5 hsz2 (fun k hk => (World.ownsRow.lt hR2 k hk).1);go_roundw
        case rel => exact ⟨q, M ++ (textB x).data.toList, A5, c5, n + (textB x).size, by omega, rfl, by rw [List.length_append, HNn.out, Array.length_toList]; rfl, rfl, hR5, hM4, HE.out, HB5⟩
        case measure => simp [Lib.intOf]; omega
      ·have f92 : ((b : Int) == 92) = false := beq_eq_false_iff_ne.2 e92
       obtain ⟨x, hxx⟩ : ∃ x, x = (runeB s j).1 := ⟨_, rfl⟩
       obtain ⟨y, hyy⟩ : ∃ y, y = (runeB s j).2 := ⟨_, rfl⟩
       have hN : quotN s j = if x < 32 then (0, -1) else (x, y) := by unfold quotN; rw [HY.out, if_neg e92, hxx, hyy]
       rw [hN] at HT;obtain ⟨hn1, hn2, hn3⟩ := runeB_next s j;rw [<- hxx] at hn2 hn3;rw [<- hyy] at hn1;have HXY := hid (And.intro hxx hyy);have HN1 := hid hn1;clear hxx hyy hN hn1 e92 e34;by_cases x32 : x < 32
       ·rw [if_pos x32] at HT
        have Hf := hid (show quotB s i = (⟨#[]⟩, -1) by rw [HT.out]; rfl);go_wp2_with fail
        refine (c_impl_RuneAt s j _ (by omega) (by omega) (HVT.out.2.below HBr.out)).mono ?_;rintro e w1 ⟨rfl, hb⟩;have HB1 := hid (HBr.out.trans (hb.mono HBr.out.size));rw [<- HXY.out.1, <- HXY.out.2];go_wp2_with fail
        go_ret2
        exact ⟨by rw [Hf.out]; rfl, HB1.out⟩
       ·rw [if_neg x32] at HT
        have d32 : decide (x < 32) = false := decide_eq_false x32;clear x32;by_cases y0 : y < 0
        ·have Hf := hid (show quotB s i = (⟨#[]⟩, -1) by rw [HT.out]; exact if_pos y0)
         go_wp2_with fail
         refine (c_impl_RuneAt s j _ (by omega) (by omega) (HVT.out.2.below HBr.out)).mono ?_;rintro e w1 ⟨rfl, hb⟩;have HB1 := hid (HBr.out.trans (hb.mono HBr.out.size));rw [<- HXY.out.1, <- HXY.out.2];go_wp2_with fail
         go_ret2
         exact ⟨by rw [Hf.out]; rfl, HB1.out⟩
        ·obtain ⟨q, rfl⟩ : ∃ q : Nat, y = q := ⟨y.toNat, by omega⟩
         have hjq : j < q := by have := HN1.out; omega
         have hqs : q <= s.size := by have := HN1.out; omega
         have HE := hid (show quotB s i = quotG s q (M ++ (textB x).data.toList) by rw [HT.out]; exact if_neg y0);have d0 : decide ((q : Int) < 0) = false := decide_eq_false y0;clear y0;go_wp2_with fail
         refine (c_impl_RuneAt s j _ (by omega) (by omega) (HVT.out.2.below HBr.out)).mono ?_;rintro e w2 ⟨rfl, hb2⟩;have B2 : Below w.heap.size w w2 := HBr.out.trans (hb2.mono HBr.out.size);have hR2 := own_on HO.out B2 hb2;rw [<- HXY.out.1, <- HXY.out.2];go_wp2_with fail
         refine (c_impl_RuneText x _ (by omega)).mono ?_;rintro e w9 ⟨rfl, rfl⟩;have htz := textB_size x;have hM4 : n + (textB x).size <= 4 * q := by omega
         have HB2 := hid B2;have hsz2 := B2.size;clear hb2 B2;go_wp2_with (at_builtin; refine wpList_append_own_string _ rfl (.tmp 56) (.tmp 58) 28 9 rfl w.heap.size 5 i0 Tryz.underlying28 Tryz.underlying9 hi hz0 hz1 hz2 _ n _ rfl hR2 (textB x) rfl (by simp only [maxLen]; omega) (by omega) hsz2 ?_; intro v5 w5 hR5 hg5 _; obtain ⟨A5, c5, rfl⟩ := own_form hR5; rw [strCells_list] at hR5)
         have HB5 := Below.grown HB2.out hg5 hsz2 (fun k hk => (World.ownsRow.lt hR2 k hk).1);go_roundw
         case rel => exact ⟨q, M ++ (textB x).data.toList, A5, c5, n + (textB x).size, by omega, rfl, by rw [List.length_append, HNn.out, Array.length_toList]; rfl, rfl, hR5, hM4, HE.out, HB5⟩
         case measure => simp [Lib.intOf]; omega
    ·have Hf := hid (show quotB s i = (⟨#[]⟩, -1) by rw [HG.out]; exact quotG_end (by omega))
     go_wp2_with fail
     go_ret2
     exact ⟨by rw [Hf.out]; rfl, HBr.out⟩
  ·have HQ := hid (show quotB s i = (⟨#[]⟩, -1) by unfold quotB; rw [if_pos hii, hby, if_neg e34])
   have f34 : ((b : Int) == 34) = false := beq_eq_false_iff_ne.2 e34;have n34 : ((b : Int) != 34) = true := bne_iff_ne.2 e34;clear e34;go_enter Tryz.func180, Tryz.ntmps180
   go_wp2_with fail
   go_ret2
   exact ⟨by rw [HQ.out]; rfl, Below.refl _ _⟩
 ·have HQ := hid (show quotB s i = (⟨#[]⟩, -1) by unfold quotB; rw [if_neg (by omega)])
  have hz0 : (0 : Int) <= i := by omega
  go_enter Tryz.func180, Tryz.ntmps180
  go_wp2_with fail
  go_ret2
  exact ⟨by rw [HQ.out]; rfl, Below.refl _ _⟩
def BufB (base : Nat) (w : World) (M : List UInt8) (v : Value) : Prop := w.ownsRow base 5 1 v M.length (Lib.strCells ⟨M.toArray⟩)
theorem BufB.below {base : Nat} {w w' : World} {M : List UInt8} {v : Value} (h : BufB base w M v) (hb : Below w.heap.size w w') : BufB base w' M v := ownsRow_carry h (fun q hq => hb.block q (World.ownsRow.lt h q hq).2)
theorem cells_one (l : List UInt8) : ∀ x ∈ Lib.strCells ⟨l.toArray⟩, x.oneCell' = true := by
 intro x hx;unfold Lib.strCells at hx;rw [List.mem_map] at hx;obtain ⟨b, -, rfl⟩ := hx;rfl
theorem cells_len (l : List UInt8) : (Lib.strCells ⟨l.toArray⟩).length = l.length := by unfold Lib.strCells; rw [List.length_map]
theorem own_lit {w : World} {bs : List UInt8} {k : Nat} (hk : k = bs.length) (hm : k <= 1048576) {cs : List Value} (hcs : cs = Lib.strCells ⟨bs.toArray⟩) :
  (w.alloc (.cells cs.toArray 5)).ownsRow w.heap.size 5 1 (.slice (some ⟨w.heap.size, 0, none⟩) k k) k (Lib.strCells ⟨bs.toArray⟩) := by
 have hl := cells_len bs;subst hcs hk;exact ⟨by rw [hl, Nat.mul_one], .inr ⟨w.heap.size, bs.length, (Lib.strCells ⟨bs.toArray⟩).toArray, rfl, Nat.le_refl _, heap_alloc_new w _, Nat.le_refl _, by unfold maxLen; omega, by rw [List.size_toArray, hl]; omega, by rw [List.take_of_length_le (by simp [hl])]⟩⟩
theorem run_buf (wx : World) (base n c k : Nat) (A : Option Addr) (M bs : List UInt8) (cs : List Value) (hn : n = M.length) (h : BufB base wx M (.slice A n c)) (hk : k = bs.length) (hcs : cs = Lib.strCells ⟨bs.toArray⟩) (hsz : n + k <= 1073741824) (hk2 : k <= 1048576) (hbase : base <= wx.heap.size) :
  ∃ (A' : Option Addr) (c' : Nat) (w' : World), (Builtin.append_ #[28, 28] 28 #[.slice A n c, .slice (some ⟨wx.heap.size, 0, none⟩) k k]).run Tryz.prog (wx.alloc (.cells cs.toArray 5)) = .ok (.slice A' (n + k) c') w' /\ BufB base w' (M ++ bs) (.slice A' (n + k) c') /\ Below base wx w' := by
 obtain ⟨i0, hi, hz0, hz1, hz2⟩ := info_parts (show (Tryz.prog.info? 5).map (fun i => (i.zero, i.size, i.bytes)) = some (some (.int .u8 0), 1, 1) from by kernel_rfl);unfold BufB at h;rw [<- hn] at h;have hb : Below wx.heap.size wx (wx.alloc (.cells cs.toArray 5)) := bel;have h' := ownsRow_carry h (fun q hq => hb.block q (World.ownsRow.lt h q hq).2);obtain ⟨v', w', hr, h2, h3, h5⟩ := run_append_row (P := Tryz.prog) (wx.alloc (.cells cs.toArray 5)) 28 28 base 5 i0 (.int .u8 0) 1 1 Tryz.underlying28 hi hz0 hz1 hz2 rfl (by decide) (.slice A n c) n _ h' wx.heap.size k _ _ (own_lit hk hk2 hcs) (cells_one bs) (by unfold maxLen; omega) (by omega) (by simp; omega)
 obtain ⟨A', c', rfl⟩ := own_form h2;refine ⟨A', c', w', hr, ?_, Below.grown (hb.mono hbase) h3 (by simp; omega) (fun q hq => (World.ownsRow.lt h q hq).1)⟩;unfold BufB;rw [List.length_append, <- hn, <- hk];rw [strCells_list] at h2;exact h2
def escK (b : Nat) : Int := if b = 8 then 0 else if b = 12 then 1 else if b = 10 then 2 else if b = 13 then 3 else if b = 9 then 4 else -1
theorem idx_escK : ∀ i : Fin 256, Lib.indexByte [8, 12, 10, 13, 9] (UInt8.ofNat i.val) = escK i.val := by decide
theorem c_IndexEscK (b : Nat) (hb : b < 256) (w : World) : Calls Tryz.prog 130 #[.string { data := #[8, 12, 10, 13, 9] }, .int .u8 b] w fun e w' => e = .returned (.int .i64 (escK b)) /\ w = w' := by
 have h := c_strings_IndexByte { data := #[8, 12, 10, 13, 9] } (UInt8.ofNat b) w;have e1 : (UInt8.ofNat b).toNat = b := by rw [UInt8.toNat_ofNat']; exact Nat.mod_eq_of_lt hb
 rw [e1] at h;exact h.mono (fun _ _ h => ⟨h.1.trans (congrArg (fun z => Ending.returned (Value.int .i64 z)) (idx_escK ⟨b, hb⟩)), h.2⟩)
theorem hexd : ∀ (x : Nat) (h : x < 16), (({ data := #[48, 49, 50, 51, 52, 53, 54, 55, 56, 57, 97, 98, 99, 100, 101, 102] } : ByteArray)[x]'h).toNat = (figU x).toNat := by
 intro x h;have h16 : x = 0 ∨ x = 1 ∨ x = 2 ∨ x = 3 ∨ x = 4 ∨ x = 5 ∨ x = 6 ∨ x = 7 ∨ x = 8 ∨ x = 9 ∨ x = 10 ∨ x = 11 ∨ x = 12 ∨ x = 13 ∨ x = 14 ∨ x = 15 := by omega
 rcases h16 with rfl | rfl | rfl | rfl | rfl | rfl | rfl | rfl | rfl | rfl | rfl | rfl | rfl | rfl | rfl | rfl <;> rfl
theorem take_flat {s : ByteArray} {k : Nat} {c : UInt8} (h : s.data.toList[k]? = some c) : (s.data.toList.take (k + 1)).flatMap qB = (s.data.toList.take k).flatMap qB ++ qB c := by
 rw [List.take_add_one, h];simp
theorem c_impl_Quoted (s : ByteArray) (w : World) (hs : s.size <= 1048576) (hT : Tabs w) :
  Calls Tryz.prog 163 #[.string s] w fun e w' => e = .returned (.string (quoteB s)) /\ Below w.heap.size w w' := by
 have HU := hid (c_impl_Utf8Ok s w (by omega) hT);obtain ⟨r, hr⟩ : ∃ r, r = quoteB s := ⟨_, rfl⟩
 rw [<- hr];clear hT;rcases hu : utf8B s with _ | _
 ·have HR := hid (show r = ⟨#[]⟩ by rw [hr]; unfold quoteB; rw [hu]; rfl)
  clear hr;go_enter Tryz.func163, Tryz.ntmps163
  go_wp2_with (go_at_call 222; refine HU.out.mono ?_; rintro e w1 ⟨rfl, hb⟩; (first | (have hcu2 := Cum.join hcu hb; (try clear hcu); (try clear hc); (try clear hfz); (try clear hsz); (try clear hs0); (try clear hs1); (try clear hs2); (try clear hs3); (try clear hs4); ) | have hcu2 := Cum.mk hb); have hcu := hcu2; clear hcu2; obtain ⟨hc, hfz⟩ := bcell hcu.h; have hsz := hcu.h.size; (try simp at hsz); (try have hs0 := lt_of_succ_le hsz); (try (have hs1 := lt_pred hsz; (try (have hs2 := lt_pred hs1; (try (have hs3 := lt_pred hs2; (try have hs4 := lt_pred hs3))))))))
  go_ret
  exact ⟨by rw [HR.out]; rfl, bel⟩
 ·have HR := hid (show r = ⟨(34 :: s.data.toList.flatMap qB ++ [34]).toArray⟩ by rw [hr]; unfold quoteB; rw [hu]; rfl)
  clear hr;go_enter Tryz.func163, Tryz.ntmps163
  go_wp2_with fail
  refine HU.out.mono ?_;rintro e w1 ⟨rfl, hb1⟩;have HB1 := hid hb1;clear hb1;go_wp2_with fail
  go_loopw [3, 13] (fun s3 v wr => ∃ (k : Nat) (M : List UInt8) (A : Option Addr) (n c : Nat), k <= s.size /\ v = .int .i64 k /\ M = 34 :: (s.data.toList.take k).flatMap qB /\ n = M.length /\ n <= 6 * k + 1 /\ s3 = .slice A n c /\ BufB w.heap.size wr M (.slice A n c) /\ Below w.heap.size w wr) (fun _ v _ => s.size - (Lib.intOf v).toNat)
  case atStart => exact ⟨0, [34], some ⟨w1.heap.size, 0, none⟩, 1, 1, Nat.zero_le _, rfl, rfl, rfl, by omega, rfl, own_less (own_lit (bs := [34]) (k := 1) rfl (by decide) rfl) HB1.out.size, HB1.out.trans (Below.mono bel HB1.out.size)⟩
  case round =>
   obtain ⟨k, M, A, n, c, hk, rfl, hM, hn, hn6, rfl, hbuf, hbr⟩ := hrel;have HM := hid hM;have HN := hid hn;have HBf := hid hbuf;have HBr := hid hbr;have hws := hbr.size;clear hM hn hbuf hbr;by_cases hlt : k < s.size
   ·have hk0 : (0 : Int) <= k := by omega
    have hk1 : (k : Int) < s.size := by omega
    obtain ⟨b, hb⟩ : ∃ b : Nat, b = (s.get! k).toNat := ⟨_, rfl⟩
    have hx : (s[k]'hlt).toNat = b := by rw [hb]; exact get_at s k hlt
    have hb256 : b < 256 := by rw [<- hx]; exact UInt8.toNat_lt _
    have HQ := hid (show (s.data.toList.take (k + 1)).flatMap qB = (s.data.toList.take k).flatMap qB ++ qN b by
     rw [take_flat (c := s[k]'hlt) (by rw [Array.getElem?_toList]; exact Array.getElem?_eq_getElem hlt), <- hx]; rfl)
    have hql := qN_len b;clear hb;obtain ⟨m, hm⟩ : ∃ m, m = (qN b).length := ⟨_, rfl⟩
    rw [<- hm] at hql;have HMm := hid hm;clear hm;go_upto_block 1 with fail
    go_cut [3] from 15 to 55 (fun s3 wx => ∃ (A' : Option Addr) (c' : Nat), s3 = .slice A' (n + m) c' /\ BufB w.heap.size wx (M ++ qN b) (.slice A' (n + m) c') /\ Below w.heap.size w wx)
    case first =>
     by_cases e34 : b = 34 ∨ b = 92
     ·have f1 : ((b : Int) == 34) = true ∨ ((b : Int) == 34) = false /\ ((b : Int) == 92) = true := by
       rcases e34 with rfl | rfl
       ·exact .inl rfl
       ·exact .inr ⟨rfl, rfl⟩
      rcases f1 with f1 | ⟨f1, f2⟩
      all_goals
       obtain ⟨A', c', w2, hr2, hb2, hbb2⟩ := run_buf wr w.heap.size n c 2 A M ([92, UInt8.ofNat b]) [.int .u8 92, .int .u8 (b : Int)] HN.out HBf.out rfl (by simp [Lib.strCells, Nat.mod_eq_of_lt hb256]) (by omega) (by decide) hws;have HB2 := hid (And.intro hb2 (HBr.out.trans hbb2));have HQn := hid (show qN b = [92, UInt8.ofNat b] from by unfold qN; rw [if_pos e34]);have hm2 : m = 2 := by rw [HMm.out, HQn.out]; rfl
       subst hm2;clear hb2 hbb2;go_wp2_with (first | (go_at_call 130; refine (c_IndexEscK b hb256 _).mono ?_; rintro e w9 ⟨rfl, rfl⟩) | (at_builtin; refine wpList_append_of rfl (.tmp 32) (.tmp 34) 28 rfl _ _ _ w2 rfl rfl hr2 ?_))
       go_meet
       exact ⟨A', c', rfl, by rw [HQn.out]; exact HB2.out.1, HB2.out.2⟩
     ·have f1 : ((b : Int) == 34) = false := beq_eq_false_iff_ne.2 (by omega)
      have f2 : ((b : Int) == 92) = false := beq_eq_false_iff_ne.2 (by omega);by_cases e8 : b = 8 ∨ b = 12 ∨ b = 10 ∨ b = 13 ∨ b = 9
      ·skip
       rcases e8 with rfl | rfl | rfl | rfl | rfl
       focus
        obtain ⟨A', c', w2, hr2, hb2, hbb2⟩ := run_buf wr w.heap.size n c 2 A M ([92, 98]) [.int .u8 92, .int .u8 98] HN.out HBf.out rfl rfl (by omega) (by decide) hws;have HB2 := hid (And.intro hb2 (HBr.out.trans hbb2));have HQn := hid (show qN 8 = [92, 98] from rfl);have hm2 : m = 2 := by rw [HMm.out, HQn.out]; rfl
        subst hm2;have HK := hid (show escK 8 = 0 from rfl);clear hb2 hbb2 e34;go_wp2_with (first | (go_at_call 130; refine (c_IndexEscK 8 hb256 _).mono ?_; rintro e w9 ⟨rfl, rfl⟩; rw [HK.out]) | (at_builtin; refine wpList_append_of rfl (.tmp 39) (.tmp 42) 28 rfl _ _ _ w2 rfl rfl hr2 ?_))
       rotate_left
       focus
        obtain ⟨A', c', w2, hr2, hb2, hbb2⟩ := run_buf wr w.heap.size n c 2 A M ([92, 102]) [.int .u8 92, .int .u8 102] HN.out HBf.out rfl rfl (by omega) (by decide) hws;have HB2 := hid (And.intro hb2 (HBr.out.trans hbb2));have HQn := hid (show qN 12 = [92, 102] from rfl);have hm2 : m = 2 := by rw [HMm.out, HQn.out]; rfl
        subst hm2;have HK := hid (show escK 12 = 1 from rfl);clear hb2 hbb2 e34;go_wp2_with (first | (go_at_call 130; refine (c_IndexEscK 12 hb256 _).mono ?_; rintro e w9 ⟨rfl, rfl⟩; rw [HK.out]) | (at_builtin; refine wpList_append_of rfl (.tmp 39) (.tmp 42) 28 rfl _ _ _ w2 rfl rfl hr2 ?_))
       rotate_left
       focus
        obtain ⟨A', c', w2, hr2, hb2, hbb2⟩ := run_buf wr w.heap.size n c 2 A M ([92, 110]) [.int .u8 92, .int .u8 110] HN.out HBf.out rfl rfl (by omega) (by decide) hws;have HB2 := hid (And.intro hb2 (HBr.out.trans hbb2));have HQn := hid (show qN 10 = [92, 110] from rfl);have hm2 : m = 2 := by rw [HMm.out, HQn.out]; rfl
        subst hm2;have HK := hid (show escK 10 = 2 from rfl);clear hb2 hbb2 e34;go_wp2_with (first | (go_at_call 130; refine (c_IndexEscK 10 hb256 _).mono ?_; rintro e w9 ⟨rfl, rfl⟩; rw [HK.out]) | (at_builtin; refine wpList_append_of rfl (.tmp 39) (.tmp 42) 28 rfl _ _ _ w2 rfl rfl hr2 ?_))
       rotate_left
       focus
        obtain ⟨A', c', w2, hr2, hb2, hbb2⟩ := run_buf wr w.heap.size n c 2 A M ([92, 114]) [.int .u8 92, .int .u8 114] HN.out HBf.out rfl rfl (by omega) (by decide) hws;have HB2 := hid (And.intro hb2 (HBr.out.trans hbb2));have HQn := hid (show qN 13 = [92, 114] from rfl);have hm2 : m = 2 := by rw [HMm.out, HQn.out]; rfl
        subst hm2;have HK := hid (show escK 13 = 3 from rfl);clear hb2 hbb2 e34;go_wp2_with (first | (go_at_call 130; refine (c_IndexEscK 13 hb256 _).mono ?_; rintro e w9 ⟨rfl, rfl⟩; rw [HK.out]) | (at_builtin; refine wpList_append_of rfl (.tmp 39) (.tmp 42) 28 rfl _ _ _ w2 rfl rfl hr2 ?_))
       rotate_left
       focus
        obtain ⟨A', c', w2, hr2, hb2, hbb2⟩ := run_buf wr w.heap.size n c 2 A M ([92, 116]) [.int .u8 92, .int .u8 116] HN.out HBf.out rfl rfl (by omega) (by decide) hws;have HB2 := hid (And.intro hb2 (HBr.out.trans hbb2));have HQn := hid (show qN 9 = [92, 116] from rfl);have hm2 : m = 2 := by rw [HMm.out, HQn.out]; rfl
        subst hm2;have HK := hid (show escK 9 = 4 from rfl);clear hb2 hbb2 e34;go_wp2_with (first | (go_at_call 130; refine (c_IndexEscK 9 hb256 _).mono ?_; rintro e w9 ⟨rfl, rfl⟩; rw [HK.out]) | (at_builtin; refine wpList_append_of rfl (.tmp 39) (.tmp 42) 28 rfl _ _ _ w2 rfl rfl hr2 ?_))
       rotate_left
       all_goals
        go_meet
        exact ⟨A', c', rfl, by rw [HQn.out]; exact HB2.out.1, HB2.out.2⟩
      ·have HK := hid (show escK b = -1 by unfold escK; rw [if_neg (by omega), if_neg (by omega), if_neg (by omega), if_neg (by omega), if_neg (by omega)])
       by_cases e32 : b < 32
       ·have f3 : decide ((b : Int) < 32) = true := decide_eq_true (by omega)
        obtain ⟨x, hx1⟩ : ∃ x : Nat, x = b / 16 := ⟨_, rfl⟩
        obtain ⟨y, hy1⟩ : ∃ y : Nat, y = b % 16 := ⟨_, rfl⟩
        have hx2 : (b : Int) / 16 = x := by omega
        have hy2 : (b : Int) % 16 = y := by omega
        have hy4 : (b : Int).tmod 16 = y := by rw [Int.tmod_eq_emod_of_nonneg (by omega)]; omega
        have hx3 : x < 16 := by omega
        have hy3 : y < 16 := by omega
        have hz1 : (0 : Int) <= x := by omega
        have hz2 : (0 : Int) <= y := by omega
        have hz3 : (x : Int) < 16 := by omega
        have hz4 : (y : Int) < 16 := by omega
        have hwx : IntKind.u8.wrap (x : Int) = x := by rw [IntKind.wrap_u8]; omega
        have hwy : IntKind.u8.wrap (y : Int) = y := by rw [IntKind.wrap_u8]; omega
        have hsx : x < ({ data := #[48, 49, 50, 51, 52, 53, 54, 55, 56, 57, 97, 98, 99, 100, 101, 102] } : ByteArray).size := hx3;have hsy : y < ({ data := #[48, 49, 50, 51, 52, 53, 54, 55, 56, 57, 97, 98, 99, 100, 101, 102] } : ByteArray).size := hy3;obtain ⟨A', c', w2, hr2, hb2, hbb2⟩ := run_buf wr.drew w.heap.size n c 6 A M [92, 117, 48, 48, figU x, figU y] [.int .u8 92, .int .u8 117, .int .u8 48, .int .u8 48, .int .u8 ((({ data := #[48, 49, 50, 51, 52, 53, 54, 55, 56, 57, 97, 98, 99, 100, 101, 102] } : ByteArray)[x]'(hsx)).toNat : Nat), .int .u8 ((({ data := #[48, 49, 50, 51, 52, 53, 54, 55, 56, 57, 97, 98, 99, 100, 101, 102] } : ByteArray)[y]'(hsy)).toNat : Nat)] HN.out (HBf.out.below (Below.refl _ _).drew) rfl (by rw [hexd x hx3, hexd y hy3]; rfl) (by omega) (by decide) hws
        have HB2 := hid (And.intro hb2 ((HBr.out.trans (Below.mono (Below.refl _ _).drew HBr.out.size)).trans hbb2));have HQn := hid (show qN b = [92, 117, 48, 48, figU x, figU y] by unfold qN; rw [if_neg e34, if_neg (by omega), if_neg (by omega), if_neg (by omega), if_neg (by omega), if_neg (by omega), if_pos e32, hx1, hy1]);have hm2 : m = 6 := by rw [HMm.out, HQn.out]; rfl
        subst hm2;clear hx1 hy1 hb2 hbb2;go_wp2_with (first | (go_at_call 130; refine (c_IndexEscK _ hb256 _).mono ?_; rintro e w9 ⟨rfl, rfl⟩; rw [HK.out]))
        go_region_law (first | (refine step_append_of rfl (.tmp 47) (.tmp 54) 28 rfl _ _ _ w2 rfl rfl hr2 ?_))
        all_goals
         (try go_wp2_with fail)
         go_meet
         exact ⟨A', c', rfl, by rw [HQn.out]; exact HB2.out.1, HB2.out.2⟩
       ·have f3 : decide ((b : Int) < 32) = false := decide_eq_false (by omega)
        obtain ⟨A', c', w2, hr2, hb2, hbb2⟩ := run_buf wr w.heap.size n c 1 A M ([UInt8.ofNat b]) [.int .u8 (b : Int)] HN.out HBf.out rfl (by simp [Lib.strCells, Nat.mod_eq_of_lt hb256]) (by omega) (by decide) hws;have HB2 := hid (And.intro hb2 (HBr.out.trans hbb2));have HQn := hid (show qN b = [UInt8.ofNat b] from by unfold qN; rw [if_neg e34, if_neg (by omega), if_neg (by omega), if_neg (by omega), if_neg (by omega), if_neg (by omega), if_neg e32])
        have hm2 : m = 1 := by rw [HMm.out, HQn.out]; rfl
        subst hm2;clear hb2 hbb2;go_wp2_with (first | (go_at_call 130; refine (c_IndexEscK b hb256 _).mono ?_; rintro e w9 ⟨rfl, rfl⟩; rw [HK.out]) | (at_builtin; refine wpList_append_of rfl (.tmp 21) (.tmp 23) 28 rfl _ _ _ w2 rfl rfl hr2 ?_))
        go_meet
        exact ⟨A', c', rfl, by rw [HQn.out]; exact HB2.out.1, HB2.out.2⟩
    case rest =>
     obtain ⟨A', c', rfl, hbf, hbb⟩ := hcut;have HB' := hid hbf;have HX := hid (show M ++ qN b = 34 :: (s.data.toList.take (k + 1)).flatMap qB by rw [HM.out, HQ.out]; rfl);clear hbf hx;go_wp2_with fail
     go_roundw
     case rel => exact ⟨k + 1, M ++ qN b, A', n + m, c', by omega, by go_num, HX.out, by rw [List.length_append, HN.out, HMm.out], by omega, rfl, HB'.out, hbb⟩
     case measure => simp [Lib.intOf]; omega
   ·obtain rfl : k = s.size := by omega
    have HX := hid (show r = ⟨(M ++ [34]).toArray⟩ by rw [HR.out, HM.out, List.take_of_length_le (by rw [Array.length_toList]; exact Nat.le_refl _)]);obtain ⟨A', c', w2, hr2, hb2, hbb2⟩ := run_buf wr w.heap.size n c 1 A M [34] [.int .u8 34] HN.out HBf.out rfl rfl (by omega) (by decide) hws;have hn1 : n + 1 = (M ++ [34]).length := by rw [List.length_append, <- HN.out]; rfl
    have hcv := own_string hn1 (show w2.ownsRow w.heap.size 5 1 (.slice A' (n + 1) c') (n + 1) (Lib.strCells ⟨(M ++ [34]).toArray⟩) from hn1 ▸ hb2);have HN1 := hid hn1;clear hn1 hb2;go_wp2_with (at_builtin; refine wpList_append_of rfl (.tmp 57) (.tmp 58) 28 rfl _ _ _ w2 rfl rfl hr2 ?_)
    go_ret
    exact ⟨by rw [HX.out]; rfl, HBr.out.trans hbb2⟩
theorem fig_nat (x : Nat) (h : x < 16) : ((figU x).toNat : Int) = if x < 10 then 48 + (x : Int) else 87 + (x : Int) := by
 have h16 : x = 0 ∨ x = 1 ∨ x = 2 ∨ x = 3 ∨ x = 4 ∨ x = 5 ∨ x = 6 ∨ x = 7 ∨ x = 8 ∨ x = 9 ∨ x = 10 ∨ x = 11 ∨ x = 12 ∨ x = 13 ∨ x = 14 ∨ x = 15 := by omega
 rcases h16 with rfl | rfl | rfl | rfl | rfl | rfl | rfl | rfl | rfl | rfl | rfl | rfl | rfl | rfl | rfl | rfl <;> rfl
theorem c_figure16 (x : Nat) (w : World) (h : x < 16) : Calls Tryz.prog 218 #[.int .i64 (x : Nat)] w fun e w' => e = .returned (.int .u8 ((figU x).toNat : Nat)) /\ w = w' := by
 have hf := fig_nat x h;by_cases h10 : x < 10
 focus
  rw [if_pos h10] at hf;have HF := hid hf;have d1 : decide ((x : Int) < 10) = true := decide_eq_true (by omega);have d2 : decide (x < 10) = true := decide_eq_true h10
 rotate_left
 focus
  rw [if_neg h10] at hf;have HF := hid hf;have d1 : decide ((x : Int) < 10) = false := decide_eq_false (by omega);have d2 : decide (x < 10) = false := decide_eq_false h10
 rotate_left
 all_goals
  clear hf h10;go_enter Tryz.func218, Tryz.ntmps218
  go_wp2_with fail
  go_ret
  exact ⟨by rw [HF.out]; go_num, rfl⟩
theorem text_low {r : Nat} (h : r < 128) : (textB r).data.toList = [UInt8.ofNat r] := by
 refine text_eq ?_;unfold encN4;rw [if_neg (by omega), if_pos h];simp [Nat.mod_eq_of_lt (show r < 256 by omega)]
theorem qR_plain {r : Nat} (h0 : ¬ (r = 34 ∨ r = 92)) (h1 : ¬ r < 32) : qR r = (textB r).data.toList := by
 unfold qR;by_cases h : r < 128
 ·rw [if_pos h, text_low h]
  unfold qN;rw [if_neg h0, if_neg (by omega), if_neg (by omega), if_neg (by omega), if_neg (by omega), if_neg (by omega), if_neg h1]
 ·rw [if_neg h]
theorem qR_low {r : Nat} (h : r < 128) : qR r = qN r := by unfold qR; rw [if_pos h]
theorem rune_bound {s : ByteArray} : ∀ (f i : Nat) (rs : List Nat), s.size - i <= f -> runesAt s i = some rs -> rs.length + i <= s.size ∨ rs = []
 | f, i, rs, hf, h => by
  by_cases hi : i < s.size
  ·by_cases hd : Utf8.decode s i = (65533, 1)
   ·rw [runesAt_bad hi hd] at h; cases h
   ·rw [runesAt_step hi hd] at h
    have hk := decode_fits s i hi;rcases hr : runesAt s (i + (Utf8.decode s i).2) with _ | rs'
    ·rw [hr] at h; cases h
    ·rw [hr] at h
     obtain rfl := Option.some.inj h;cases f with
     | zero => omega
     | succ f =>
      rcases rune_bound f (i + (Utf8.decode s i).2) rs' (by omega) hr with h1 | rfl
      ·exact .inl (by simp only [List.length_cons]; omega)
      ·exact .inl (by simp only [List.length_cons, List.length_nil]; omega)
  ·rw [runesAt_end hi] at h
   exact .inr (Option.some.inj h).symm
theorem rune_max {s : ByteArray} : ∀ (f i : Nat) (rs : List Nat), s.size - i <= f -> runesAt s i = some rs -> ∀ r ∈ rs, r <= 1114111
 | f, i, rs, hf, h => by
  by_cases hi : i < s.size
  ·by_cases hd : Utf8.decode s i = (65533, 1)
   ·rw [runesAt_bad hi hd] at h; cases h
   ·rw [runesAt_step hi hd] at h
    have hk := decode_fits s i hi;rcases hr : runesAt s (i + (Utf8.decode s i).2) with _ | rs'
    ·rw [hr] at h; cases h
    ·rw [hr] at h
     obtain rfl := Option.some.inj h;cases f with
     | zero => omega
     | succ f =>
      intro r hrr;rcases List.mem_cons.1 hrr with rfl | hrr
      ·omega
      ·exact rune_max f (i + (Utf8.decode s i).2) rs' (by omega) hr r hrr
  ·rw [runesAt_end hi] at h
   obtain rfl := Option.some.inj h;intro r hrr;cases hrr
theorem take_flatR {rs : List Nat} {k r : Nat} (h : rs[k]? = some r) : (rs.take (k + 1)).flatMap qR = (rs.take k).flatMap qR ++ qR r := by
 rw [List.take_add_one, h];simp
theorem c_spec_Quoted (s : ByteArray) (w : World) (hs : s.size <= 1048576) :
  Calls Tryz.prog 161 #[.string s] w fun e w' => e = .returned (.string (quoteB s)) /\ Below w.heap.size w w' := by
 obtain ⟨i0, hi, hz0, hz1, hz2⟩ := info_parts (show (Tryz.prog.info? 5).map (fun i => (i.zero, i.size, i.bytes)) = some (some (.int .u8 0), 1, 1) from by kernel_rfl);have HU := hid (c_spec_RunesOf s w hs);obtain ⟨r, hr⟩ : ∃ r, r = quoteB s := ⟨_, rfl⟩
 rw [<- hr];rcases hu : runesAt s 0 with _ | rs
 ·have HR := hid (show r = ⟨#[]⟩ by rw [hr]; exact quoteB_none hu)
  have hub : utf8B s = false := by unfold utf8B; rw [hu]; rfl
  clear hr hu;go_enter Tryz.func161, Tryz.ntmps161
  go_wp2_with fail
  refine HU.out.mono ?_;rintro e w1 ⟨M, A, c, rfl, -, -, hb1⟩;rw [hub];go_wp2_with fail
  go_ret
  exact ⟨by rw [HR.out]; rfl, hb1⟩
 ·have HR := hid (show r = ⟨(34 :: rs.flatMap qR ++ [34]).toArray⟩ by rw [hr]; exact quoteB_runes hu)
  have hub : utf8B s = true := by unfold utf8B; rw [hu]; rfl
  have hbd := rune_bound s.size 0 rs (by omega) hu
  have hlen : rs.length <= 1048576 := by
   rcases hbd with h | h
   ·omega
   ·rw [h]; exact Nat.zero_le _
  have HMx := hid (rune_max s.size 0 rs (by omega) hu);have HRS := hid hu;clear hr hu hbd;go_enter Tryz.func161, Tryz.ntmps161
  go_wp2_with fail
  refine HU.out.mono ?_;rintro e w1 ⟨M0, A0, c0, rfl, hM0, hrow, hb1⟩;obtain rfl := hM0 rs HRS.out;rw [hub];have HRow := hid hrow;have HB1 := hid hb1;have hs1 := hb1.size;clear hrow hb1 hM0;go_wp2_with fail
  go_loopw [5, 6] (fun s5 v wr => ∃ (k : Nat) (M : List UInt8) (A : Option Addr) (n c : Nat), k <= M0.length /\ v = .int .i64 k /\ M = 34 :: (M0.take k).flatMap qR /\ n = M.length /\ n <= 6 * k + 1 /\ s5 = .slice A n c /\ BufB w1.heap.size wr M (.slice A n c) /\ Below w1.heap.size w1 wr) (fun _ v _ => M0.length - (Lib.intOf v).toNat)
  case atStart => exact ⟨0, [34], some ⟨w1.heap.size, 0, none⟩, 1, 1, Nat.zero_le _, rfl, rfl, rfl, by omega, rfl, own_lit (bs := [34]) (k := 1) rfl (by decide) rfl, bel⟩
  case round =>
   obtain ⟨k, M, A, n, c, hk, rfl, hM, hn, hn6, rfl, hbuf, hbr⟩ := hrel;have HM := hid hM;have HN := hid hn;have HBf := hid hbuf;have HBr := hid hbr;have hws := hbr.size;clear hM hn hbuf hbr;by_cases hlt : k < M0.length
   ·have hk0 : (0 : Int) <= k := by omega
    have hk1 : (k : Int) < M0.length := by omega
    obtain ⟨x, hx⟩ := exists_at hlt;obtain ⟨g, cap, cur, hv, -, hg, g1, g2, -, g4⟩ := RowE.row encZ_len (HRow.out.below HBr.out) (by rw [zs_len]; omega);rw [zs_len] at hv;simp only [Value.slice.injEq] at hv;obtain ⟨rfl, -, rfl⟩ := hv
    have hc0 : wr.cell? ⟨g, k, none⟩ = some (.int .i64 (x : Nat)) := by
     rw [cell_of_row _ g _ cur _ _ hg];have := g4 k (x : Int) (by unfold zs; rw [List.getElem?_map, hx]; rfl) 0 (by decide)
     simpa [encZ] using this
    have hgl := row_lt hg;have hxm := HMx.out x (List.mem_of_getElem? hx);have HQ := hid (take_flatR hx);have hql := qR_len x;obtain ⟨m, hm⟩ : ∃ m, m = (qR x).length := ⟨_, rfl⟩
    rw [<- hm] at hql;have HMm := hid hm;have hR : wr.ownsRow w1.heap.size 5 1 (.slice A n c) n (Lib.strCells ⟨M.toArray⟩) := by have h := HBf.out; unfold BufB at h; rw [<- HN.out] at h; exact h
    clear hm hg g1 g2 g4 hx;go_upto_block 1 with fail
    go_cut [5] from 22 to 80 (fun s5 wx => ∃ (A' : Option Addr) (c' : Nat), s5 = .slice A' (n + m) c' /\ BufB w1.heap.size wx (M ++ qR x) (.slice A' (n + m) c') /\ Below w1.heap.size w1 wx)
    case first =>
     have hbuf : ∀ (bs : List UInt8) (A5 : Option Addr) (c5 q : Nat) (w5 : World), q = bs.length -> w5.ownsRow w1.heap.size 5 1 (.slice A5 (n + q) c5) (n + q) (Lib.strCells ⟨(M ++ bs).toArray⟩) -> BufB w1.heap.size w5 (M ++ bs) (.slice A5 (n + q) c5) := fun bs A5 c5 q w5 hq h => by
      unfold BufB;rw [List.length_append, <- HN.out, <- hq];exact h
     have HBuf := hid hbuf;clear hbuf;by_cases e34 : x = 34 ∨ x = 92
     ·have HQn := hid (show qR x = [92, UInt8.ofNat x] by rw [qR_low (by omega)]; unfold qN; rw [if_pos e34])
      have hm2 : m = 2 := by rw [HMm.out, HQn.out]; rfl
      subst hm2;have hxw : IntKind.u8.wrap (x : Int) = x := by rw [IntKind.wrap_u8]; omega
      obtain ⟨A', c', w2, hr2, hb2, hbb2⟩ := run_buf wr w1.heap.size n c 2 A M [92, UInt8.ofNat x] [.int .u8 92, .int .u8 (x : Int)] HN.out HBf.out rfl (by simp [Lib.strCells, Nat.mod_eq_of_lt (show x < 256 by omega)]) (by omega) (by decide) hws;have HB2 := hid (And.intro hb2 (HBr.out.trans hbb2));clear hb2 hbb2 hR;rcases e34 with rfl | rfl
      all_goals
       go_wp2_with (at_builtin; refine wpList_append_of rfl (.tmp 37) (.tmp 40) 28 rfl _ _ _ w2 rfl rfl hr2 ?_)
       go_meet
       exact ⟨A', c', rfl, by rw [HQn.out]; exact HB2.out.1, HB2.out.2⟩
     ·have f1 : ((x : Int) == 34) = false := beq_eq_false_iff_ne.2 (by omega)
      have f2 : ((x : Int) == 92) = false := beq_eq_false_iff_ne.2 (by omega);by_cases e8 : x = 8 ∨ x = 12 ∨ x = 10 ∨ x = 13 ∨ x = 9
      ·rcases e8 with rfl | rfl | rfl | rfl | rfl
       ·have HQn := hid (show qR 8 = [92, 98] from rfl)
        have hm2 : m = 2 := by rw [HMm.out, HQn.out]; rfl
        have hsz2 : (⟨#[92, 98]⟩ : ByteArray).size = 2 := rfl;subst hm2;clear e34;go_wp2_with (at_builtin; refine wpList_append_own_string _ rfl (.tmp 45) (.const (.string ⟨#[92, 98]⟩)) 28 9 rfl w1.heap.size 5 i0 Tryz.underlying28 Tryz.underlying9 hi hz0 hz1 hz2 _ n _ rfl hR ⟨#[92, 98]⟩ rfl (by simp only [maxLen]; omega) (by omega) hws ?_; intro v5 w5 hR5 hg5 _; obtain ⟨A5, c5, rfl⟩ := own_form hR5; rw [strCells_list] at hR5)
        have HB5 := Below.grown HBr.out hg5 hws (fun q hq => (World.ownsRow.lt hR q hq).1);go_meet
        exact ⟨A5, c5, rfl, by rw [HQn.out]; exact HBuf.out [92, 98] A5 c5 2 w5 rfl hR5, HB5⟩
       ·have HQn := hid (show qR 12 = [92, 102] from rfl)
        have hm2 : m = 2 := by rw [HMm.out, HQn.out]; rfl
        have hsz2 : (⟨#[92, 102]⟩ : ByteArray).size = 2 := rfl;subst hm2;clear e34;go_wp2_with (at_builtin; refine wpList_append_own_string _ rfl (.tmp 50) (.const (.string ⟨#[92, 102]⟩)) 28 9 rfl w1.heap.size 5 i0 Tryz.underlying28 Tryz.underlying9 hi hz0 hz1 hz2 _ n _ rfl hR ⟨#[92, 102]⟩ rfl (by simp only [maxLen]; omega) (by omega) hws ?_; intro v5 w5 hR5 hg5 _; obtain ⟨A5, c5, rfl⟩ := own_form hR5; rw [strCells_list] at hR5)
        have HB5 := Below.grown HBr.out hg5 hws (fun q hq => (World.ownsRow.lt hR q hq).1);go_meet
        exact ⟨A5, c5, rfl, by rw [HQn.out]; exact HBuf.out [92, 102] A5 c5 2 w5 rfl hR5, HB5⟩
       ·have HQn := hid (show qR 10 = [92, 110] from rfl)
        have hm2 : m = 2 := by rw [HMm.out, HQn.out]; rfl
        have hsz2 : (⟨#[92, 110]⟩ : ByteArray).size = 2 := rfl;subst hm2;clear e34;go_wp2_with (at_builtin; refine wpList_append_own_string _ rfl (.tmp 55) (.const (.string ⟨#[92, 110]⟩)) 28 9 rfl w1.heap.size 5 i0 Tryz.underlying28 Tryz.underlying9 hi hz0 hz1 hz2 _ n _ rfl hR ⟨#[92, 110]⟩ rfl (by simp only [maxLen]; omega) (by omega) hws ?_; intro v5 w5 hR5 hg5 _; obtain ⟨A5, c5, rfl⟩ := own_form hR5; rw [strCells_list] at hR5)
        have HB5 := Below.grown HBr.out hg5 hws (fun q hq => (World.ownsRow.lt hR q hq).1);go_meet
        exact ⟨A5, c5, rfl, by rw [HQn.out]; exact HBuf.out [92, 110] A5 c5 2 w5 rfl hR5, HB5⟩
       ·have HQn := hid (show qR 13 = [92, 114] from rfl)
        have hm2 : m = 2 := by rw [HMm.out, HQn.out]; rfl
        have hsz2 : (⟨#[92, 114]⟩ : ByteArray).size = 2 := rfl;subst hm2;clear e34;go_wp2_with (at_builtin; refine wpList_append_own_string _ rfl (.tmp 60) (.const (.string ⟨#[92, 114]⟩)) 28 9 rfl w1.heap.size 5 i0 Tryz.underlying28 Tryz.underlying9 hi hz0 hz1 hz2 _ n _ rfl hR ⟨#[92, 114]⟩ rfl (by simp only [maxLen]; omega) (by omega) hws ?_; intro v5 w5 hR5 hg5 _; obtain ⟨A5, c5, rfl⟩ := own_form hR5; rw [strCells_list] at hR5)
        have HB5 := Below.grown HBr.out hg5 hws (fun q hq => (World.ownsRow.lt hR q hq).1);go_meet
        exact ⟨A5, c5, rfl, by rw [HQn.out]; exact HBuf.out [92, 114] A5 c5 2 w5 rfl hR5, HB5⟩
       ·have HQn := hid (show qR 9 = [92, 116] from rfl)
        have hm2 : m = 2 := by rw [HMm.out, HQn.out]; rfl
        have hsz2 : (⟨#[92, 116]⟩ : ByteArray).size = 2 := rfl;subst hm2;clear e34;go_wp2_with (at_builtin; refine wpList_append_own_string _ rfl (.tmp 65) (.const (.string ⟨#[92, 116]⟩)) 28 9 rfl w1.heap.size 5 i0 Tryz.underlying28 Tryz.underlying9 hi hz0 hz1 hz2 _ n _ rfl hR ⟨#[92, 116]⟩ rfl (by simp only [maxLen]; omega) (by omega) hws ?_; intro v5 w5 hR5 hg5 _; obtain ⟨A5, c5, rfl⟩ := own_form hR5; rw [strCells_list] at hR5)
        have HB5 := Below.grown HBr.out hg5 hws (fun q hq => (World.ownsRow.lt hR q hq).1);go_meet
        exact ⟨A5, c5, rfl, by rw [HQn.out]; exact HBuf.out [92, 116] A5 c5 2 w5 rfl hR5, HB5⟩
      ·have g1 : ((x : Int) == 8) = false := beq_eq_false_iff_ne.2 (by omega)
       have g2 : ((x : Int) == 12) = false := beq_eq_false_iff_ne.2 (by omega);have g3 : ((x : Int) == 10) = false := beq_eq_false_iff_ne.2 (by omega);have g4 : ((x : Int) == 13) = false := beq_eq_false_iff_ne.2 (by omega);have g5 : ((x : Int) == 9) = false := beq_eq_false_iff_ne.2 (by omega);by_cases e32 : x < 32
       ·have f3 : decide ((x : Int) < 32) = true := decide_eq_true (by omega)
        have f4 : decide (x < 32) = true := decide_eq_true e32;obtain ⟨p, hp1⟩ : ∃ p : Nat, p = x / 16 := ⟨_, rfl⟩
        obtain ⟨q, hq1⟩ : ∃ q : Nat, q = x % 16 := ⟨_, rfl⟩
        have hp2 : (x : Int) / 16 = p := by omega
        have hp3 : (x : Int).tdiv 16 = p := by rw [Int.tdiv_eq_ediv_of_nonneg (by omega)]; omega
        have hq2 : (x : Int) % 16 = q := by omega
        have hq3 : (x : Int).tmod 16 = q := by rw [Int.tmod_eq_emod_of_nonneg (by omega)]; omega
        have hp4 : p < 16 := by omega
        have hq4 : q < 16 := by omega
        have HQn := hid (show qR x = [92, 117, 48, 48] ++ [figU p, figU q] by rw [qR_low (by omega)]; unfold qN; rw [if_neg e34, if_neg (by omega), if_neg (by omega), if_neg (by omega), if_neg (by omega), if_neg (by omega), if_pos e32, hp1, hq1]; rfl);have hm2 : m = 6 := by rw [HMm.out, HQn.out]; rfl
        have hsz2 : (⟨#[92, 117, 48, 48]⟩ : ByteArray).size = 4 := rfl;subst hm2;clear hp1 hq1 e34 e8 e32;go_wp2_with (at_builtin; refine wpList_append_own_string _ rfl (.tmp 70) (.const (.string ⟨#[92, 117, 48, 48]⟩)) 28 9 rfl w1.heap.size 5 i0 Tryz.underlying28 Tryz.underlying9 hi hz0 hz1 hz2 _ n _ rfl hR ⟨#[92, 117, 48, 48]⟩ rfl (by simp only [maxLen]; omega) (by omega) hws ?_; intro v5 w5 hR5 hg5 _; obtain ⟨A5, c5, rfl⟩ := own_form hR5; rw [strCells_list] at hR5)
        have HB5 := hid (Below.grown HBr.out hg5 hws (fun q hq => (World.ownsRow.lt hR q hq).1));have hB5 := HBuf.out [92, 117, 48, 48] A5 c5 4 w5 rfl hR5;refine (c_figure16 p _ hp4).mono ?_;rintro e w6 ⟨rfl, rfl⟩;go_wp2_with fail
        refine (c_figure16 q _ hq4).mono ?_;rintro e w6 ⟨rfl, rfl⟩;obtain ⟨A', c', w2, hr2, hb2, hbb2⟩ := run_buf w5 w1.heap.size (n + 4) c5 2 A5 (M ++ [92, 117, 48, 48]) [figU p, figU q] [.int .u8 ((figU p).toNat : Nat), .int .u8 ((figU q).toNat : Nat)] (by rw [List.length_append, <- HN.out]; rfl) hB5 rfl rfl (by omega) (by decide) HB5.out.size;have HB2 := hid (And.intro hb2 (HB5.out.trans hbb2))
        clear hb2 hbb2 hR hR5 hg5 hB5;go_wp2_with (at_builtin; refine wpList_append_of rfl (.tmp 72) (.tmp 79) 28 rfl _ _ _ w2 rfl rfl hr2 ?_)
        go_meet
        exact ⟨A', c', rfl, by rw [HQn.out, <- List.append_assoc]; exact HB2.out.1, HB2.out.2⟩
       ·have f3 : decide ((x : Int) < 32) = false := decide_eq_false (by omega)
        have f4 : decide (x < 32) = false := decide_eq_false e32;have HQn := hid (qR_plain e34 e32);have hm2 : m = (textB x).size := by rw [HMm.out, HQn.out, Array.length_toList]; rfl
        have htz := textB_size x;have HT := hid (fun (w' : World) => c_spec_RuneText (x : Int) w' (by omega));clear e34 e8 e32;go_wp2_with fail
        refine (HT.out _).mono ?_;rintro e w4 ⟨rfl, hb4⟩;have hR4 := ownsRow_carry hR (fun q hq => hb4.block q (World.ownsRow.lt hR q hq).2);have HB4 := hid (HBr.out.trans (hb4.mono HBr.out.size));have hws4 := HB4.out.size;clear hR;have hR := hR4;have hws3 := hws;clear hws hR4 hb4;have hws := hws4;go_wp2_with (at_builtin; refine wpList_append_own_string _ rfl (.tmp 26) (.tmp 28) 28 9 rfl w1.heap.size 5 i0 Tryz.underlying28 Tryz.underlying9 hi hz0 hz1 hz2 _ n _ rfl hR (textB x) rfl (by simp only [maxLen]; omega) (by omega) hws ?_; intro v5 w5 hR5 hg5 _; obtain ⟨A5, c5, rfl⟩ := own_form hR5; rw [strCells_list] at hR5)
        have HB5 := Below.grown HB4.out hg5 hws (fun q hq => (World.ownsRow.lt hR q hq).1);go_meet
        subst hm2;exact ⟨A5, c5, rfl, by rw [HQn.out]; exact HBuf.out _ A5 c5 _ w5 (by rw [Array.length_toList]; rfl) hR5, HB5⟩
    case rest =>
     obtain ⟨A', c', rfl, hbf, hbb⟩ := hcut;have HB' := hid hbf;have HX := hid (show M ++ qR x = 34 :: (M0.take (k + 1)).flatMap qR by rw [HM.out, HQ.out]; rfl);clear hbf hR hc0;go_wp2_with fail
     go_roundw
     case rel => exact ⟨k + 1, M ++ qR x, A', n + m, c', by omega, by go_num, HX.out, by rw [List.length_append, HN.out, HMm.out], by omega, rfl, HB'.out, hbb⟩
     case measure => simp [Lib.intOf]; omega
   ·obtain rfl : k = M0.length := by omega
    have HX := hid (show r = ⟨(M ++ [34]).toArray⟩ by rw [HR.out, HM.out, List.take_of_length_le (Nat.le_refl _)]);obtain ⟨A', c', w2, hr2, hb2, hbb2⟩ := run_buf wr w1.heap.size n c 1 A M [34] [.int .u8 34] HN.out HBf.out rfl rfl (by omega) (by decide) hws;have hn1 : n + 1 = (M ++ [34]).length := by rw [List.length_append, <- HN.out]; rfl
    have hcv := own_string hn1 (show w2.ownsRow w1.heap.size 5 1 (.slice A' (n + 1) c') (n + 1) (Lib.strCells ⟨(M ++ [34]).toArray⟩) from hn1 ▸ hb2);clear hn1 hb2;go_wp2_with (at_builtin; refine wpList_append_of rfl (.tmp 81) (.tmp 82) 28 rfl _ _ _ w2 rfl rfl hr2 ?_)
    go_ret
    exact ⟨by rw [HX.out]; rfl, HB1.out.trans ((HBr.out.trans hbb2).mono HB1.out.size)⟩
open Go.RowKit
def KidsAt (O : (Nat -> Prop) -> World -> TreeD -> List Value -> Prop) (F : Nat -> Nat -> Prop) (g : Nat) (w : World) (l : List TreeD) : Prop :=
 ∃ cur, w.heap[g]? = some (.cells cur 34 (0, 0)) /\ ∀ i d, l[i]? = some d -> ∃ es, es.length = 6 /\ (∀ j, j < 6 -> cur[i * 6 + j]? = es[j]?) /\ O (F i) w d es
def OwnK (O : (Nat -> Prop) -> World -> TreeD -> List Value -> Prop) (S : Nat -> Prop) (w : World) (l : List TreeD) (v : Value) : Prop :=
 ∃ A c, v = .slice A l.length c /\ l.length <= c /\ c <= 9223372036854775807 /\ (0 < l.length -> ∃ g F, A = some ⟨g, 0, none⟩ /\ S g /\ (∀ i b, F i b -> S b /\ b ≠ g) /\ (∀ i j b, F i b -> F j b -> i = j) /\ KidsAt O F g w l)
def OwnT : Nat -> (Nat -> Prop) -> World -> TreeD -> List Value -> Prop
 | 0, _, _, _, _ => False
 | n + 1, S, w, d, cs => ∃ (v4 v5 : Value) (S4 S5 : Nat -> Prop), cs = [.int .i64 d.kind, .bool d.flag, .int .i64 d.num, .string d.text, v4, v5] /\ I64 d.kind /\ I64 d.num /\ d.text.size <= 9223372036854775807 /\
   (∀ b, S4 b -> S b /\ ¬ S5 b) /\ (∀ b, S5 b -> S b) /\ OwnS S4 w d.keys v4 /\ OwnK (OwnT n) S5 w d.kids v5
theorem OwnT.out {n : Nat} {S : Nat -> Prop} {w : World} {d : TreeD} {cs : List Value} (h : OwnT (n + 1) S w d cs) : ∃ (v4 v5 : Value) (S4 S5 : Nat -> Prop), cs = [.int .i64 d.kind, .bool d.flag, .int .i64 d.num, .string d.text, v4, v5] /\ I64 d.kind /\ I64 d.num /\ d.text.size <= 9223372036854775807 /\
   (∀ b, S4 b -> S b /\ ¬ S5 b) /\ (∀ b, S5 b -> S b) /\ OwnS S4 w d.keys v4 /\ OwnK (OwnT n) S5 w d.kids v5 := h
theorem OwnT.into {n : Nat} {S : Nat -> Prop} {w : World} {d : TreeD} {cs : List Value} (h : ∃ (v4 v5 : Value) (S4 S5 : Nat -> Prop), cs = [.int .i64 d.kind, .bool d.flag, .int .i64 d.num, .string d.text, v4, v5] /\ I64 d.kind /\ I64 d.num /\ d.text.size <= 9223372036854775807 /\
   (∀ b, S4 b -> S b /\ ¬ S5 b) /\ (∀ b, S5 b -> S b) /\ OwnS S4 w d.keys v4 /\ OwnK (OwnT n) S5 w d.kids v5) : OwnT (n + 1) S w d cs := h
theorem OwnT.none {S : Nat -> Prop} {w : World} {d : TreeD} {cs : List Value} (h : OwnT 0 S w d cs) : False := h
theorem OwnT.any {n : Nat} {S : Nat -> Prop} {w : World} {d : TreeD} {cs : List Value} (h : OwnT n S w d cs) : ∃ m, n = m + 1 := by
 cases n with
 | zero => exact h.none.elim
 | succ m => exact ⟨m, rfl⟩
theorem OwnK.form {O : (Nat -> Prop) -> World -> TreeD -> List Value -> Prop} {S : Nat -> Prop} {w : World} {l : List TreeD} {v : Value} (h : OwnK O S w l v) : ∃ A c, v = .slice A l.length c := by
 obtain ⟨A, c, hv, _⟩ := h;exact ⟨A, c, hv⟩
theorem OwnT.flat {n : Nat} {S : Nat -> Prop} {w : World} {d : TreeD} {cs : List Value} (h : OwnT n S w d cs) : ∃ A4 c4 A5 c5, cs = [.int .i64 d.kind, .bool d.flag, .int .i64 d.num, .string d.text, .slice A4 d.keys.length c4, .slice A5 d.kids.length c5] /\ I64 d.kind /\ I64 d.num /\ d.text.size <= 9223372036854775807 := by
 obtain ⟨m, rfl⟩ := h.any;obtain ⟨v4, v5, S4, S5, rfl, a0, a2, a3, -, -, a4, a5⟩ := h.out;obtain ⟨A4, c4, rfl⟩ := a4.form;obtain ⟨A5, c5, rfl⟩ := a5.form;exact ⟨A4, c4, A5, c5, rfl, a0, a2, a3⟩
theorem OwnK.carry {O O' : (Nat -> Prop) -> World -> TreeD -> List Value -> Prop} {S S' : Nat -> Prop} {w w' : World} {l : List TreeD} {v : Value} (h : OwnK O S w l v) (hs : ∀ b, S b -> w'.heap[b]? = w.heap[b]?) (hS : ∀ b, S b -> S' b)
  (hO : ∀ F d es, (∀ b, F b -> S b) -> O F w d es -> O' F w' d es) : OwnK O' S' w' l v := by
 obtain ⟨A, c, hv, h1, h2, h3⟩ := h;refine ⟨A, c, hv, h1, h2, fun hp => ?_⟩;obtain ⟨g, F, hA, hg, hF, hF2, cur, hr, hc⟩ := h3 hp;refine ⟨g, F, hA, hS g hg, fun i b hb => ⟨hS b (hF i b hb).1, (hF i b hb).2⟩, hF2, cur, (hs g hg).trans hr, fun i d hd => ?_⟩;obtain ⟨es, e1, e2, e3⟩ := hc i d hd;exact ⟨es, e1, e2, hO (F i) d es (fun b hb => (hF i b hb).1) e3⟩
theorem OwnT.carry : ∀ {n : Nat} {S S' : Nat -> Prop} {w w' : World} {d : TreeD} {cs : List Value}, OwnT n S w d cs -> (∀ b, S b -> w'.heap[b]? = w.heap[b]?) -> (∀ b, S b -> S' b) -> OwnT n S' w' d cs
 | 0, _, _, _, _, _, _, h, _, _ => h.none.elim
 | n + 1, S, S', w, w', d, cs, h, hs, hS => by
  obtain ⟨v4, v5, S4, S5, e, a0, a2, a3, d4, d5, a4, a5⟩ := h.out
  exact OwnT.into ⟨v4, v5, S4, S5, e, a0, a2, a3, fun b hb => ⟨hS b (d4 b hb).1, (d4 b hb).2⟩, fun b hb => hS b (d5 b hb), a4.carry (fun b hb => hs b (d4 b hb).1) (fun _ h => h),
   a5.carry (fun b hb => hs b (d5 b hb)) (fun _ h => h) (fun F d es hF ho => OwnT.carry ho (fun b hb => hs b (d5 b (hF b hb))) (fun _ h => h))⟩
theorem OwnK.keep {n : Nat} {S S' : Nat -> Prop} {w w' : World} {l : List TreeD} {v : Value} (h : OwnK (OwnT n) S w l v) (hs : ∀ b, S b -> w'.heap[b]? = w.heap[b]?) (hS : ∀ b, S b -> S' b) : OwnK (OwnT n) S' w' l v :=
 h.carry hs hS (fun _ _ _ hF ho => ho.carry (fun b hb => hs b (hF b hb)) (fun _ h => h))
theorem OwnT.up : ∀ {n m : Nat} {S : Nat -> Prop} {w : World} {d : TreeD} {cs : List Value}, OwnT n S w d cs -> n <= m -> OwnT m S w d cs
 | 0, _, _, _, _, _, h, _ => h.none.elim
 | n + 1, 0, _, _, _, _, _, hm => absurd hm (by omega)
 | n + 1, m + 1, _, _, _, _, h, hm => by
  obtain ⟨v4, v5, S4, S5, e, a0, a2, a3, d4, d5, a4, a5⟩ := h.out;exact OwnT.into ⟨v4, v5, S4, S5, e, a0, a2, a3, d4, d5, a4, a5.carry (fun _ _ => rfl) (fun _ h => h) (fun F d es hF ho => OwnT.up ho (by omega))⟩
theorem OwnT.toC : ∀ {n lo hi : Nat} {S : Nat -> Prop} {w : World} {d : TreeD} {cs : List Value}, OwnT n S w d cs -> (∀ b, S b -> lo <= b /\ b < hi) -> C_Tree n lo hi w d cs
 | 0, _, _, _, _, _, _, h, _ => h.none.elim
 | n + 1, lo, hi, S, w, d, cs, h, hS => by
  obtain ⟨v4, v5, S4, S5, e, a0, a2, a3, d4, d5, a4, a5⟩ := h.out;refine C_Tree.into ⟨v4, v5, e, a0, a2, a3, a4.toC (fun b hb => hS b (d4 b hb).1), ?_⟩;obtain ⟨A, c, rfl, h1, h2, h3⟩ := a5;refine ⟨A, c, rfl, h1, h2, fun hp => ?_⟩;obtain ⟨g, F, rfl, hg, hF, hF2, cur, hr, hc⟩ := h3 hp;refine ⟨g, 0, rfl, (hS g (d5 g hg)).1, (hS g (d5 g hg)).2, fun i d hd => ?_⟩;obtain ⟨es, e1, e2, e3⟩ := hc i d hd;refine ⟨es, e1, fun j hj => ?_, OwnT.toC e3 (fun b hb => hS b (d5 b (hF i b hb).1))⟩
  rw [cell_of_row w g _ cur _ _ hr, Nat.zero_add];exact e2 j hj
def GrowS (base hi : Nat) (w : World) (l : List ByteArray) (v : Value) : Prop := w.ownsRow base 9 1 v l.length (l.map Value.string) /\ (∀ g, v.ownBlock = some g -> g < hi) /\ ∀ s ∈ l, s.size <= 9223372036854775807
theorem GrowS.form {base hi : Nat} {w : World} {l : List ByteArray} {v : Value} (h : GrowS base hi w l v) : ∃ A c, v = .slice A l.length c := by
 rcases h.1.2 with ⟨rfl, h0⟩ | ⟨g, cap, cur, rfl, _⟩
 ·exact ⟨_, _, by rw [h0]⟩
 ·exact ⟨_, _, rfl⟩
theorem GrowS.own {base hi : Nat} {w : World} {l : List ByteArray} {v : Value} (h : GrowS base hi w l v) : OwnS (fun b => base <= b /\ b < hi) w l v := by
 obtain ⟨⟨hl, h1⟩, h2, h3⟩ := h;rcases h1 with ⟨rfl, h0⟩ | ⟨g, cap, cur, rfl, hb, hg, hnc, hcm, hcs, ht⟩
 ·exact ⟨none, 0, by rw [h0], by omega, by omega, fun hp => by omega⟩
 ·refine ⟨_, cap, rfl, hnc, by unfold maxLen at hcm; omega, fun _ => ⟨g, cur, rfl, ⟨hb, h2 g rfl⟩, hg, fun i s hs => ?_⟩⟩
  refine ⟨?_, h3 s (List.mem_of_getElem? hs)⟩;have hi : i < l.length := (List.getElem?_eq_some_iff.1 hs).1;have : (cur.toList.take (l.length * 1))[i]? = some (.string s) := by rw [ht, List.getElem?_map, hs]; rfl
  rw [List.getElem?_take, if_pos (by omega)] at this
  simpa using this
theorem flat_get : ∀ (ess : List (List Value)) (i : Nat) (es : List Value) (j : Nat), (∀ es ∈ ess, es.length = 6) -> ess[i]? = some es -> j < 6 -> ess.flatten[i * 6 + j]? = es[j]?
 | [], i, es, j, _, h, _ => by simp at h
 | x :: ess, 0, es, j, hl, h, hj => by
  simp at h;subst h;rw [List.flatten_cons, List.getElem?_append_left (by rw [hl x (by simp)]; omega)];simp
 | x :: ess, i + 1, es, j, hl, h, hj => by
  simp at h;have hx := hl x (by simp);rw [List.flatten_cons, List.getElem?_append_right (by omega), hx, show (i + 1) * 6 + j - 6 = i * 6 + j by omega];exact flat_get ess i es j (fun y hy => hl y (by simp [hy])) h hj
def GrowK (n base hi : Nat) (w : World) (l : List TreeD) (v : Value) : Prop :=
 ∃ (ess : List (List Value)) (F : Nat -> Nat -> Prop), ess.length = l.length /\ (∀ es ∈ ess, es.length = 6) /\ w.ownsRow base 34 6 v l.length ess.flatten /\ (∀ g, v.ownBlock = some g -> g < hi) /\
  (∀ i b, F i b -> base <= b /\ b < hi /\ v.ownBlock ≠ some b) /\ (∀ i j b, F i b -> F j b -> i = j) /\ ∀ i d es, l[i]? = some d -> ess[i]? = some es -> OwnT n (F i) w d es
theorem GrowK.nil (n base hi : Nat) (w : World) : GrowK n base hi w [] (.slice none 0 0) :=
 ⟨[], fun _ _ => False, rfl, fun _ h => (by cases h), World.ownsRow_nil _ _ _ _, fun g h => (by cases h), fun _ _ h => h.elim, fun _ _ _ h => h.elim, fun i d es h => (by simp at h)⟩
theorem GrowK.form {n base hi : Nat} {w : World} {l : List TreeD} {v : Value} (h : GrowK n base hi w l v) : ∃ A c, v = .slice A l.length c := by
 obtain ⟨ess, F, -, -, h1, -⟩ := h;rcases h1.2 with ⟨rfl, h0⟩ | ⟨g, cap, cur, rfl, _⟩
 ·exact ⟨_, _, by rw [h0]⟩
 ·exact ⟨_, _, rfl⟩
theorem GrowK.carry {n base hi hi' : Nat} {w w' : World} {l : List TreeD} {v : Value} (h : GrowK n base hi w l v) (hh : hi <= hi') (hb : ∀ g, base <= g -> g < hi -> w'.heap[g]? = w.heap[g]?) : GrowK n base hi' w' l v := by
 obtain ⟨ess, F, h1, h2, h3, h4, h5, h6, h7⟩ := h
 exact ⟨ess, F, h1, h2, ownsRow_carry h3 (fun g hg => hb g (h3.lt g hg).1 (h4 g hg)), fun g hg => Nat.lt_of_lt_of_le (h4 g hg) hh, fun i b hF => ⟨(h5 i b hF).1, Nat.lt_of_lt_of_le (h5 i b hF).2.1 hh, (h5 i b hF).2.2⟩, h6,
  fun i d es hd he => (h7 i d es hd he).carry (fun b hF => hb b (h5 i b hF).1 (h5 i b hF).2.1) (fun _ h => h)⟩
theorem GrowK.own {n base hi : Nat} {w : World} {l : List TreeD} {v : Value} (h : GrowK n base hi w l v) : OwnK (OwnT n) (fun b => base <= b /\ b < hi) w l v := by
 obtain ⟨ess, F, e1, e2, ⟨hl, h1⟩, h4, h5, h6, h7⟩ := h;rcases h1 with ⟨rfl, h0⟩ | ⟨g, cap, cur, rfl, hb, hg, hnc, hcm, hcs, ht⟩
 ·exact ⟨none, 0, by rw [h0], by omega, by omega, fun hp => by omega⟩
 ·refine ⟨_, cap, rfl, hnc, by unfold maxLen at hcm; omega, fun _ => ⟨g, F, rfl, ⟨hb, h4 g rfl⟩, fun i b hF => ⟨⟨(h5 i b hF).1, (h5 i b hF).2.1⟩, fun e => (h5 i b hF).2.2 (by rw [e]; rfl)⟩, h6, cur, hg, fun i d hd => ?_⟩⟩
  have hi : i < l.length := (List.getElem?_eq_some_iff.1 hd).1;obtain ⟨es, hes⟩ := exists_at (l := ess) (k := i) (by omega);refine ⟨es, e2 es (List.mem_of_getElem? hes), fun j hj => ?_, h7 i d es hd hes⟩;have hf := flat_get ess i es j e2 hes hj;rw [<- ht, List.getElem?_take, if_pos (by omega)] at hf
  simpa using hf
theorem OwnT.one {n : Nat} {S : Nat -> Prop} {w : World} {d : TreeD} {es : List Value} (h : OwnT n S w d es) : ∀ u ∈ es, u.oneCell' = true := by
 obtain ⟨A4, c4, A5, c5, rfl, -⟩ := h.flat;intro u hu;simp at hu;rcases hu with rfl | rfl | rfl | rfl | rfl | rfl <;> rfl
theorem OwnT.len {n : Nat} {S : Nat -> Prop} {w : World} {d : TreeD} {es : List Value} (h : OwnT n S w d es) : es.length = 6 := by
 obtain ⟨A4, c4, A5, c5, rfl, -⟩ := h.flat;rfl
theorem GrowK.push {n base hi : Nat} {w w' : World} {l : List TreeD} {v : Value} {d : TreeD} {es : List Value} {S : Nat -> Prop} {g cap : Nat} (m : Nat) (hm : l.length = m) (hhi : hi <= w.heap.size) (hd : OwnT n S w d es) (hS : ∀ b, S b -> hi <= b /\ b < w.heap.size) (hbh : base <= hi)
  (ess : List (List Value)) (F : Nat -> Nat -> Prop) (e1 : ess.length = l.length) (e2 : ∀ es ∈ ess, es.length = 6) (h4 : ∀ g, v.ownBlock = some g -> g < hi) (h5 : ∀ i b, F i b -> base <= b /\ b < hi /\ v.ownBlock ≠ some b) (h6 : ∀ i j b, F i b -> F j b -> i = j) (h7 : ∀ i d es, l[i]? = some d -> ess[i]? = some es -> OwnT n (F i) w d es)
  (ho : w'.ownsRow base 34 6 (.slice (some ⟨g, 0, none⟩) (m + 1) cap) (m + 1) (ess.flatten ++ es)) (hgr : w.grownBy w' v.ownBlock) (hat : v.ownBlock = some g ∨ w.heap.size <= g) (hg : g < w'.heap.size) :
  GrowK n base w'.heap.size w' (l ++ [d]) (.slice (some ⟨g, 0, none⟩) (m + 1) cap) := by
 subst hm;have hkeep : ∀ b, b < w.heap.size -> v.ownBlock ≠ some b -> w'.heap[b]? = w.heap[b]? := fun b h1 h2 => hgr.block b h1 (fun e => h2 e.symm)
 refine ⟨ess ++ [es], fun i b => (i < l.length /\ F i b) ∨ (i = l.length /\ S b), by simp [e1], ?_, by simpa using ho, ?_, ?_, ?_, ?_⟩
 ·intro x hx
  rcases List.mem_append.1 hx with hx | hx
  ·exact e2 x hx
  ·simp at hx; subst hx; exact hd.len
 ·intro g' hg'
  simp [Value.ownBlock] at hg';omega
 ·rintro i b (⟨hi, hF⟩ | ⟨hi, hF⟩)
  ·obtain ⟨f1, f2, f3⟩ := h5 i b hF
   refine ⟨f1, by have := hgr.size; omega, fun e => ?_⟩;simp [Value.ownBlock] at e;rcases hat with hat | hat
   ·rw [hat, e] at f3; exact f3 rfl
   ·omega
  ·obtain ⟨f1, f2⟩ := hS b hF
   refine ⟨by omega, by have := hgr.size; omega, fun e => ?_⟩;simp [Value.ownBlock] at e;rcases hat with hat | hat
   ·have := h4 g hat; omega
   ·omega
 ·rintro i j b (⟨hi, hF⟩ | ⟨hi, hF⟩) (⟨hj, hG⟩ | ⟨hj, hG⟩)
  ·exact h6 i j b hF hG
  ·have := (h5 i b hF).2.1; have := (hS b hG).1; omega
  ·have := (h5 j b hG).2.1; have := (hS b hF).1; omega
  ·omega
 ·intro i d' es' hd' hes'
  by_cases hlt : i < l.length
  ·rw [List.getElem?_append_left hlt] at hd'
   rw [List.getElem?_append_left (by omega)] at hes';refine (h7 i d' es' hd' hes').carry (fun b hF => hkeep b ?_ (h5 i b hF).2.2) (fun b hF => .inl ⟨hlt, hF⟩);have := (h5 i b hF).2.1;omega
  ·have hil : i = l.length := by
    have := (List.getElem?_eq_some_iff.1 hd').1;simp at this;omega
   subst hil;rw [List.getElem?_append_right (by omega)] at hd';rw [List.getElem?_append_right (by omega)] at hes';simp at hd';simp [e1] at hes';subst hd' hes';refine hd.carry (fun b hF => hkeep b (hS b hF).2 (fun e => ?_)) (fun b hF => .inr ⟨rfl, hF⟩);have := h4 b e;have := (hS b hF).1;omega
def mxL {D : Type} (f : D -> Nat) : List D -> Nat
 | [] => 0
 | d :: l => max (f d) (mxL f l)
theorem mxL_app {D : Type} (f : D -> Nat) : ∀ a b : List D, mxL f (a ++ b) = max (mxL f a) (mxL f b)
 | [], b => by simp [mxL]
 | d :: a, b => by
  simp only [List.cons_append, mxL];rw [mxL_app f a b];omega
theorem take_next {D : Type} {l : List D} {k : Nat} {d : D} (h : l[k]? = some d) : l.take (k + 1) = l.take k ++ [d] := by rw [List.take_add_one, h]; rfl
theorem mxL_next {D : Type} (f : D -> Nat) {l : List D} {k : Nat} {d : D} (h : l[k]? = some d) : mxL f (l.take (k + 1)) = max (mxL f (l.take k)) (f d) := by
 rw [take_next h, mxL_app];simp [mxL]
def sizeT : Nat -> TreeD -> Nat
 | 0, _ => 0
 | n + 1, d => 1 + szL (sizeT n) d.kids
def depthT : Nat -> TreeD -> Nat
 | 0, _ => 0
 | n + 1, d => mxL (depthT n) d.kids + 1
theorem sizeT_succ (n : Nat) (d : TreeD) : sizeT (n + 1) d = 1 + szL (sizeT n) d.kids := rfl
theorem depthT_succ (n : Nat) (d : TreeD) : depthT (n + 1) d = mxL (depthT n) d.kids + 1 := rfl
theorem depth_size : ∀ (n : Nat) (d : TreeD), depthT n d <= sizeT n d
 | 0, _ => Nat.le_refl _
 | n + 1, d => by
  have h : ∀ l : List TreeD, mxL (depthT n) l <= szL (sizeT n) l := by
   intro l;induction l with
   | nil => exact Nat.le_refl _
   | cons t l ih =>
    have := depth_size n t;simp only [mxL, szL];omega
  rw [depthT_succ, sizeT_succ];have := h d.kids;omega
theorem size_kid {n k : Nat} {d t : TreeD} (h : d.kids[k]? = some t) : szL (sizeT n) (d.kids.take k) + sizeT n t + 1 <= sizeT (n + 1) d := by
 have h1 := szL_take_succ (sizeT n) d.kids k t h;have h2 := szL_take_le (sizeT n) d.kids (k + 1);rw [sizeT_succ];omega
theorem depth_kid {n k : Nat} {d t : TreeD} (h : d.kids[k]? = some t) : mxL (depthT n) (d.kids.take k) + 1 <= depthT (n + 1) d /\ depthT n t + 1 <= depthT (n + 1) d := by
 have h1 := mxL_next (depthT n) h;have h2 : mxL (depthT n) d.kids = max (mxL (depthT n) (d.kids.take (k + 1))) (mxL (depthT n) (d.kids.drop (k + 1))) := by rw [<- mxL_app, List.take_append_drop]
 rw [depthT_succ];omega
def T_DepthI (n : Nat) : Prop := ∀ (d : TreeD) (cs : List Value) (w : World) (lo : Nat), C_Tree n lo w.heap.size w d cs -> sizeT n d <= 1073741824 ->
  Calls Tryz.prog 150 #[.agg cs.toArray] w fun e w' => e = .returned (.int .i64 (depthT n d : Nat)) /\ Below w.heap.size w w'
theorem of_DepthI (n : Nat) (ih : T_DepthI n) : T_DepthI (n + 1) := by
 intro d cs w lo h hsz;have hds := depth_size (n + 1) d;obtain ⟨v4, v5, rfl, a0, a2, a3, a4, a5⟩ := C_Tree.out h;obtain ⟨A4, c4, rfl⟩ := a4.form;obtain ⟨A5, c5, rfl, hlc, hcc, hA⟩ := a5;clear h a4;go_enter Tryz.func150, Tryz.ntmps150
 go_wp2_with fail
 go_loopw [3, 9] (fun s v wr => ∃ k : Nat, k <= d.kids.length /\ v = .int .i64 k /\ s = .int .i64 (mxL (depthT n) (d.kids.take k) : Nat) /\ Below w.heap.size w wr) (fun _ v _ => d.kids.length - (intOf v).toNat)
 case atStart => exact ⟨0, Nat.zero_le _, rfl, rfl, bel⟩
 case round =>
  obtain ⟨k, hk, rfl, rfl, hbr⟩ := hrel;by_cases hlt : k < d.kids.length
  ·skip
   obtain ⟨p, o, rfl, -, hbl, hcell⟩ := hA (by omega);obtain ⟨t, ht⟩ := exists_at hlt;obtain ⟨es, -, hcs, hC⟩ := hcell k t ht;obtain ⟨eA4, ec4, eA5, ec5, rfl, ea0, ea2, ea3⟩ := hC.flat;have hc0 := (hbr.cell (p := ⟨p, o + k * 6 + 0, none⟩) (by simp; omega)).trans (hcs 0 (by omega));simp at hc0;have hc1 := (hbr.cell (p := ⟨p, o + k * 6 + 1, none⟩) (by simp; omega)).trans (hcs 1 (by omega));simp at hc1
   have hc2 := (hbr.cell (p := ⟨p, o + k * 6 + 2, none⟩) (by simp; omega)).trans (hcs 2 (by omega));simp at hc2;have hc3 := (hbr.cell (p := ⟨p, o + k * 6 + 3, none⟩) (by simp; omega)).trans (hcs 3 (by omega));simp at hc3;have hc4 := (hbr.cell (p := ⟨p, o + k * 6 + 4, none⟩) (by simp; omega)).trans (hcs 4 (by omega));simp at hc4;have hc5 := (hbr.cell (p := ⟨p, o + k * 6 + 5, none⟩) (by simp; omega)).trans (hcs 5 (by omega))
   simp at hc5;have hbr1 := Nat.lt_of_lt_of_le hbl hbr.size;have hk0 : (0 : Int) <= k := by omega
   have hk1 : (k : Int) < d.kids.length := by omega
   have hs1 := size_kid (n := n) ht;have hd1 := depth_kid (n := n) ht;have hts : sizeT n t <= 1073741824 := by omega
   have HC := Lib.hid hC;have Hnx := Lib.hid (mxL_next (depthT n) ht);clear hcs hcell hA hC;obtain ⟨x, hx⟩ : ∃ x : Nat, x = mxL (depthT n) (d.kids.take k) := ⟨_, rfl⟩
   have hxb : x <= 1073741824 := by omega
   rw [<- hx];have HX := Lib.hid hx;obtain ⟨y, hy⟩ : ∃ y : Nat, y = depthT n t := ⟨_, rfl⟩
   have hyb : y + x <= 2147483648 := by have := depth_size n t; omega
   have HY := Lib.hid hy;clear hx hy hs1 hd1;go_wp2_with (go_at_call 150; refine (ih t _ _ _ (HC.out.now bel) hts).mono ?_; rintro e w9 ⟨rfl, hb9⟩; rw [<- HY.out])
   go_roundw
   case rel => exact ⟨k + 1, by omega, by go_num, by (have h1 := Hnx.out; rw [<- HX.out, <- HY.out] at h1; rw [h1]; simp; omega), bel⟩
   case measure => simp [intOf]; omega
  ·obtain rfl : k = d.kids.length := by omega
   have Hf := Lib.hid (show depthT (n + 1) d = mxL (depthT n) (d.kids.take d.kids.length) + 1 by rw [depthT_succ, List.take_of_length_le (Nat.le_refl _)]);obtain ⟨x, hx⟩ : ∃ x : Nat, x = mxL (depthT n) (d.kids.take d.kids.length) := ⟨_, rfl⟩
   rw [<- hx] at Hf;rw [<- hx];have hxb : x <= 1073741824 := by have := Hf.out; omega
   clear hA hx;go_wp2_with fail
   go_ret
   exact ⟨by rw [Hf.out]; go_num, bel⟩
theorem all_DepthI : ∀ n, T_DepthI n
 | 0 => fun _ _ _ _ h _ => (C_Tree.none h).elim
 | n + 1 => of_DepthI n (all_DepthI n)
def T_SizeI (n : Nat) : Prop := ∀ (d : TreeD) (cs : List Value) (w : World) (lo : Nat), C_Tree n lo w.heap.size w d cs -> sizeT n d <= 1073741824 ->
  Calls Tryz.prog 151 #[.agg cs.toArray] w fun e w' => e = .returned (.int .i64 (sizeT n d : Nat)) /\ Below w.heap.size w w'
theorem of_SizeI (n : Nat) (ih : T_SizeI n) : T_SizeI (n + 1) := by
 intro d cs w lo h hsz;have hds := depth_size (n + 1) d;obtain ⟨v4, v5, rfl, a0, a2, a3, a4, a5⟩ := C_Tree.out h;obtain ⟨A4, c4, rfl⟩ := a4.form;obtain ⟨A5, c5, rfl, hlc, hcc, hA⟩ := a5;clear h a4;go_enter Tryz.func151, Tryz.ntmps151
 go_wp2_with fail
 go_loopw [3, 9] (fun s v wr => ∃ k : Nat, k <= d.kids.length /\ v = .int .i64 k /\ s = .int .i64 (1 + szL (sizeT n) (d.kids.take k) : Nat) /\ Below w.heap.size w wr) (fun _ v _ => d.kids.length - (intOf v).toNat)
 case atStart => exact ⟨0, Nat.zero_le _, rfl, rfl, bel⟩
 case round =>
  obtain ⟨k, hk, rfl, rfl, hbr⟩ := hrel;by_cases hlt : k < d.kids.length
  ·skip
   obtain ⟨p, o, rfl, -, hbl, hcell⟩ := hA (by omega);obtain ⟨t, ht⟩ := exists_at hlt;obtain ⟨es, -, hcs, hC⟩ := hcell k t ht;obtain ⟨eA4, ec4, eA5, ec5, rfl, ea0, ea2, ea3⟩ := hC.flat;have hc0 := (hbr.cell (p := ⟨p, o + k * 6 + 0, none⟩) (by simp; omega)).trans (hcs 0 (by omega));simp at hc0;have hc1 := (hbr.cell (p := ⟨p, o + k * 6 + 1, none⟩) (by simp; omega)).trans (hcs 1 (by omega));simp at hc1
   have hc2 := (hbr.cell (p := ⟨p, o + k * 6 + 2, none⟩) (by simp; omega)).trans (hcs 2 (by omega));simp at hc2;have hc3 := (hbr.cell (p := ⟨p, o + k * 6 + 3, none⟩) (by simp; omega)).trans (hcs 3 (by omega));simp at hc3;have hc4 := (hbr.cell (p := ⟨p, o + k * 6 + 4, none⟩) (by simp; omega)).trans (hcs 4 (by omega));simp at hc4;have hc5 := (hbr.cell (p := ⟨p, o + k * 6 + 5, none⟩) (by simp; omega)).trans (hcs 5 (by omega))
   simp at hc5;have hbr1 := Nat.lt_of_lt_of_le hbl hbr.size;have hk0 : (0 : Int) <= k := by omega
   have hk1 : (k : Int) < d.kids.length := by omega
   have hs1 := size_kid (n := n) ht;have hd1 := depth_kid (n := n) ht;have hts : sizeT n t <= 1073741824 := by omega
   have HC := Lib.hid hC;have Hnx := Lib.hid (szL_take_succ (sizeT n) d.kids k t ht);clear hcs hcell hA hC;obtain ⟨x, hx⟩ : ∃ x : Nat, x = 1 + szL (sizeT n) (d.kids.take k) := ⟨_, rfl⟩
   have hxb : x <= 1073741824 := by omega
   rw [<- hx];have HX := Lib.hid hx;obtain ⟨y, hy⟩ : ∃ y : Nat, y = sizeT n t := ⟨_, rfl⟩
   have hyb : y + x <= 2147483648 := by have := depth_size n t; omega
   have HY := Lib.hid hy;clear hx hy hs1 hd1;go_wp2_with (go_at_call 151; refine (ih t _ _ _ (HC.out.now bel) hts).mono ?_; rintro e w9 ⟨rfl, hb9⟩; rw [<- HY.out])
   go_roundw
   case rel => exact ⟨k + 1, by omega, by go_num, by (have h1 := Hnx.out; have h2 := HX.out; have h3 := HY.out; go_num), bel⟩
   case measure => simp [intOf]; omega
  ·obtain rfl : k = d.kids.length := by omega
   have Hf := Lib.hid (show sizeT (n + 1) d = 1 + szL (sizeT n) (d.kids.take d.kids.length) by rw [sizeT_succ, List.take_of_length_le (Nat.le_refl _)]);obtain ⟨x, hx⟩ : ∃ x : Nat, x = 1 + szL (sizeT n) (d.kids.take d.kids.length) := ⟨_, rfl⟩
   rw [<- hx] at Hf;rw [<- hx];have hxb : x <= 1073741824 := by have := Hf.out; omega
   clear hA hx;go_wp2_with fail
   go_ret
   exact ⟨by rw [Hf.out]; rfl, bel⟩
theorem all_SizeI : ∀ n, T_SizeI n
 | 0 => fun _ _ _ _ h _ => (C_Tree.none h).elim
 | n + 1 => of_SizeI n (all_SizeI n)
def T_DepthS (n : Nat) : Prop := ∀ (d : TreeD) (cs : List Value) (w : World) (lo : Nat), C_Tree n lo w.heap.size w d cs -> sizeT n d <= 1073741824 ->
  Calls Tryz.prog 57 #[.agg cs.toArray] w fun e w' => e = .returned (.int .i64 (depthT n d : Nat)) /\ Below w.heap.size w w'
theorem of_DepthS (n : Nat) (ih : T_DepthS n) : T_DepthS (n + 1) := by
 intro d cs w lo h hsz;have hds := depth_size (n + 1) d;obtain ⟨v4, v5, rfl, a0, a2, a3, a4, a5⟩ := C_Tree.out h;obtain ⟨A4, c4, rfl⟩ := a4.form;obtain ⟨A5, c5, rfl, hlc, hcc, hA⟩ := a5;clear h a4;go_enter Tryz.func57, Tryz.ntmps57
 go_wp2_with fail
 go_loopw [3, 4] (fun s v wr => ∃ k : Nat, k <= d.kids.length /\ v = .int .i64 k /\ s = .int .i64 (mxL (depthT n) (d.kids.take k) : Nat) /\ wr.heap[w.heap.size]? = some (.cells #[.int .i64 d.kind, .bool d.flag, .int .i64 d.num, .string d.text, .slice A4 d.keys.length c4, .slice A5 d.kids.length c5] 34 (0, 0)) /\ Below w.heap.size w wr) (fun _ v _ => d.kids.length - (intOf v).toNat)
 case atStart => exact ⟨0, Nat.zero_le _, rfl, rfl, heap_at rfl, bel⟩
 case round =>
  obtain ⟨k, hk, rfl, rfl, hT, hbr⟩ := hrel;have HT := Lib.hid hT;clear hT;obtain ⟨x0, x1, x2, x3, x4, x5, xf⟩ := row6 HT.out;have hl1 := row_lt HT.out;by_cases hlt : k < d.kids.length
  ·skip
   obtain ⟨p, o, rfl, -, hbl, hcell⟩ := hA (by omega);obtain ⟨t, ht⟩ := exists_at hlt;obtain ⟨es, -, hcs, hC⟩ := hcell k t ht;obtain ⟨eA4, ec4, eA5, ec5, rfl, ea0, ea2, ea3⟩ := hC.flat;have hc0 := (hbr.cell (p := ⟨p, o + k * 6 + 0, none⟩) (by simp; omega)).trans (hcs 0 (by omega));simp at hc0;have hc1 := (hbr.cell (p := ⟨p, o + k * 6 + 1, none⟩) (by simp; omega)).trans (hcs 1 (by omega));simp at hc1
   have hc2 := (hbr.cell (p := ⟨p, o + k * 6 + 2, none⟩) (by simp; omega)).trans (hcs 2 (by omega));simp at hc2;have hc3 := (hbr.cell (p := ⟨p, o + k * 6 + 3, none⟩) (by simp; omega)).trans (hcs 3 (by omega));simp at hc3;have hc4 := (hbr.cell (p := ⟨p, o + k * 6 + 4, none⟩) (by simp; omega)).trans (hcs 4 (by omega));simp at hc4;have hc5 := (hbr.cell (p := ⟨p, o + k * 6 + 5, none⟩) (by simp; omega)).trans (hcs 5 (by omega))
   simp at hc5;have hbr1 := Nat.lt_of_lt_of_le hbl hbr.size;have hk0 : (0 : Int) <= k := by omega
   have hk1 : (k : Int) < d.kids.length := by omega
   have hs1 := size_kid (n := n) ht;have hd1 := depth_kid (n := n) ht;have hts : sizeT n t <= 1073741824 := by omega
   have HC := Lib.hid hC;have Hnx := Lib.hid (mxL_next (depthT n) ht);clear hcs hcell hA hC;obtain ⟨x, hx⟩ : ∃ x : Nat, x = mxL (depthT n) (d.kids.take k) := ⟨_, rfl⟩
   have hxb : x <= 1073741824 := by omega
   rw [<- hx];have HX := Lib.hid hx;obtain ⟨y, hy⟩ : ∃ y : Nat, y = depthT n t := ⟨_, rfl⟩
   have hyb : y + x <= 2147483648 := by have := depth_size n t; omega
   have HY := Lib.hid hy;clear hx hy hs1 hd1;have hyx : decide (x < y) = true ∨ decide (x < y) = false := by rcases decide (x < y) with _ | _ <;> simp
   rcases hyx with hyx | hyx
   focus
    have hyi : (x : Int) < y := by have := of_decide_eq_true hyx; omega
    have hn : max x y = y := by have := of_decide_eq_true hyx; omega
   rotate_left
   focus
    have hyi : decide ((x : Int) < y) = false := decide_eq_false (by have := of_decide_eq_false hyx; omega);have hn : max x y = x := by have := of_decide_eq_false hyx; omega
   rotate_left
   all_goals
    clear hyx;go_wp2_with (go_at_call 57; refine (ih t _ _ _ (HC.out.now bel) hts).mono ?_; rintro e w9 ⟨rfl, hb9⟩; rw [<- HY.out])
    go_roundw
    case rel => exact ⟨k + 1, by omega, by go_num, by (have h1 := Hnx.out; rw [<- HX.out, <- HY.out, hn] at h1; rw [h1]), (hb9.block _ (by first | omega | (simp; omega))).trans HT.out, bel⟩
    case measure => simp [intOf]; omega
  ·obtain rfl : k = d.kids.length := by omega
   have Hf := Lib.hid (show depthT (n + 1) d = mxL (depthT n) (d.kids.take d.kids.length) + 1 by rw [depthT_succ, List.take_of_length_le (Nat.le_refl _)]);obtain ⟨x, hx⟩ : ∃ x : Nat, x = mxL (depthT n) (d.kids.take d.kids.length) := ⟨_, rfl⟩
   rw [<- hx] at Hf;rw [<- hx];have hxb : x <= 1073741824 := by have := Hf.out; omega
   clear hA hx;go_wp2_with fail
   go_ret
   exact ⟨by rw [Hf.out]; go_num, bel⟩
theorem all_DepthS : ∀ n, T_DepthS n
 | 0 => fun _ _ _ _ h _ => (C_Tree.none h).elim
 | n + 1 => of_DepthS n (all_DepthS n)
def T_SizeS (n : Nat) : Prop := ∀ (d : TreeD) (cs : List Value) (w : World) (lo : Nat), C_Tree n lo w.heap.size w d cs -> sizeT n d <= 1073741824 ->
  Calls Tryz.prog 58 #[.agg cs.toArray] w fun e w' => e = .returned (.int .i64 (sizeT n d : Nat)) /\ Below w.heap.size w w'
theorem of_SizeS (n : Nat) (ih : T_SizeS n) : T_SizeS (n + 1) := by
 intro d cs w lo h hsz;have hds := depth_size (n + 1) d;obtain ⟨v4, v5, rfl, a0, a2, a3, a4, a5⟩ := C_Tree.out h;obtain ⟨A4, c4, rfl⟩ := a4.form;obtain ⟨A5, c5, rfl, hlc, hcc, hA⟩ := a5;clear h a4;go_enter Tryz.func58, Tryz.ntmps58
 go_wp2_with fail
 go_loopw [3, 4] (fun s v wr => ∃ k : Nat, k <= d.kids.length /\ v = .int .i64 k /\ s = .int .i64 (1 + szL (sizeT n) (d.kids.take k) : Nat) /\ wr.heap[w.heap.size]? = some (.cells #[.int .i64 d.kind, .bool d.flag, .int .i64 d.num, .string d.text, .slice A4 d.keys.length c4, .slice A5 d.kids.length c5] 34 (0, 0)) /\ Below w.heap.size w wr) (fun _ v _ => d.kids.length - (intOf v).toNat)
 case atStart => exact ⟨0, Nat.zero_le _, rfl, rfl, heap_at rfl, bel⟩
 case round =>
  obtain ⟨k, hk, rfl, rfl, hT, hbr⟩ := hrel;have HT := Lib.hid hT;clear hT;obtain ⟨x0, x1, x2, x3, x4, x5, xf⟩ := row6 HT.out;have hl1 := row_lt HT.out;by_cases hlt : k < d.kids.length
  ·skip
   obtain ⟨p, o, rfl, -, hbl, hcell⟩ := hA (by omega);obtain ⟨t, ht⟩ := exists_at hlt;obtain ⟨es, -, hcs, hC⟩ := hcell k t ht;obtain ⟨eA4, ec4, eA5, ec5, rfl, ea0, ea2, ea3⟩ := hC.flat;have hc0 := (hbr.cell (p := ⟨p, o + k * 6 + 0, none⟩) (by simp; omega)).trans (hcs 0 (by omega));simp at hc0;have hc1 := (hbr.cell (p := ⟨p, o + k * 6 + 1, none⟩) (by simp; omega)).trans (hcs 1 (by omega));simp at hc1
   have hc2 := (hbr.cell (p := ⟨p, o + k * 6 + 2, none⟩) (by simp; omega)).trans (hcs 2 (by omega));simp at hc2;have hc3 := (hbr.cell (p := ⟨p, o + k * 6 + 3, none⟩) (by simp; omega)).trans (hcs 3 (by omega));simp at hc3;have hc4 := (hbr.cell (p := ⟨p, o + k * 6 + 4, none⟩) (by simp; omega)).trans (hcs 4 (by omega));simp at hc4;have hc5 := (hbr.cell (p := ⟨p, o + k * 6 + 5, none⟩) (by simp; omega)).trans (hcs 5 (by omega))
   simp at hc5;have hbr1 := Nat.lt_of_lt_of_le hbl hbr.size;have hk0 : (0 : Int) <= k := by omega
   have hk1 : (k : Int) < d.kids.length := by omega
   have hs1 := size_kid (n := n) ht;have hd1 := depth_kid (n := n) ht;have hts : sizeT n t <= 1073741824 := by omega
   have HC := Lib.hid hC;have Hnx := Lib.hid (szL_take_succ (sizeT n) d.kids k t ht);clear hcs hcell hA hC;obtain ⟨x, hx⟩ : ∃ x : Nat, x = 1 + szL (sizeT n) (d.kids.take k) := ⟨_, rfl⟩
   have hxb : x <= 1073741824 := by omega
   rw [<- hx];have HX := Lib.hid hx;obtain ⟨y, hy⟩ : ∃ y : Nat, y = sizeT n t := ⟨_, rfl⟩
   have hyb : y + x <= 2147483648 := by have := depth_size n t; omega
   have HY := Lib.hid hy;clear hx hy hs1 hd1;go_wp2_with (go_at_call 58; refine (ih t _ _ _ (HC.out.now bel) hts).mono ?_; rintro e w9 ⟨rfl, hb9⟩; rw [<- HY.out])
   go_roundw
   case rel => exact ⟨k + 1, by omega, by go_num, by (have h1 := Hnx.out; have h2 := HX.out; have h3 := HY.out; go_num), (hb9.block _ (by first | omega | (simp; omega))).trans HT.out, bel⟩
   case measure => simp [intOf]; omega
  ·obtain rfl : k = d.kids.length := by omega
   have Hf := Lib.hid (show sizeT (n + 1) d = 1 + szL (sizeT n) (d.kids.take d.kids.length) by rw [sizeT_succ, List.take_of_length_le (Nat.le_refl _)]);obtain ⟨x, hx⟩ : ∃ x : Nat, x = 1 + szL (sizeT n) (d.kids.take d.kids.length) := ⟨_, rfl⟩
   rw [<- hx] at Hf;rw [<- hx];have hxb : x <= 1073741824 := by have := Hf.out; omega
   clear hA hx;go_wp2_with fail
   go_ret
   exact ⟨by rw [Hf.out]; rfl, bel⟩
theorem all_SizeS : ∀ n, T_SizeS n
 | 0 => fun _ _ _ _ h _ => (C_Tree.none h).elim
 | n + 1 => of_SizeS n (all_SizeS n)
end Go.Proofs.YtohcpifekcehjaaGreatDoor
