/- Steps to FnCrossed. No conditions. -/
import Derived.Test.YtohcpifekcehjaaGreatDoorKfcr2
import Derived.Test.YtohcpifekcehjaaGreatDoorKfcr1
import Derived.Shelf.Strings.CaseAny
import Derived.Shelf.Lays
import Derived.Lib.ConvBytes
import Derived.Lib.AppendStr
import Derived.Laws.IdiomStrings
import Derived.Lib.BufferRead
import Derived.Lib.ItoaNum
import Derived.Lib.AtoiAllCases
set_option maxHeartbeats 16000000
set_option maxRecDepth 20000
namespace Go.Proofs.YtohcpifekcehjaaGreatDoor
open Go.RowKit
def zs (M : List Nat) : List Int := M.map fun n : Nat => (n : Int)
theorem zs_len (M : List Nat) : (zs M).length = M.length := List.length_map _
theorem map_nil_app (o : Option (List Nat)) : o = o.map ([] ++ ·) := by cases o <;> rfl
theorem map_app (o : Option (List Nat)) (M : List Nat) (r : Nat) : (o.map (r :: ·)).map (M ++ ·) = o.map ((M ++ [r]) ++ ·) := by
 cases o with
 | none => rfl
 | some l => show some (M ++ (r :: l)) = some ((M ++ [r]) ++ l); rw [List.append_assoc]; rfl
theorem c_spec_RunesOf (s : ByteArray) (w : World) (hs : s.size <= 1048576) :
  Calls Tryz.prog 219 #[.string s] w fun e w' => ∃ (M : List Nat) (A : Option Addr) (c : Nat), e = .returned (.tuple #[.slice A M.length c, .bool (utf8B s)]) /\ (∀ l, runesAt s 0 = some l -> M = l) /\ RowE encZ 1 3 w.heap.size w' (zs M) (.slice A M.length c) /\ Below w.heap.size w w' := by
 obtain ⟨i0, hi, hz0, hz1, hz2⟩ := info_parts (show (Tryz.prog.info? 3).map (fun i => (i.zero, i.size, i.bytes)) = some (some (.int .i64 0), 1, 8) from by kernel_rfl);go_enter Tryz.func219, Tryz.ntmps219
 go_wp2_with fail
 go_loopw [4, 5] (fun s4 s5 wr => ∃ (i : Nat) (M : List Nat) (A : Option Addr) (c : Nat), i <= s.size /\ s5 = .int .i64 i /\ s4 = .slice A M.length c /\ RowE encZ 1 3 w.heap.size wr (zs M) (.slice A M.length c) /\ M.length <= i /\ runesAt s 0 = (runesAt s i).map (M ++ ·) /\ Below w.heap.size w wr) (fun _ s5 _ => s.size - (Lib.intOf s5).toNat)
 case atStart => exact ⟨0, [], some ⟨w.heap.size, 0, none⟩, 0, by omega, rfl, rfl, own_empty rfl (Nat.le_refl _), by simp, map_nil_app _, bel⟩
 case round =>
  obtain ⟨i, M, A, c, hil, rfl, rfl, hR, hMi, hrun, hbr⟩ := hrel;have HR := Lib.hid hR;have HRun := Lib.hid hrun;clear hR hrun;by_cases hlt : (i : Int) < s.size
  ·have h0 : (0 : Int) <= i := by omega
   go_wp2_with fail
   refine (c_spec_RuneAt s i _ (by omega) (by omega)).mono ?_;rintro e w1 ⟨rfl, hb⟩;have hsz := hb.size;have B1 : Below w.heap.size w w1 := hbr.trans (hb.mono hbr.size);by_cases hd : Utf8.decode s i = (65533, 1)
   ·have Hf := Lib.hid (show utf8B s = false by unfold utf8B; rw [HRun.out, runesAt_bad (by omega) hd]; rfl)
    have Hn := Lib.hid (show ∀ l, runesAt s 0 = some l -> ([] : List Nat) = l from fun l h => by rw [HRun.out, runesAt_bad (by omega) hd] at h; cases h);rw [runeB_bad (by omega) hd];clear hd;go_wp2_with fail
    go_ret2
    exact ⟨[], some ⟨w1.heap.size, 0, none⟩, 0, by rw [Hf.out]; rfl, Hn.out, own_empty rfl B1.size, bel⟩
   ·obtain ⟨d1, d2, d3⟩ := decode_fits s i (by omega)
    have hst := runesAt_step (show i < s.size by omega) hd;rw [runeB_good (by omega) hd];obtain ⟨r, hr⟩ : ∃ r, r = (Utf8.decode s i).1 := ⟨_, rfl⟩
    obtain ⟨q, hq⟩ : ∃ q, q = i + (Utf8.decode s i).2 := ⟨_, rfl⟩
    rw [<- hr, <- hq] at hst;rw [<- hr, <- hq];have hqs : q <= s.size := by omega
    have hqi : i < q := by omega
    have Hrun := Lib.hid (show runesAt s 0 = (runesAt s q).map ((M ++ [r]) ++ ·) by rw [HRun.out, hst, map_app]);have hq0 : decide ((q : Int) < 0) = false := decide_eq_false (by omega);clear hr hq hst hd d1 d2 d3 HRun;have hR1 := HR.out.below hb;have hb0 : Below w1.heap.size w1 (w1.alloc (.cells #[.int .i64 (r : Int)] 3)) := bel;obtain ⟨v5, w5, hr5, hR5, hg5, -⟩ := run_append_rows (P := Tryz.prog) (enc := encZ) (C := C_Z) (w1.alloc (.cells #[.int .i64 (r : Int)] 3)) 132 132 w.heap.size 3 i0 (.int .i64 0) 1 8 Tryz.underlying132 hi hz0 hz1 hz2 rfl (by decide) encZ_len encZ_one encZ_C _ M.length (zs M) (zs_len M) (hR1.below hb0) [(r : Int)] (some ⟨w1.heap.size, 0, none⟩) 1 1 _ _ rfl (sl_one (C := C_Z) encZ_len w1 (r : Int) rfl 3 _ rfl) (by unfold maxLen; omega) (by omega) (by have := B1.size; simp; omega)
    have hE : zs M ++ [(r : Int)] = zs (M ++ [r]) := by unfold zs; rw [List.map_append]; rfl
    rw [hE] at hR5;obtain ⟨A5, c5, rfl⟩ := hR5.form;have HR5 := Lib.hid hR5;have HB5 := Lib.hid (show Below w.heap.size w w5 from Below.grown (B1.trans (hb0.mono B1.size)) hg5 (by have := B1.size; simp; omega) (fun q hq => (World.ownsRow.lt hR1 q hq).1));have HL := Lib.hid (show (zs (M ++ [r])).length = M.length + 1 by rw [zs_len]; simp);clear hR5 hg5 hb0 hR1 hE hb;go_wp2_with (at_builtin; refine wpList_append_of rfl (.tmp 22) (.tmp 24) 132 rfl _ _ _ w5 rfl rfl hr5 ?_)
    clear hr5;go_roundw
    case rel => exact ⟨q, M ++ [r], A5, c5, hqs, rfl, by rw [zs_len], by have h9 := HR5.out; rw [zs_len] at h9; exact h9, by simp; omega, Hrun.out, HB5.out⟩
    case measure => simp [Lib.intOf]; omega
  ·have he : runesAt s i = some [] := runesAt_end (by omega)
   have Hf := Lib.hid (show utf8B s = true by unfold utf8B; rw [HRun.out, he]; rfl);have Hn := Lib.hid (show ∀ l, runesAt s 0 = some l -> M = l from fun l h => by rw [HRun.out, he] at h; simpa using h);go_wp2_with fail
   go_ret2
   exact ⟨M, A, c, by rw [Hf.out]; rfl, Hn.out, HR.out, hbr⟩
theorem c_spec_Utf8Ok (s : ByteArray) (w : World) (hs : s.size <= 1048576) :
  Calls Tryz.prog 195 #[.string s] w fun e w' => e = .returned (.bool (utf8B s)) /\ Below w.heap.size w w' := by
 go_enter Tryz.func195, Tryz.ntmps195
 go_wp2_with fail
 refine (c_spec_RunesOf s _ hs).mono ?_;rintro e w1 ⟨M, A, c, rfl, -, -, hb⟩;go_wp2_with fail
 go_ret
 exact ⟨rfl, hb⟩
structure Flt where
 code : Int
 at' : Int
 path : ByteArray
def fltC (f : Flt) : Array Value := #[.int .i64 f.code, .int .i64 f.at', .string f.path]
def flt0 : Flt := ⟨0, 0, ⟨#[]⟩⟩
def textF (s : ByteArray) : Flt := if 20000 < s.size then ⟨1, 0, ⟨#[]⟩⟩ else if 0 <= badAt s 0 then ⟨2, badAt s 0, ⟨#[]⟩⟩ else flt0
theorem c_impl_textFault (s : ByteArray) (w : World) (hs : s.size <= 1048576) (hT : Tabs w) :
  Calls Tryz.prog 91 #[.string s] w fun e w' => e = .returned (.agg (fltC (textF s))) /\ Below w.heap.size w w' := by
 have HT := Lib.hid hT;clear hT;by_cases hl : (20000 : Int) < s.size
 ·have Hf := Lib.hid (show textF s = ⟨1, 0, ⟨#[]⟩⟩ by unfold textF; rw [if_pos (by omega)])
  go_enter Tryz.func91, Tryz.ntmps91
  go_wp2_with fail
  exact bodyPost_ret (v := .agg #[.int .i64 1, .int .i64 0, .string ⟨#[]⟩]) (by simp only [results, Tryz.results91]; go_simp) rfl ⟨by rw [Hf.out]; rfl, bel⟩
 ·have hl2 : s.size <= 20000 := by omega
  have hl3 : decide ((20000 : Int) < s.size) = false := decide_eq_false hl;clear hl;go_enter Tryz.func91, Tryz.ntmps91
  go_wp2_with fail
  go_loopw [3] (fun s3 wr => ∃ i : Nat, i <= s.size /\ s3 = .int .i64 i /\ badAt s 0 = badAt s i /\ wr.heap[w.heap.size]? = some (.cells #[.int .i64 0, .int .i64 0, .string ⟨#[]⟩] 23 (0, 0)) /\ Below w.heap.size w wr) (fun s3 _ => s.size - (Lib.intOf s3).toNat)
  case atStart => exact ⟨0, by omega, rfl, rfl, heap_at (by simp), bel⟩
  case round =>
   obtain ⟨i, hil, rfl, hrun, hbox, hbr⟩ := hrel;have HRun := Lib.hid hrun;have HBox := Lib.hid hbox;have hlb := row_lt hbox;clear hrun hbox;by_cases hlt : (i : Int) < s.size
   ·have h0 : (0 : Int) <= i := by omega
    go_wp2_with fail
    refine (c_impl_RuneAt s i _ (by omega) (by omega) (HT.out.below hbr)).mono ?_;rintro e w1 ⟨rfl, hb⟩;have B1 : Below w.heap.size w w1 := hbr.trans (hb.mono hbr.size);have hbox := (hb.block _ hlb).trans HBox.out;obtain ⟨a0, a1, a2, af⟩ := row3 hbox;have hlc := row_lt hbox;have HBo := Lib.hid hbox;clear hbox;by_cases hd : Utf8.decode s i = (65533, 1)
    ·have Hf := Lib.hid (show textF s = ⟨2, i, ⟨#[]⟩⟩ by unfold textF; rw [if_neg (by omega), HRun.out, badAt_bad (by omega) hd, if_pos (by omega)])
     rw [runeB_bad (by omega) hd];clear hd;go_wp2_with fail
     exact bodyPost_ret (v := .agg #[.int .i64 2, .int .i64 i, .string ⟨#[]⟩]) (by simp only [results, Tryz.results91]; go_simp) rfl ⟨by rw [Hf.out]; rfl, bel⟩
    ·obtain ⟨d1, d2, d3⟩ := decode_fits s i (by omega)
     have hst := badAt_step (show i < s.size by omega) hd;rw [runeB_good (by omega) hd];obtain ⟨r, hr⟩ : ∃ r, r = (Utf8.decode s i).1 := ⟨_, rfl⟩
     obtain ⟨q, hq⟩ : ∃ q, q = i + (Utf8.decode s i).2 := ⟨_, rfl⟩
     rw [<- hq] at hst;rw [<- hr, <- hq];have hqs : q <= s.size := by omega
     have hqi : i < q := by omega
     have Hrun := Lib.hid (show badAt s 0 = badAt s q by rw [HRun.out, hst]);have hq0 : decide ((q : Int) < 0) = false := decide_eq_false (by omega);clear hr hq hst hd d1 d2 d3 HRun;go_wp2_with fail
     go_roundw
     case rel => exact ⟨q, hqs, rfl, Hrun.out, HBo.out, B1⟩
     case measure => simp [Lib.intOf]; omega
   ·have Hf := Lib.hid (show textF s = flt0 by unfold textF; rw [if_neg (by omega), HRun.out, badAt_end (by omega), if_neg (by omega)])
    obtain ⟨a0, a1, a2, af⟩ := row3 HBox.out;go_wp2_with fail
    exact bodyPost_ret (v := .agg #[.int .i64 0, .int .i64 0, .string ⟨#[]⟩]) (by simp only [results, Tryz.results91]; go_simp) rfl ⟨by rw [Hf.out]; rfl, bel⟩
def byteI (s : ByteArray) (j : Nat) : Int := ((s.get! j).toNat : Int)
theorem byteI_range (s : ByteArray) (j : Nat) : 0 <= byteI s j /\ byteI s j < 256 := by
 have := (s.get! j).toNat_lt;unfold byteI;omega
def lowV (x : Int) : Int := if 48 <= x /\ x <= 57 then x - 48 else if 97 <= x /\ x <= 102 then x - 87 else -1
def hexV (x : Int) : Int := if 65 <= x /\ x <= 70 then x - 55 else lowV x
theorem lowV_range (x : Int) : -1 <= lowV x /\ lowV x < 16 := by
 unfold lowV;split
 ·omega
 ·split <;> omega
theorem hexV_range (x : Int) : -1 <= hexV x /\ hexV x < 16 := by
 unfold hexV;split
 ·omega
 ·exact lowV_range x
def fourR (s : ByteArray) : Nat -> Nat -> Int -> Int
 | 0, _, n => n
 | k + 1, j, n => if hexV (byteI s j) < 0 then -1 else fourR s k (j + 1) (16 * n + hexV (byteI s j))
def fourB (s : ByteArray) (i : Nat) : Int := if i + 4 <= s.size then fourR s 4 i 0 else -1
theorem fourB_range (s : ByteArray) (i : Nat) : -1 <= fourB s i /\ fourB s i < 65536 := by
 have h0 := hexV_range (byteI s i);have h1 := hexV_range (byteI s (i + 1));have h2 := hexV_range (byteI s (i + 1 + 1));have h3 := hexV_range (byteI s (i + 1 + 1 + 1));unfold fourB;split
 ·simp only [fourR]
  repeat' split
  all_goals omega
 ·omega
def escB (s : ByteArray) (i : Nat) : Int × Int :=
 if i < s.size then
  (if byteI s i = 34 ∨ byteI s i = 92 ∨ byteI s i = 47 then (byteI s i, (i : Int) + 1)
  else if byteI s i = 98 then (8, (i : Int) + 1)
  else if byteI s i = 102 then (12, (i : Int) + 1)
  else if byteI s i = 110 then (10, (i : Int) + 1)
  else if byteI s i = 114 then (13, (i : Int) + 1)
  else if byteI s i = 116 then (9, (i : Int) + 1)
  else if byteI s i = 117 then
   (if fourB s (i + 1) < 0 ∨ inB (fourB s (i + 1)) 56320 57343 = true then (0, -1)
   else if inB (fourB s (i + 1)) 55296 56319 = false then (fourB s (i + 1), (i : Int) + 5)
   else if s.size < i + 7 ∨ byteI s (i + 5) ≠ 92 ∨ byteI s (i + 6) ≠ 117 then (0, -1)
   else if inB (fourB s (i + 7)) 56320 57343 = true then (65536 + 1024 * (fourB s (i + 1) - 55296) + fourB s (i + 7) - 56320, (i : Int) + 11)
   else (0, -1))
  else (0, -1))
 else (0, -1)
open Go.RowKit Go.Lib
def rowHigh (x : CaseRow) : Bool :=
 decide (x.2.1 < 128) || (if x.delta 1 > 1114111 then decide (128 <= x.1) else (decide (128 <= (x.1 : Int) + x.delta 1) || (decide (x.1 = x.2.1) && (decide ((x.1 : Int) + x.delta 1 = 105) || decide ((x.1 : Int) + x.delta 1 = 107)))))
theorem rowsHigh : caseT.all rowHigh = true := by decide
theorem caseA_high (i : Nat) (hi : i < caseA.size) : rowHigh (caseA.getD i (0, 0, 0, 0, 0)) = true := by
 have hm : caseA.getD i (0, 0, 0, 0, 0) ∈ caseT := by
  unfold caseA at hi ⊢;simp only [List.size_toArray] at hi;simp [Array.getD, hi]
 exact List.all_eq_true.1 rowsHigh _ hm
theorem convert_high (x : CaseRow) (hx : rowHigh x = true) (r : Int) (hr : 128 <= r) (hlo : (x.1 : Int) <= r) (hhi : r <= (x.2.1 : Int)) : 128 <= convertR 1 r x ∨ convertR 1 r x = 105 ∨ convertR 1 r x = 107 := by
 unfold rowHigh at hx;unfold convertR;rw [Bool.or_eq_true] at hx;rcases hx with h | h
 ·have := of_decide_eq_true h
  omega
 ·split at h
  ·rename_i hd
   have := of_decide_eq_true h;rw [if_pos hd]
   left
   omega
  ·rename_i hd
   rw [if_neg hd];simp only [Bool.or_eq_true, Bool.and_eq_true, decide_eq_true_eq] at h;omega
theorem lower_high (r : Nat) (hr : 128 <= r) : 128 <= toLowerU r ∨ toLowerU r = 105 ∨ toLowerU r = 107 := by
 unfold toLowerU;rw [if_neg (by omega)];unfold toR lookupGo;cases hi : lookupIdx caseA (r : Int) (caseA.size + 1) 0 caseA.size with
 | none => left; show 128 <= (r : Int); omega
 | some i =>
  obtain ⟨hil, hlo, hhi⟩ := lookupIdx_some caseA (r : Int) _ _ _ i hi;exact convert_high _ (caseA_high i hil) r (by omega) hlo hhi
theorem decode_high (b : UInt8) (t : List UInt8) (h : 128 <= b.toNat) : 128 <= (decodeL (b :: t)).1 /\ (decodeL (b :: t)).1 <= 1114111 := by
 rw [decodeL_N];simp only [List.getD_cons_zero];unfold decodeN;repeat' split
 all_goals (constructor <;> simp only <;> omega)
theorem lowV_neg {x : Int} (h : 103 <= x) : lowV x = -1 := by
 unfold lowV;rw [if_neg (by omega), if_neg (by omega)]
theorem hexV_neg {x : Int} (h : 103 <= x) : hexV x = -1 := by
 unfold hexV;rw [if_neg (by omega), lowV_neg h]
theorem enc_high (q : Int) (h : 128 <= q ∨ q = 105 ∨ q = 107) : ∃ x t, encodeRune q = x :: t /\ 103 <= x.toNat := by
 unfold encodeRune encodeRuneZ
 have key : ∀ z : Int, 103 <= z -> z < 256 -> 103 <= (z.toNat.toUInt8).toNat := fun z h1 h2 => by
  rw [show (z.toNat.toUInt8).toNat = z.toNat % 256 from UInt8.toNat_ofNat'];omega
 repeat' split
 all_goals exact ⟨_, _, rfl, key _ (by omega) (by omega)⟩
theorem hex_low (b : UInt8) (h : b.toNat < 128) : lowV ((Lib.lowerB b).toNat : Int) = hexV (b.toNat : Int) := by
 have key : ∀ i : Fin 128, lowV ((Lib.lowerB (UInt8.ofNat i.val)).toNat : Int) = hexV (i.val : Int) := by decide
 have := key ⟨b.toNat, h⟩
 simpa using this
def runL : List UInt8 -> Int -> Int
 | [], n => n
 | b :: t, n => if lowV (b.toNat : Int) < 0 then -1 else runL t (16 * n + lowV (b.toNat : Int))
def runH : List UInt8 -> Int -> Int
 | [], n => n
 | b :: t, n => if hexV (b.toNat : Int) < 0 then -1 else runH t (16 * n + hexV (b.toNat : Int))
theorem lower_step (b : UInt8) (t : List UInt8) (h : b.toNat < 128) : toLowerD (b :: t) = Lib.lowerB b :: toLowerD t := by
 unfold toLowerD;rw [mapD_step toLowerU (b :: t) (by simp), decodeL_ascii b t h];dsimp only
 have e : encodeRune (toLowerU (b.toNat : Int)) = [Lib.lowerB b] := by
  have := lower_byte ⟨b.toNat, h⟩
  simpa using this
 rw [if_pos (toLowerU_range b.toNat (by omega)).1, e, List.drop_succ_cons, List.drop_zero];rfl
theorem lower_stop (b : UInt8) (t : List UInt8) (h : 128 <= b.toNat) : ∃ x u, toLowerD (b :: t) = x :: u /\ 103 <= x.toNat := by
 unfold toLowerD;obtain ⟨h1, h2⟩ := decode_high b t h;obtain ⟨x, u, e, hx⟩ := enc_high _ (lower_high _ h1);rw [mapD_step toLowerU (b :: t) (by simp), if_pos (toLowerU_range _ h2).1, e];exact ⟨x, _, rfl, hx⟩
theorem runL_lower : ∀ (l : List UInt8) (n : Int), runL (toLowerD l) n = runH l n
 | [], _ => rfl
 | b :: t, n => by
  by_cases h : b.toNat < 128
  ·rw [lower_step b t h]
   unfold runL runH;rw [hex_low b h, runL_lower t]
  ·obtain ⟨x, u, e, hx⟩ := lower_stop b t (by omega)
   rw [e];unfold runL runH;rw [lowV_neg (by omega), hexV_neg (by omega)];rfl
theorem lower_end : ∀ l : List UInt8, ∃ p, p <= l.length /\ (p = (toLowerD l).length ∨ ∃ x, (toLowerD l)[p]? = some x /\ lowV (x.toNat : Int) < 0)
 | [] => ⟨0, Nat.le_refl _, .inl rfl⟩
 | b :: t => by
  by_cases h : b.toNat < 128
  ·obtain ⟨p, hp, hq⟩ := lower_end t
   rw [lower_step b t h];exact ⟨p + 1, by simp; omega, by simpa using hq⟩
  ·obtain ⟨x, u, e, hx⟩ := lower_stop b t (by omega)
   rw [e];exact ⟨0, Nat.zero_le _, .inr ⟨x, rfl, by rw [lowV_neg (by omega)]; decide⟩⟩
theorem fourR_runH (s : ByteArray) : ∀ (k j : Nat) (n : Int), j + k <= s.size -> fourR s k j n = runH ((s.data.toList.drop j).take k) n
 | 0, _, _, _ => by simp [fourR, runH]
 | k + 1, j, n, h => by
  have hj : j < s.data.toList.length := by rw [Array.length_toList]; exact Nat.lt_of_lt_of_le (by omega) h
  have hb : byteI s j = ((s.data.toList[j]).toNat : Int) := by
   unfold byteI
   have : s.get! j = s.data.toList[j] := by
    show s.data[j]! = _
    rw [getElem!_pos s.data j (by simpa using hj)];simp
   rw [this]
  rw [List.drop_eq_getElem_cons hj, List.take_succ_cons];unfold fourR runH;rw [hb, fourR_runH s k (j + 1) _ (by omega)]
open Go.Shelf
def laysLow_ren : Go.Shelf.Ren := ⟨fun | 159 => 280 | 165 => 153 | 166 => 154 | 167 => 293 | 169 => 155 | 230 => 294 | 204 => 295 | 240 => 216 | 241 => 217 | 197 => 224 | 118 => 300 | 168 => 301 | 270 => 302 | 262 => 303 | 276 => 253 | 277 => 254 | 260 => 257 | 242 => 304 | 313 => 305 | 278 => 306 | 274 => 307 | 275 => 308 | n => n, fun | 9 => 9 | 4 => 4 | 3 => 3 | 5 => 5 | 72 => 139 | 0 => 0 | 76 => 142 | 75 => 141 | 107 => 238 | 70 => 137 | 20 => 20 | 37 => 28 | 127 => 175 | 21 => 21 | 105 => 180 | 164 => 198 | 162 => 252 | 203 => 250 | 119 => 219 | 46 => 179 | 139 => 222 | 138 => 221 | 51 => 202 | 160 => 253 | 208 => 259 | 206 => 257 | 80 => 144 | n => n, fun | 13 => 8 | 3 => 1 | 4 => 2 | n => n⟩
theorem laysLow : Go.Proofs.Lays.n159 Tryz.prog laysLow_ren := {
 mixed := by kernel_rfl
 f118 := Tryz.func300.trans (congrArg some (by kernel_rfl))
 f159 := Tryz.func280.trans (congrArg some (by kernel_rfl))
 f165 := Tryz.func153.trans (congrArg some (by kernel_rfl))
 f166 := Tryz.func154.trans (congrArg some (by kernel_rfl))
 f167 := Tryz.func293.trans (congrArg some (by kernel_rfl))
 f168 := Tryz.func301.trans (congrArg some (by kernel_rfl))
 f169 := Tryz.func155.trans (congrArg some (by kernel_rfl))
 f197 := Tryz.func224.trans (congrArg some (by kernel_rfl))
 f204 := Tryz.func295.trans (congrArg some (by kernel_rfl))
 f230 := Tryz.func294.trans (congrArg some (by kernel_rfl))
 f240 := Tryz.func216.trans (congrArg some (by kernel_rfl))
 f241 := Tryz.func217.trans (congrArg some (by kernel_rfl))
 f242 := Tryz.func304.trans (congrArg some (by kernel_rfl))
 f260 := Tryz.func257.trans (congrArg some (by kernel_rfl))
 f262 := Tryz.func303.trans (congrArg some (by kernel_rfl))
 f270 := Tryz.func302.trans (congrArg some (by kernel_rfl))
 f274 := Tryz.func307.trans (congrArg some (by kernel_rfl))
 f275 := Tryz.func308.trans (congrArg some (by kernel_rfl))
 f276 := Tryz.func253.trans (congrArg some (by kernel_rfl))
 f277 := Tryz.func254.trans (congrArg some (by kernel_rfl))
 f278 := Tryz.func306.trans (congrArg some (by kernel_rfl))
 f313 := Tryz.func305.trans (congrArg some (by kernel_rfl))
 t0 := Tryz.underlying0
 a0 := Tryz.isAgg0
 z0 := Tryz.sizeOf0
 v0 := Tryz.zeroValue0
 t3 := Tryz.underlying3
 a3 := Tryz.isAgg3
 z3 := Tryz.sizeOf3
 v3 := Tryz.zeroValue3
 t4 := Tryz.underlying4
 a4 := Tryz.isAgg4
 z4 := Tryz.sizeOf4
 v4 := Tryz.zeroValue4
 t5 := Tryz.underlying5
 a5 := Tryz.isAgg5
 z5 := Tryz.sizeOf5
 v5 := Tryz.zeroValue5
 t9 := Tryz.underlying9
 a9 := Tryz.isAgg9
 z9 := Tryz.sizeOf9
 v9 := Tryz.zeroValue9
 t20 := Tryz.underlying20
 a20 := Tryz.isAgg20
 z20 := Tryz.sizeOf20
 v20 := Tryz.zeroValue20
 t21 := Tryz.underlying21
 a21 := Tryz.isAgg21
 z21 := Tryz.sizeOf21
 v21 := Tryz.zeroValue21
 t37 := Tryz.underlying28
 a37 := Tryz.isAgg28
 z37 := Tryz.sizeOf28
 v37 := Tryz.zeroValue28
 t46 := Tryz.underlying179
 a46 := Tryz.isAgg179
 z46 := Tryz.sizeOf179
 v46 := Tryz.zeroValue179
 t51 := Tryz.underlying202
 a51 := Tryz.isAgg202
 z51 := Tryz.sizeOf202
 v51 := Tryz.zeroValue202
 t70 := Tryz.underlying137
 a70 := Tryz.isAgg137
 z70 := Tryz.sizeOf137
 v70 := Tryz.zeroValue137
 t72 := Tryz.underlying139
 a72 := Tryz.isAgg139
 z72 := Tryz.sizeOf139
 v72 := Tryz.zeroValue139
 t75 := Tryz.underlying141
 a75 := Tryz.isAgg141
 z75 := Tryz.sizeOf141
 v75 := Tryz.zeroValue141
 t76 := Tryz.underlying142
 a76 := Tryz.isAgg142
 z76 := Tryz.sizeOf142
 v76 := Tryz.zeroValue142
 t105 := Tryz.underlying180
 a105 := Tryz.isAgg180
 z105 := Tryz.sizeOf180
 v105 := Tryz.zeroValue180
 t107 := Tryz.underlying238
 a107 := Tryz.isAgg238
 z107 := Tryz.sizeOf238
 v107 := Tryz.zeroValue238
 t119 := Tryz.underlying219
 a119 := Tryz.isAgg219
 z119 := Tryz.sizeOf219
 t127 := Tryz.underlying175
 a127 := Tryz.isAgg175
 z127 := Tryz.sizeOf175
 v127 := Tryz.zeroValue175
 t138 := Tryz.underlying221
 a138 := Tryz.isAgg221
 z138 := Tryz.sizeOf221
 v138 := Tryz.zeroValue221
 t139 := Tryz.underlying222
 a139 := Tryz.isAgg222
 z139 := Tryz.sizeOf222
 v139 := Tryz.zeroValue222
 t160 := Tryz.underlying253
 a160 := Tryz.isAgg253
 z160 := Tryz.sizeOf253
 v160 := Tryz.zeroValue253
 t162 := Tryz.underlying252
 a162 := Tryz.isAgg252
 z162 := Tryz.sizeOf252
 v162 := Tryz.zeroValue252
 t164 := Tryz.underlying198
 a164 := Tryz.isAgg198
 z164 := Tryz.sizeOf198
 v164 := Tryz.zeroValue198
 t203 := Tryz.underlying250
 a203 := Tryz.isAgg250
 z203 := Tryz.sizeOf250
 v203 := Tryz.zeroValue250
 t206 := Tryz.underlying257
 a206 := Tryz.isAgg257
 z206 := Tryz.sizeOf257
 v206 := Tryz.zeroValue257
 t208 := Tryz.underlying259
 a208 := Tryz.isAgg259
 z208 := Tryz.sizeOf259
 v208 := Tryz.zeroValue259
 g3 := by kernel_rfl
 g4 := by kernel_rfl
 g13 := by kernel_rfl }
def CTab (w : World) : Prop := Lib.CaseVar (laysLow_ren.g 13) caseA w
theorem CTab.below {w w' : World} (h : CTab w) (hb : Below w.heap.size w w') : CTab w' := CaseVar_below h hb
theorem lowX : Builder.Extra Tryz.prog laysLow_ren := {
 sizeBuilder := by kernel_rfl
 liesBuilder := by kernel_rfl
 t5 := Tryz.underlying5
 a5 := Tryz.isAgg5
 z5 := Tryz.sizeOf5
 v5 := Tryz.zeroValue5
 infoByte := by kernel_rfl
 cellsByte := by kernel_rfl
 sizeByte := by kernel_rfl
 neB5 := by decide }
theorem c_ToLower (s : ByteArray) (w : World) (hs : s.size < 35184372088832) (hV : CTab w) (hT : Tabs w) :
  Calls Tryz.prog 280 #[.string s] w fun e w' => e = .returned (.string ⟨(Lib.toLowerD s.data.toList).toArray⟩) /\ Below w.heap.size w w' :=
 Any.strings_ToLower_any laysLow lowX s w hs hV hT
theorem idx_hex (x : UInt8) : Lib.indexByte [48, 49, 50, 51, 52, 53, 54, 55, 56, 57, 97, 98, 99, 100, 101, 102] x = lowV (x.toNat : Int) := by
 have key : ∀ i : Fin 256, Lib.indexByte [48, 49, 50, 51, 52, 53, 54, 55, 56, 57, 97, 98, 99, 100, 101, 102] (UInt8.ofNat i.val) = lowV (i.val : Int) := by decide
 have := key ⟨x.toNat, x.toNat_lt⟩
 simpa using this
theorem c_IndexHex (x : UInt8) (w : World) : Calls Tryz.prog 130 #[.string { data := #[48, 49, 50, 51, 52, 53, 54, 55, 56, 57, 97, 98, 99, 100, 101, 102] }, .int .u8 x.toNat] w fun e w' => e = .returned (.int .i64 (lowV (x.toNat : Int))) /\ w = w' :=
 (c_strings_IndexByte _ x w).mono (fun _ _ h => ⟨h.1.trans (congrArg (fun z => Ending.returned (Value.int .i64 z)) (idx_hex x)), h.2⟩)
theorem extract_list (s : ByteArray) (i k : Nat) : (s.extract i (i + k)).data.toList = (s.data.toList.drop i).take k := by
 rw [ByteArray.data_extract, Array.toList_extract, List.extract_eq_take_drop];congr 1
 omega
theorem fourB_run (s : ByteArray) (i : Nat) (h : i + 4 <= s.size) : fourB s i = runL (toLowerD (s.extract i (i + 4)).data.toList) 0 := by
 unfold fourB;rw [if_pos h, fourR_runH s 4 i 0 h, runL_lower, extract_list]
theorem runL_step (l : List UInt8) (j : Nat) (n : Int) (h : j < l.length) : runL (l.drop j) n = if lowV ((l.getD j 0).toNat : Int) < 0 then -1 else runL (l.drop (j + 1)) (16 * n + lowV ((l.getD j 0).toNat : Int)) := by
 rw [List.drop_eq_getElem_cons h];have : l.getD j 0 = l[j] := by simp [List.getD, h]
 rw [this];rfl
theorem runL_end (l : List UInt8) (n : Int) : runL (l.drop l.length) n = n := by rw [List.drop_length]; rfl
def fourV (s : ByteArray) (i : Nat) : Int := if fourB s i < 0 then 0 else fourB s i
def fourOk (s : ByteArray) (i : Nat) : Bool := decide (0 <= fourB s i)
theorem four_no {s : ByteArray} {i : Nat} (h : fourB s i < 0) : fourV s i = 0 /\ fourOk s i = false :=
 ⟨if_pos h, decide_eq_false (by omega)⟩
theorem four_yes {s : ByteArray} {i : Nat} {n : Int} (h : fourB s i = n) (hn : 0 <= n) : fourV s i = n /\ fourOk s i = true :=
 ⟨by unfold fourV; rw [if_neg (by omega), h], decide_eq_true (by omega)⟩
theorem c_impl_fourDigits (s : ByteArray) (i : Nat) (w : World) (hs : s.size <= 1048576) (hi : i <= 2097152) (hV : CTab w) (hT : Tabs w) :
  Calls Tryz.prog 262 #[.string s, .int .i64 i] w fun e w' => e = .returned (.tuple #[.int .i64 (fourV s i), .bool (fourOk s i)]) /\ Below w.heap.size w w' := by
 have kc := fun (w : World) (s : ByteArray) => Lib.run_convert_string_bytes (P := Tryz.prog) w 9 28 5 s (u := .string) Tryz.underlying9 Tryz.underlying28 Tryz.underlying5
 obtain ⟨p4, hp4⟩ : ∃ p, p = i + 4 := ⟨_, rfl⟩
 have hpe : (i : Int) + 4 = p4 := by omega
 have HP := hid hp4;have HVT := hid (And.intro hV hT);clear hV hT;by_cases hl : s.size < p4
 ·have Hf := hid (four_no (show fourB s i < 0 by unfold fourB; rw [if_neg (by omega)]; decide))
  have hl2 : (s.size : Int) - 4 < i := by omega
  clear hp4 hl;go_enter Tryz.func262, Tryz.ntmps262
  go_wp2_with fail
  go_ret2
  exact ⟨by rw [Hf.out.1, Hf.out.2]; rfl, Below.refl _ _⟩
 ·have Hf := hid (show fourB s i = runL (toLowerD (s.extract i p4).data.toList) 0 by rw [hp4]; exact fourB_run s i (by omega))
  have hl2 : decide ((s.size : Int) - 4 < i) = false := decide_eq_false (by omega);have hl4 : (p4 : Int) <= s.size := by omega
  have hl5 : p4 <= s.size := by omega
  have hl6 : i <= p4 := by omega
  have hl7 : (i : Int) <= p4 := by omega
  have Hz := hid (show (s.extract i p4).data.toList.length = 4 by rw [Array.length_toList]; show (s.extract i p4).size = 4; rw [ByteArray.size_extract]; omega);clear hp4 hl;go_enter Tryz.func262, Tryz.ntmps262
  go_wp2_with fail
  refine (c_ToLower _ _ (by simp; omega) HVT.out.1 HVT.out.2).mono ?_;rintro e w1 ⟨rfl, hb⟩;have HB := hid hb;clear hb;obtain ⟨L, hL⟩ : ∃ L : ByteArray, L = ⟨(toLowerD (s.extract i p4).data.toList).toArray⟩ := ⟨_, rfl⟩
  rw [<- hL];have hLl : L.data.toList = toLowerD (s.extract i p4).data.toList := by rw [hL]
  have hLs : L.size = L.data.toList.length := by rw [Array.length_toList]; rfl
  obtain ⟨p, hp, hq⟩ := lower_end (s.extract i p4).data.toList;rw [Hz.out] at hp;rw [<- hLl] at hq;rw [<- hLs] at hq;have HQ := hid hq;have HLs := hid hLs;have Hg := hid (show fourB s i = runL L.data.toList 0 by rw [Hf.out, hLl]);clear hL hLl hLs hq;go_wp2_with fail
  obtain ⟨W, hW⟩ : ∃ W, W = bytesWorld w1 5 L := ⟨_, rfl⟩
  rw [<- hW];have hB : ∀ t, t < L.size -> W.cell? ⟨w1.heap.size, t, none⟩ = some (.int .u8 (L.data.toList.getD t 0).toNat) := fun t ht => by rw [hW]; exact Lib.bytesWorld_cell w1 5 L t ht
  have HW := hid (show Below w.heap.size w W by
   rw [hW]
   exact HB.out.trans ⟨rfl, rfl, rfl, by rw [Lib.bytesWorld_size]; omega, fun j hj => Lib.bytesWorld_at_old w1 5 L j (Nat.lt_of_lt_of_le hj HB.out.size)⟩)
  have HBt := hid hB;obtain ⟨g, hg⟩ : ∃ g, g = w1.heap.size := ⟨_, rfl⟩
  obtain ⟨cp, hcp⟩ : ∃ cp, cp = grownCap w1 L.size 0 5 := ⟨_, rfl⟩
  rw [<- hg, <- hcp];rw [<- hg] at HBt hB;clear hW hB hg hcp HB kc;go_loopw [6, 23] (fun s6 s23 wr => ∃ (j : Nat) (n : Int), j <= p /\ j <= L.size /\ s23 = .int .i64 j /\ s6 = .int .i64 n /\ 0 <= n /\ ((j = 0 -> n < 1) /\ (j = 1 -> n < 16) /\ (j = 2 -> n < 256) /\ (j = 3 -> n < 4096) /\ n < 65536) /\ fourB s i = runL (L.data.toList.drop j) n /\ wr = W) (fun _ s23 _ => L.size - (Lib.intOf s23).toNat)
  case atStart => exact ⟨0, 0, Nat.zero_le _, Nat.zero_le _, rfl, rfl, by omega, ⟨by omega, by omega, by omega, by omega, by omega⟩, Hg.out, rfl⟩
  case round =>
   obtain ⟨j, n, hjp, hjl, rfl, rfl, hn0, hnb, hrun, rfl⟩ := hrel;have HRun := hid hrun;have HNb := hid hnb;have hn6 : n < 65536 := hnb.2.2.2.2;clear hrun hnb;by_cases hlt : (j : Int) < L.size
   ·have hjL : j < L.size := by omega
    have hc := HBt.out j hjL;obtain ⟨x, hx⟩ : ∃ x, x = L.data.toList.getD j 0 := ⟨_, rfl⟩
    rw [<- hx] at hc;obtain ⟨d, hd⟩ : ∃ d, d = lowV (x.toNat : Int) := ⟨_, rfl⟩
    have hdr := lowV_range (x.toNat : Int);rw [<- hd] at hdr;obtain ⟨hd1, hd2⟩ := hdr
    have HStep := hid (show fourB s i = if d < 0 then -1 else runL (L.data.toList.drop (j + 1)) (16 * n + d) by
     rw [HRun.out, runL_step _ j n (by rw [<- HLs.out]; exact hjL), <- hx, <- hd])
    have HX := hid hx;have HD := hid hd;clear hx hd;by_cases hneg : d < 0
    ·have Hf2 := hid (four_no (show fourB s i < 0 by rw [HStep.out, if_pos hneg]; decide))
     go_wp2_with fail
     refine (c_IndexHex x _).mono ?_;rintro e w9 ⟨rfl, rfl⟩;rw [<- HD.out];go_wp2_with fail
     go_ret2
     exact ⟨by rw [Hf2.out.1, Hf2.out.2]; rfl, HW.out⟩
    ·have hdd : decide (d < 0) = false := decide_eq_false hneg
     have hdp : 0 <= d := by omega
     have hjp2 : j < p := by
      rcases HQ.out with h | ⟨y, h1, h2⟩
      ·omega
      ·rcases Nat.lt_or_ge j p with h | h
       ·exact h
       ·exfalso
        obtain rfl : j = p := by omega
        have : L.data.toList.getD j 0 = y := by rw [List.getD, h1]; rfl
        rw [<- this, <- HX.out, <- HD.out] at h2;exact hneg h2
     have hn4 : n < 4096 := by have := HNb.out; omega
     clear hneg hn6;go_wp2_with fail
     refine (c_IndexHex x _).mono ?_;rintro e w9 ⟨rfl, rfl⟩;rw [<- HD.out];go_wp2_with fail
     go_roundw
     case rel => exact ⟨j + 1, 16 * n + d, by omega, by omega, by go_num, rfl, by omega, by have := HNb.out; omega, by rw [HStep.out, if_neg (by omega)], by first | rfl | exact True.intro⟩
     case measure => simp [Lib.intOf]; omega
   ·have hjL : j = L.size := by omega
    have Hf2 := hid (four_yes (show fourB s i = n by rw [HRun.out, hjL, HLs.out]; exact runL_end _ n) hn0);go_wp2_with fail
    go_ret2
    exact ⟨by rw [Hf2.out.1, Hf2.out.2]; rfl, HW.out⟩
def escI (b : Nat) : Int := if b = 98 then 0 else if b = 102 then 1 else if b = 110 then 2 else if b = 114 then 3 else if b = 116 then 4 else -1
theorem idx_esc : ∀ i : Fin 256, Lib.indexByte [98, 102, 110, 114, 116] (UInt8.ofNat i.val) = escI i.val := by decide
theorem c_IndexEsc (b : Nat) (hb : b < 256) (w : World) : Calls Tryz.prog 130 #[.string { data := #[98, 102, 110, 114, 116] }, .int .u8 b] w fun e w' => e = .returned (.int .i64 (escI b)) /\ w = w' := by
 have h := c_strings_IndexByte { data := #[98, 102, 110, 114, 116] } (UInt8.ofNat b) w;have e1 : (UInt8.ofNat b).toNat = b := by rw [UInt8.toNat_ofNat']; exact Nat.mod_eq_of_lt hb
 rw [e1] at h;exact h.mono (fun _ _ h => ⟨h.1.trans (congrArg (fun z => Ending.returned (Value.int .i64 z)) (idx_esc ⟨b, hb⟩)), h.2⟩)
theorem fourB_fits {s : ByteArray} {i : Nat} (h : 0 <= fourB s i) : i + 4 <= s.size := by
 unfold fourB at h;split at h
 ·assumption
 ·omega
theorem c_impl_readEscape (s : ByteArray) (i : Nat) (w : World) (hs : s.size <= 1048576) (hi : i <= 1048577) (hV : CTab w) (hT : Tabs w) :
  Calls Tryz.prog 237 #[.string s, .int .i64 i] w fun e w' => e = .returned (.tuple #[.int .i64 (escB s i).1, .int .i64 (escB s i).2]) /\ Below w.heap.size w w' := by
 have HVT := hid (And.intro hV hT);clear hV hT;by_cases hlt : (i : Int) < s.size
 ·have h0 : (0 : Int) <= i := by omega
  have h1 : decide ((s.size : Int) <= i) = false := decide_eq_false (by omega);have h2 : decide (s.size <= i) = false := decide_eq_false (by omega);have hii : i < s.size := by omega
  obtain ⟨b, hb⟩ : ∃ b : Nat, b = (s.get! i).toNat := ⟨_, rfl⟩
  have hx : (s[i]'hii).toNat = b := by rw [hb]; exact get_at s i hii
  have hb2 : (b : Int) < 256 := by have := (s.get! i).toNat_lt; omega
  have hby : byteI s i = b := by unfold byteI; rw [hb]
  clear hb;have HE := hid (show escB s i = _ from if_pos hii);rw [hby] at HE;have Hii := hid hii;have HE0 := hid HE.out;clear HE;by_cases e34 : (b : Int) = 34
  ·have Hf := hid (show escB s i = ((b : Int), (i : Int) + 1) by rw [HE0.out, if_pos (by omega)])
   obtain rfl : b = 34 := by omega
   clear e34;go_enter Tryz.func237, Tryz.ntmps237
   go_wp2_with fail
   go_ret2
   exact ⟨by rw [Hf.out]; rfl, Below.refl _ _⟩
  ·have f34 : ((b : Int) == 34) = false := beq_eq_false_iff_ne.2 e34
   by_cases e92 : (b : Int) = 92
   ·have Hf := hid (show escB s i = ((b : Int), (i : Int) + 1) by rw [HE0.out, if_pos (by omega)])
    obtain rfl : b = 92 := by omega
    clear e92;go_enter Tryz.func237, Tryz.ntmps237
    go_wp2_with fail
    go_ret2
    exact ⟨by rw [Hf.out]; rfl, Below.refl _ _⟩
   ·have f92 : ((b : Int) == 92) = false := beq_eq_false_iff_ne.2 e92
    by_cases e47 : (b : Int) = 47
    ·have Hf := hid (show escB s i = ((b : Int), (i : Int) + 1) by rw [HE0.out, if_pos (by omega)])
     obtain rfl : b = 47 := by omega
     clear e47;go_enter Tryz.func237, Tryz.ntmps237
     go_wp2_with fail
     go_ret2
     exact ⟨by rw [Hf.out]; rfl, Below.refl _ _⟩
    ·have f47 : ((b : Int) == 47) = false := beq_eq_false_iff_ne.2 e47
     by_cases e98 : (b : Int) = 98
     ·have Hf := hid (show escB s i = (8, (i : Int) + 1) by rw [HE0.out, if_neg (by omega), if_pos e98])
      obtain rfl : b = 98 := by omega
      clear e98;have hk : (({ data := #[8, 12, 10, 13, 9] } : ByteArray)[0]'(by decide)).toNat = 8 := rfl;go_enter Tryz.func237, Tryz.ntmps237
      go_wp2_with fail
      refine (c_IndexEsc 98 (by omega) _).mono ?_;rintro e w9 ⟨rfl, rfl⟩;rw [show escI 98 = 0 from rfl];go_wp2_with fail
      go_ret2
      exact ⟨by rw [Hf.out]; rfl, Below.refl _ _⟩
     ·have f98 : ((b : Int) == 98) = false := beq_eq_false_iff_ne.2 e98
      by_cases e102 : (b : Int) = 102
      ·have Hf := hid (show escB s i = (12, (i : Int) + 1) by rw [HE0.out, if_neg (by omega), if_neg (by omega), if_pos e102])
       obtain rfl : b = 102 := by omega
       clear e102;have hk : (({ data := #[8, 12, 10, 13, 9] } : ByteArray)[1]'(by decide)).toNat = 12 := rfl;go_enter Tryz.func237, Tryz.ntmps237
       go_wp2_with fail
       refine (c_IndexEsc 102 (by omega) _).mono ?_;rintro e w9 ⟨rfl, rfl⟩;rw [show escI 102 = 1 from rfl];go_wp2_with fail
       go_ret2
       exact ⟨by rw [Hf.out]; rfl, Below.refl _ _⟩
      ·have f102 : ((b : Int) == 102) = false := beq_eq_false_iff_ne.2 e102
       by_cases e110 : (b : Int) = 110
       ·have Hf := hid (show escB s i = (10, (i : Int) + 1) by rw [HE0.out, if_neg (by omega), if_neg (by omega), if_neg (by omega), if_pos e110])
        obtain rfl : b = 110 := by omega
        clear e110;have hk : (({ data := #[8, 12, 10, 13, 9] } : ByteArray)[2]'(by decide)).toNat = 10 := rfl;go_enter Tryz.func237, Tryz.ntmps237
        go_wp2_with fail
        refine (c_IndexEsc 110 (by omega) _).mono ?_;rintro e w9 ⟨rfl, rfl⟩;rw [show escI 110 = 2 from rfl];go_wp2_with fail
        go_ret2
        exact ⟨by rw [Hf.out]; rfl, Below.refl _ _⟩
       ·have f110 : ((b : Int) == 110) = false := beq_eq_false_iff_ne.2 e110
        by_cases e114 : (b : Int) = 114
        ·have Hf := hid (show escB s i = (13, (i : Int) + 1) by rw [HE0.out, if_neg (by omega), if_neg (by omega), if_neg (by omega), if_neg (by omega), if_pos e114])
         obtain rfl : b = 114 := by omega
         clear e114;have hk : (({ data := #[8, 12, 10, 13, 9] } : ByteArray)[3]'(by decide)).toNat = 13 := rfl;go_enter Tryz.func237, Tryz.ntmps237
         go_wp2_with fail
         refine (c_IndexEsc 114 (by omega) _).mono ?_;rintro e w9 ⟨rfl, rfl⟩;rw [show escI 114 = 3 from rfl];go_wp2_with fail
         go_ret2
         exact ⟨by rw [Hf.out]; rfl, Below.refl _ _⟩
        ·have f114 : ((b : Int) == 114) = false := beq_eq_false_iff_ne.2 e114
         by_cases e116 : (b : Int) = 116
         ·have Hf := hid (show escB s i = (9, (i : Int) + 1) by rw [HE0.out, if_neg (by omega), if_neg (by omega), if_neg (by omega), if_neg (by omega), if_neg (by omega), if_pos e116])
          obtain rfl : b = 116 := by omega
          clear e116;have hk : (({ data := #[8, 12, 10, 13, 9] } : ByteArray)[4]'(by decide)).toNat = 9 := rfl;go_enter Tryz.func237, Tryz.ntmps237
          go_wp2_with fail
          refine (c_IndexEsc 116 (by omega) _).mono ?_;rintro e w9 ⟨rfl, rfl⟩;rw [show escI 116 = 4 from rfl];go_wp2_with fail
          go_ret2
          exact ⟨by rw [Hf.out]; rfl, Below.refl _ _⟩
         ·have f116 : ((b : Int) == 116) = false := beq_eq_false_iff_ne.2 e116
          obtain ⟨p1, hp1⟩ : ∃ p, p = i + 1 := ⟨_, rfl⟩
          have q1 : (i : Int) + 1 = p1 := by omega
          have HP1 := hid hp1;obtain ⟨p5, hp5⟩ : ∃ p, p = i + 5 := ⟨_, rfl⟩
          have q5 : (i : Int) + 5 = p5 := by omega
          have HP5 := hid hp5;obtain ⟨p6, hp6⟩ : ∃ p, p = i + 6 := ⟨_, rfl⟩
          have q6 : (i : Int) + 6 = p6 := by omega
          have HP6 := hid hp6;obtain ⟨p7, hp7⟩ : ∃ p, p = i + 7 := ⟨_, rfl⟩
          have q7 : (i : Int) + 7 = p7 := by omega
          have HP7 := hid hp7;obtain ⟨p11, hp11⟩ : ∃ p, p = i + 11 := ⟨_, rfl⟩
          have q11 : (i : Int) + 11 = p11 := by omega
          have HP11 := hid hp11;have hpb : (p11 : Int) <= 1048588 := by omega
          have hpc : (p7 : Int) <= 1048588 := by omega
          have hpd : (p1 : Int) <= 1048588 := by omega
          clear hp1 hp5 hp6 hp7 hp11;have HIX := hid (show escI b = -1 by unfold escI; rw [if_neg (by omega), if_neg (by omega), if_neg (by omega), if_neg (by omega), if_neg (by omega)]);by_cases e117 : (b : Int) = 117
          ·have HU := hid (show escB s i = _ by rw [HE0.out, if_neg (by omega), if_neg (by omega), if_neg (by omega), if_neg (by omega), if_neg (by omega), if_neg (by omega), if_pos e117])
           obtain rfl : b = 117 := by omega
           clear e117 HIX e34 e92 e47 e98 e102 e110 e114 e116 f34 f92 f47 f98 f102 f110 f114 f116;obtain ⟨n, hn⟩ : ∃ n, n = fourB s p1 := ⟨_, rfl⟩
           have hnr := fourB_range s p1;rw [<- hn] at hnr;obtain ⟨hn1, hn2⟩ := hnr;have HN := hid hn;clear hn;by_cases n0 : n < 0
           ·have Hf := hid (show escB s i = (0, -1) by rw [HU.out, <- HP1.out, <- HN.out]; exact if_pos (.inl n0))
            have H4 := hid (four_no (show fourB s p1 < 0 by rw [<- HN.out]; exact n0));go_enter Tryz.func237, Tryz.ntmps237
            go_wp2_with fail
            refine (c_IndexEsc 117 (by omega) _).mono ?_;rintro e w9 ⟨rfl, rfl⟩;rw [show escI 117 = -1 from rfl];go_wp2_with fail
            refine (c_impl_fourDigits s p1 _ hs (by omega) HVT.out.1 HVT.out.2).mono ?_;rintro e w1 ⟨rfl, hb1⟩;have HB1 := hid hb1;clear hb1;rw [H4.out.1, H4.out.2];go_wp2_with fail
            go_ret2
            exact ⟨by rw [Hf.out]; rfl, HB1.out⟩
           ·have d0 : decide (n < 0) = false := decide_eq_false n0
            have hn0 : 0 <= n := by omega
            have H4 := hid (four_yes HN.out.symm hn0);rcases hB : inB n 56320 57343 with _ | _
            ·rcases hC : inB n 55296 56319 with _ | _
             ·have Hf := hid (show escB s i = (n, (p5 : Int)) by rw [HU.out, <- HP1.out, <- HN.out]; rw [<- q5]; exact (if_neg (by rintro (h | h); exact n0 h; rw [hB] at h; exact absurd h (by decide))).trans (if_pos hC))
              clear n0;go_enter Tryz.func237, Tryz.ntmps237
              go_wp2_with fail
              refine (c_IndexEsc 117 (by omega) _).mono ?_;rintro e w9 ⟨rfl, rfl⟩;rw [show escI 117 = -1 from rfl];go_wp2_with fail
              refine (c_impl_fourDigits s p1 _ hs (by omega) HVT.out.1 HVT.out.2).mono ?_;rintro e w1 ⟨rfl, hb1⟩;have HB1 := hid hb1;clear hb1;rw [H4.out.1, H4.out.2];go_wp2_with (first | (go_at_call 63; refine (c_impl_within _ _ _ _).mono ?_; rintro e w' ⟨rfl, rfl⟩))
              go_ret2
              exact ⟨by rw [Hf.out]; rfl, HB1.out⟩
             ·have HV := hid (show escB s i = (if s.size < p7 ∨ byteI s p5 ≠ 92 ∨ byteI s p6 ≠ 117 then (0, -1) else if inB (fourB s p7) 56320 57343 = true then (65536 + 1024 * (n - 55296) + fourB s p7 - 56320, (p11 : Int)) else (0, -1)) by rw [HU.out, <- HP1.out, <- HN.out]; rw [<- HP5.out, <- HP6.out, <- HP7.out, q11]; exact (if_neg (by rintro (h | h); exact n0 h; rw [hB] at h; exact absurd h (by decide))).trans (if_neg (by rw [hC]; decide)))
              clear n0;have hnC : 55296 <= n /\ n <= 56319 := by unfold inB at hC; simpa using hC
              obtain ⟨hnC1, hnC2⟩ := hnC;obtain ⟨m, hm⟩ : ∃ m, m = fourB s p7 := ⟨_, rfl⟩
              have hmr := fourB_range s p7;rw [<- hm] at hmr;obtain ⟨hm1, hm2⟩ := hmr;have HM := hid hm;clear hm;by_cases m0 : m < 0
              ·have H7 := hid (four_no (show fourB s p7 < 0 by rw [<- HM.out]; exact m0))
               have Hf := hid (show escB s i = (0, -1) by rw [HV.out, <- HM.out]; split; rfl; exact if_neg (by unfold inB; rw [decide_eq_false (by omega)]; decide));go_enter Tryz.func237, Tryz.ntmps237
               go_wp2_with fail
               refine (c_IndexEsc 117 (by omega) _).mono ?_;rintro e w9 ⟨rfl, rfl⟩;rw [show escI 117 = -1 from rfl];go_wp2_with fail
               refine (c_impl_fourDigits s p1 _ hs (by omega) HVT.out.1 HVT.out.2).mono ?_;rintro e w1 ⟨rfl, hb1⟩;have HB1 := hid hb1;clear hb1;rw [H4.out.1, H4.out.2];go_wp2_with (first | (go_at_call 63; refine (c_impl_within _ _ _ _).mono ?_; rintro e w' ⟨rfl, rfl⟩))
               refine (c_impl_fourDigits s p7 _ hs (by omega) (HVT.out.1.below HB1.out) (HVT.out.2.below HB1.out)).mono ?_;rintro e w2 ⟨rfl, hb2⟩;have HB2 := hid (HB1.out.trans (hb2.mono HB1.out.size));clear hb2;rw [H7.out.1, H7.out.2];go_wp2_with fail
               go_ret2
               exact ⟨by rw [Hf.out]; rfl, HB2.out⟩
              ·have hm0 : 0 <= m := by omega
               have H7 := hid (four_yes HM.out.symm hm0);have hfit := fourB_fits (show 0 <= fourB s p7 by rw [<- HM.out]; exact hm0);have g5 : p5 < s.size := by have := HP7.out; have := HP5.out; omega
               have g6 : p6 < s.size := by have := HP7.out; have := HP6.out; omega
               have g7 : ¬ s.size < p7 := by omega
               have gi5 : (p5 : Int) < s.size := by omega
               have gi6 : (p6 : Int) < s.size := by omega
               obtain ⟨b5, hb5⟩ : ∃ b : Nat, b = (s.get! p5).toNat := ⟨_, rfl⟩
               have hx5 : (s[p5]'g5).toNat = b5 := by rw [hb5]; exact get_at s p5 g5
               obtain ⟨b6, hb6⟩ : ∃ b : Nat, b = (s.get! p6).toNat := ⟨_, rfl⟩
               have hx6 : (s[p6]'g6).toNat = b6 := by rw [hb6]; exact get_at s p6 g6
               have h5b : (b5 : Int) < 256 := by have := (s.get! p5).toNat_lt; omega
               have h6b : (b6 : Int) < 256 := by have := (s.get! p6).toNat_lt; omega
               have HB5 := hid (show byteI s p5 = b5 by unfold byteI; rw [hb5]);have HB6 := hid (show byteI s p6 = b6 by unfold byteI; rw [hb6]);have HD := hid g7;clear hb5 hb6 g7 hfit m0;by_cases e5 : (b5 : Int) = 92
               ·obtain rfl : b5 = 92 := by omega
                clear e5;by_cases e6 : (b6 : Int) = 117
                ·obtain rfl : b6 = 117 := by omega
                 clear e6;have HW := hid (show escB s i = (if inB m 56320 57343 = true then (65536 + 1024 * (n - 55296) + m - 56320, (p11 : Int)) else (0, -1)) by rw [HV.out, <- HM.out]; exact if_neg (by rintro (h | h | h); exact HD.out h; exact h HB5.out; exact h HB6.out));rcases hG : inB m 56320 57343 with _ | _
                 focus
                  have Hf := hid (show escB s i = (0, -1) by rw [HW.out]; exact if_neg (by rw [hG]; decide))
                 rotate_left
                 focus
                  have hmi : 56320 <= m /\ m <= 57343 := by unfold inB at hG; simpa using hG
                  have Hf := hid (show escB s i = (65536 + 1024 * (n - 55296) + (m - 56320), (p11 : Int)) by rw [HW.out, if_pos hG]; congr 1; omega);obtain ⟨hmi1, hmi2⟩ := hmi
                 rotate_left
                 all_goals
                  go_enter Tryz.func237, Tryz.ntmps237
                  go_wp2_with fail
                  refine (c_IndexEsc 117 (by omega) _).mono ?_;rintro e w9 ⟨rfl, rfl⟩;rw [show escI 117 = -1 from rfl];go_wp2_with fail
                  refine (c_impl_fourDigits s p1 _ hs (by omega) HVT.out.1 HVT.out.2).mono ?_;rintro e w1 ⟨rfl, hb1⟩;have HB1 := hid hb1;clear hb1;rw [H4.out.1, H4.out.2];go_wp2_with (first | (go_at_call 63; refine (c_impl_within _ _ _ _).mono ?_; rintro e w' ⟨rfl, rfl⟩))
                  refine (c_impl_fourDigits s p7 _ hs (by omega) (HVT.out.1.below HB1.out) (HVT.out.2.below HB1.out)).mono ?_;rintro e w2 ⟨rfl, hb2⟩;have HB2 := hid (HB1.out.trans (hb2.mono HB1.out.size));clear hb2;rw [H7.out.1, H7.out.2];go_wp2_with (first | (go_at_call 63; refine (c_impl_within _ _ _ _).mono ?_; rintro e w' ⟨rfl, rfl⟩))
                  go_ret2
                  exact ⟨by rw [Hf.out]; rfl, HB2.out⟩
                ·have f6 : ((b6 : Int) == 117) = false := beq_eq_false_iff_ne.2 e6
                 have n6 : ((b6 : Int) != 117) = true := bne_iff_ne.2 e6;have Hf := hid (show escB s i = (0, -1) by rw [HV.out]; exact if_pos (.inr (.inr (by rw [HB6.out]; exact e6))));clear e6;go_enter Tryz.func237, Tryz.ntmps237
                 go_wp2_with fail
                 refine (c_IndexEsc 117 (by omega) _).mono ?_;rintro e w9 ⟨rfl, rfl⟩;rw [show escI 117 = -1 from rfl];go_wp2_with fail
                 refine (c_impl_fourDigits s p1 _ hs (by omega) HVT.out.1 HVT.out.2).mono ?_;rintro e w1 ⟨rfl, hb1⟩;have HB1 := hid hb1;clear hb1;rw [H4.out.1, H4.out.2];go_wp2_with (first | (go_at_call 63; refine (c_impl_within _ _ _ _).mono ?_; rintro e w' ⟨rfl, rfl⟩))
                 refine (c_impl_fourDigits s p7 _ hs (by omega) (HVT.out.1.below HB1.out) (HVT.out.2.below HB1.out)).mono ?_;rintro e w2 ⟨rfl, hb2⟩;have HB2 := hid (HB1.out.trans (hb2.mono HB1.out.size));clear hb2;rw [H7.out.1, H7.out.2];go_wp2_with fail
                 go_ret2
                 exact ⟨by rw [Hf.out]; rfl, HB2.out⟩
               ·have f5 : ((b5 : Int) == 92) = false := beq_eq_false_iff_ne.2 e5
                have n5 : ((b5 : Int) != 92) = true := bne_iff_ne.2 e5;have Hf := hid (show escB s i = (0, -1) by rw [HV.out]; exact if_pos (.inr (.inl (by rw [HB5.out]; exact e5))));clear e5;go_enter Tryz.func237, Tryz.ntmps237
                go_wp2_with fail
                refine (c_IndexEsc 117 (by omega) _).mono ?_;rintro e w9 ⟨rfl, rfl⟩;rw [show escI 117 = -1 from rfl];go_wp2_with fail
                refine (c_impl_fourDigits s p1 _ hs (by omega) HVT.out.1 HVT.out.2).mono ?_;rintro e w1 ⟨rfl, hb1⟩;have HB1 := hid hb1;clear hb1;rw [H4.out.1, H4.out.2];go_wp2_with (first | (go_at_call 63; refine (c_impl_within _ _ _ _).mono ?_; rintro e w' ⟨rfl, rfl⟩))
                refine (c_impl_fourDigits s p7 _ hs (by omega) (HVT.out.1.below HB1.out) (HVT.out.2.below HB1.out)).mono ?_;rintro e w2 ⟨rfl, hb2⟩;have HB2 := hid (HB1.out.trans (hb2.mono HB1.out.size));clear hb2;rw [H7.out.1, H7.out.2];go_wp2_with fail
                go_ret2
                exact ⟨by rw [Hf.out]; rfl, HB2.out⟩
            ·have Hf := hid (show escB s i = (0, -1) by rw [HU.out, <- HP1.out, <- HN.out]; exact if_pos (.inr hB))
             clear n0;go_enter Tryz.func237, Tryz.ntmps237
             go_wp2_with fail
             refine (c_IndexEsc 117 (by omega) _).mono ?_;rintro e w9 ⟨rfl, rfl⟩;rw [show escI 117 = -1 from rfl];go_wp2_with fail
             refine (c_impl_fourDigits s p1 _ hs (by omega) HVT.out.1 HVT.out.2).mono ?_;rintro e w1 ⟨rfl, hb1⟩;have HB1 := hid hb1;clear hb1;rw [H4.out.1, H4.out.2];go_wp2_with (first | (go_at_call 63; refine (c_impl_within _ _ _ _).mono ?_; rintro e w' ⟨rfl, rfl⟩))
             go_ret2
             exact ⟨by rw [Hf.out]; rfl, HB1.out⟩
          ·have Hf := hid (show escB s i = (0, -1) by rw [HE0.out, if_neg (by omega), if_neg (by omega), if_neg (by omega), if_neg (by omega), if_neg (by omega), if_neg (by omega), if_neg e117])
           have f117 : ((b : Int) == 117) = false := beq_eq_false_iff_ne.2 e117;have n117 : ((b : Int) != 117) = true := bne_iff_ne.2 e117;clear e117 e34 e92 e47 e98 e102 e110 e114 e116;go_enter Tryz.func237, Tryz.ntmps237
           go_wp2_with fail
           refine (c_IndexEsc b (by omega) _).mono ?_;rintro e w9 ⟨rfl, rfl⟩;rw [show escI b = -1 from HIX.out];go_wp2_with fail
           refine (c_impl_fourDigits s p1 _ hs (by omega) HVT.out.1 HVT.out.2).mono ?_;rintro e w1 ⟨rfl, hb1⟩;have HB1 := hid hb1;clear hb1;go_wp2_with fail
           go_ret2
           exact ⟨by rw [Hf.out]; rfl, HB1.out⟩
 ·have Hf := hid (show escB s i = (0, -1) by unfold escB; rw [if_neg (by omega)])
  go_enter Tryz.func237, Tryz.ntmps237
  go_wp2_with fail
  go_ret2
  exact ⟨by rw [Hf.out]; rfl, Below.refl _ _⟩
theorem escB_next (s : ByteArray) (i : Nat) : ((escB s i).2 < 0 ∨ ((i : Int) < (escB s i).2 /\ (escB s i).2 <= s.size)) /\ 0 <= (escB s i).1 /\ (escB s i).1 <= 1114111 := by
 have f1 := @fourB_fits s (i + 1);have f7 := @fourB_fits s (i + 7);have r1 := fourB_range s (i + 1);have r7 := fourB_range s (i + 7);have b0 := byteI_range s i;obtain ⟨x, hx⟩ : ∃ x, x = escB s i := ⟨_, rfl⟩
 rw [<- hx];unfold escB at hx;by_cases c0 : i < s.size
 case neg => rw [if_neg c0] at hx; subst hx; simp only; omega
 rw [if_pos c0] at hx;by_cases c1 : byteI s i = 34 ∨ byteI s i = 92 ∨ byteI s i = 47
 case pos => rw [if_pos c1] at hx; subst hx; simp only; omega
 rw [if_neg c1] at hx;by_cases c2 : byteI s i = 98
 case pos => rw [if_pos c2] at hx; subst hx; simp only; omega
 rw [if_neg c2] at hx;by_cases c3 : byteI s i = 102
 case pos => rw [if_pos c3] at hx; subst hx; simp only; omega
 rw [if_neg c3] at hx;by_cases c4 : byteI s i = 110
 case pos => rw [if_pos c4] at hx; subst hx; simp only; omega
 rw [if_neg c4] at hx;by_cases c5 : byteI s i = 114
 case pos => rw [if_pos c5] at hx; subst hx; simp only; omega
 rw [if_neg c5] at hx;by_cases c6 : byteI s i = 116
 case pos => rw [if_pos c6] at hx; subst hx; simp only; omega
 rw [if_neg c6] at hx;by_cases c7 : byteI s i = 117
 case neg => rw [if_neg c7] at hx; subst hx; simp only; omega
 rw [if_pos c7] at hx;by_cases d1 : fourB s (i + 1) < 0 ∨ inB (fourB s (i + 1)) 56320 57343 = true
 case pos => rw [if_pos d1] at hx; subst hx; simp only; omega
 rw [if_neg d1] at hx;have d0 := (not_or.1 d1).1;have g1 := f1 (Int.not_lt.1 d0);by_cases d2 : inB (fourB s (i + 1)) 55296 56319 = false
 case pos => rw [if_pos d2] at hx; subst hx; simp only; omega
 rw [if_neg d2] at hx;have e2 : 55296 <= fourB s (i + 1) /\ fourB s (i + 1) <= 56319 := by unfold inB at d2; simpa using d2
 by_cases d3 : s.size < i + 7 ∨ byteI s (i + 5) ≠ 92 ∨ byteI s (i + 6) ≠ 117
 case pos => rw [if_pos d3] at hx; subst hx; simp only; omega
 rw [if_neg d3] at hx;by_cases d4 : inB (fourB s (i + 7)) 56320 57343 = true
 case neg => rw [if_neg d4] at hx; subst hx; simp only; omega
 rw [if_pos d4] at hx;have e4 : 56320 <= fourB s (i + 7) /\ fourB s (i + 7) <= 57343 := by unfold inB at d4; simpa using d4
 have g7 := f7 (by omega);subst hx;simp only;omega
theorem runeB_next (s : ByteArray) (i : Nat) : ((runeB s i).2 < 0 ∨ ((i : Int) < (runeB s i).2 /\ (runeB s i).2 <= s.size)) /\ 0 <= (runeB s i).1 /\ (runeB s i).1 <= 1114111 := by
 unfold runeB;split
 ·rename_i h
  have := decode_fits s i h;split
  ·simp only; omega
  ·simp only; omega
 ·simp only; omega
def quotN (s : ByteArray) (j : Nat) : Int × Int :=
 if byteI s j = 92 then escB s (j + 1) else if (runeB s j).1 < 32 then (0, -1) else runeB s j
theorem quotN_next (s : ByteArray) (j : Nat) : ((quotN s j).2 < 0 ∨ ((j : Int) < (quotN s j).2 /\ (quotN s j).2 <= s.size)) /\ 0 <= (quotN s j).1 /\ (quotN s j).1 <= 1114111 := by
 have h1 := escB_next s (j + 1);have h2 := runeB_next s j;unfold quotN;split
 ·omega
 ·split
  ·simp only; omega
  ·exact h2
def quotR (s : ByteArray) : Nat -> Nat -> List UInt8 -> ByteArray × Int
 | 0, _, _ => (⟨#[]⟩, -1)
 | k + 1, j, acc => if j < s.size then (if byteI s j = 34 then (⟨acc.toArray⟩, (j : Int) + 1) else if (quotN s j).2 < 0 then (⟨#[]⟩, -1) else quotR s k (quotN s j).2.toNat (acc ++ (textB (quotN s j).1).data.toList)) else (⟨#[]⟩, -1)
theorem quotR_fuel (s : ByteArray) : ∀ (k l j : Nat) (acc : List UInt8), s.size - j <= k -> s.size - j <= l -> quotR s k j acc = quotR s l j acc
 | 0, 0, _, _, _, _ => rfl
 | 0, l + 1, j, acc, h, _ => by unfold quotR; rw [if_neg (by omega)]
 | k + 1, 0, j, acc, _, h => by unfold quotR; rw [if_neg (by omega)]
 | k + 1, l + 1, j, acc, h1, h2 => by
  unfold quotR;split
  ·split
   ·rfl
   ·split
    ·rfl
    ·have := (quotN_next s j).1
     exact quotR_fuel s k l _ _ (by omega) (by omega)
  ·rfl
def quotG (s : ByteArray) (j : Nat) (acc : List UInt8) : ByteArray × Int := quotR s (s.size - j) j acc
theorem quotG_end {s : ByteArray} {j : Nat} {acc : List UInt8} (h : ¬ j < s.size) : quotG s j acc = (⟨#[]⟩, -1) := by
 unfold quotG;rw [show s.size - j = 0 by omega];rfl
theorem quotG_at {s : ByteArray} {j : Nat} {acc : List UInt8} (h : j < s.size) : quotG s j acc = if byteI s j = 34 then (⟨acc.toArray⟩, (j : Int) + 1) else if (quotN s j).2 < 0 then (⟨#[]⟩, -1) else quotG s (quotN s j).2.toNat (acc ++ (textB (quotN s j).1).data.toList) := by
 unfold quotG;obtain ⟨k, hk⟩ : ∃ k, s.size - j = k + 1 := ⟨s.size - j - 1, by omega⟩
 rw [hk, quotR, if_pos h];split
 ·rfl
 ·split
  ·rfl
  ·have := (quotN_next s j).1
   exact quotR_fuel s _ _ _ _ (by omega) (by omega)
def quotB (s : ByteArray) (i : Nat) : ByteArray × Int := if i < s.size then (if byteI s i = 34 then quotG s (i + 1) [] else (⟨#[]⟩, -1)) else (⟨#[]⟩, -1)
theorem textB_size (n : Int) : (textB n).size <= 4 := by
 rcases Int.lt_or_le n 0 with h | h
 ·have : textB n = ⟨#[]⟩ := by
   unfold textB runeOkB;rw [decide_eq_false (by omega)];rfl
  rw [this];decide
 ·obtain ⟨m, rfl⟩ : ∃ m : Nat, n = m := ⟨n.toNat, by omega⟩
  have h1 := congrArg List.length (textB_list m);rw [List.length_map, Array.length_toList] at h1
  have h2 : (encN4 m).length <= 4 := by
   unfold encN4;repeat' split
   all_goals simp
  rw [show (textB m).size = (textB m).data.size from rfl];omega
theorem own_string {w : World} {base n c : Nat} {A : Option Addr} {M : List UInt8} (hn : n = M.length)
  (h : w.ownsRow base 5 1 (.slice A n c) n (Lib.strCells ⟨M.toArray⟩)) :
  (convert 28 9 (.slice A n c)).run Tryz.prog w = .ok (.string ⟨M.toArray⟩) w := by
 subst hn;rcases h.2 with ⟨h1, h2⟩ | ⟨g, cap, cur, h1, _⟩
 ·obtain rfl : M = [] := List.eq_nil_of_length_eq_zero h2
  cases h1
  exact run_convert_nil_bytes w 28 9 5 0 Tryz.underlying28 Tryz.underlying5 Tryz.underlying9
 ·have e1 : A = some ⟨g, 0, none⟩ := by cases h1; rfl
  subst e1
  exact run_convert_bytes_back w 28 9 5 ⟨g, 0, none⟩ c M Tryz.underlying28 Tryz.underlying5 Tryz.underlying9
   (fun j hj => h.cells rfl j _ (by simp [Lib.strCells, hj]))
theorem strCells_list (l : List UInt8) (t : ByteArray) : Lib.strCells ⟨l.toArray⟩ ++ Lib.strCells t = Lib.strCells ⟨(l ++ t.data.toList).toArray⟩ := by
 simp [Lib.strCells]
structure SignD where
 kind : Int
 text : ByteArray
 num : Int
 at' : Int
def kindAt (L : List SignD) (p : Nat) : Int := match L[p]? with | some x => x.kind | none => 0
def placeAt (L : List SignD) (E : Int) (p : Nat) : Int := match L[p]? with | some x => x.at' | none => E
def badF (L : List SignD) (E : Int) (code : Int) (p : Nat) : Flt := ⟨code, placeAt L E p, ⟨#[]⟩⟩
def tNull : TreeD := ⟨1, false, 0, ⟨#[]⟩, [], []⟩
def tFlag (b : Bool) : TreeD := ⟨2, b, 0, ⟨#[]⟩, [], []⟩
def tInt (n : Int) : TreeD := ⟨3, false, n, ⟨#[]⟩, [], []⟩
def tText (s : ByteArray) : TreeD := ⟨4, false, 0, s, [], []⟩
def tList (l : List TreeD) : TreeD := ⟨5, false, 0, ⟨#[]⟩, [], l⟩
def tMap (ks : List ByteArray) (l : List TreeD) : TreeD := ⟨6, false, 0, ⟨#[]⟩, ks, l⟩
def posK (ks : List ByteArray) (key : ByteArray) : Nat := (ks.takeWhile fun k => lessS k key).length
def insL {D : Type} (l : List D) (i : Nat) (x : D) : List D := l.take i ++ x :: l.drop i
inductive Job where
 | value (deep : Nat)
 | list (deep : Nat) (acc : List TreeD)
 | pairs (deep : Nat) (ks : List ByteArray) (acc : List TreeD)
inductive Res where
 | bad (f : Flt)
 | good (t : TreeD) (p m : Nat)
def readJ (L : List SignD) (E : Int) : Nat -> Job -> Nat -> Nat -> Res
 | 0, _, _, _ => .bad flt0
 | n + 1, .value d, p, m =>
  if ¬ (kindAt L p = 1 ∨ kindAt L p = 3 ∨ 7 <= kindAt L p) then .bad (badF L E 4 p)
  else if 8 < d then .bad (badF L E 6 p)
  else if 300 <= m then .bad (badF L E 7 p)
  else match L[p]? with
   | none => .bad flt0
   | some x =>
    if x.kind = 7 then (if 400 < x.text.size then .bad (badF L E 8 p) else .good (tText x.text) (p + 1) (m + 1))
    else if x.kind = 8 then .good (tInt x.num) (p + 1) (m + 1)
    else if x.kind = 11 then .good tNull (p + 1) (m + 1)
    else if x.kind = 3 then (if kindAt L (p + 1) = 4 then .good (tList []) (p + 2) (m + 1) else readJ L E n (.list d []) (p + 1) (m + 1))
    else if x.kind = 1 then (if kindAt L (p + 1) = 2 then .good (tMap [] []) (p + 2) (m + 1) else readJ L E n (.pairs d [] []) (p + 1) (m + 1))
    else .good (tFlag (x.kind == 9)) (p + 1) (m + 1)
 | n + 1, .list d acc, p, m => match readJ L E n (.value (d + 1)) p m with
  | .bad f => .bad f
  | .good t q m' =>
   if kindAt L q = 4 then .good (tList (acc ++ [t])) (q + 1) m'
   else if kindAt L q = 6 then readJ L E n (.list d (acc ++ [t])) (q + 1) m'
   else .bad (badF L E 4 q)
 | n + 1, .pairs d ks acc, p, m => match L[p]? with
  | none => .bad (badF L E 4 p)
  | some x =>
   if x.kind ≠ 7 then .bad (badF L E 4 p)
   else if 400 < x.text.size then .bad (badF L E 8 p)
   else if ks.contains x.text then .bad (badF L E 5 p)
   else if kindAt L (p + 1) ≠ 5 then .bad (badF L E 4 (p + 1))
   else match readJ L E n (.value (d + 1)) (p + 2) m with
    | .bad f => .bad f
    | .good t q m' =>
     if kindAt L q = 2 then .good (tMap (insL ks (posK ks x.text) x.text) (insL acc (posK ks x.text) t)) (q + 1) m'
     else if kindAt L q = 6 then readJ L E n (.pairs d (insL ks (posK ks x.text) x.text) (insL acc (posK ks x.text) t)) (q + 1) m'
     else .bad (badF L E 4 q)
def readL (L : List SignD) (E : Int) : Flt × TreeD := match readJ L E (2 * L.length + 4) (.value 1) 0 0 with
 | .bad f => (f, ⟨0, false, 0, ⟨#[]⟩, [], []⟩)
 | .good t p _ => if p < L.length then (badF L E 4 p, ⟨0, false, 0, ⟨#[]⟩, [], []⟩) else (flt0, t)
def decS (n : Int) : ByteArray := ⟨(Lib.itoa n).toArray⟩
theorem dec_len : ∀ (k u : Nat), u < 10 ^ (k + 1) -> (Lib.decDigits u).length <= k + 1
 | 0, u, h => by
  rw [Lib.decDigits, dif_pos (by simpa using h)];simp
 | k + 1, u, h => by
  rw [Lib.decDigits];by_cases h10 : u < 10
  ·rw [dif_pos h10]; simp
  ·rw [dif_neg h10, List.length_append]
   have h2 : u / 10 < 10 ^ (k + 1) := by
    rw [Nat.div_lt_iff_lt_mul (by decide)];rw [Nat.pow_succ] at h;exact h
   have := dec_len k (u / 10) h2;simp;omega
theorem decS_size (n : Int) (hn : -9223372036854775808 <= n /\ n <= 9223372036854775807) : (decS n).size <= 20 := by
 show (Lib.itoa n).toArray.size <= 20
 rw [List.size_toArray];unfold Lib.itoa;split
 ·have := dec_len 18 n.natAbs (by omega)
  rw [List.length_cons];omega
 ·have := dec_len 18 n.toNat (by omega)
  omega
theorem app_assoc (a b c : ByteArray) : a ++ b ++ c = a ++ (b ++ c) := ByteArray.append_assoc
theorem mkL_dec (u : Nat) (hu : 0 < u) (out : ByteArray) : mkL u out = ⟨(Lib.decDigits u).toArray⟩ ++ out := by
 induction u using Nat.strongRecOn generalizing out with
 | ind u ih =>
  rw [mkL_pos u out hu, Lib.decDigits];by_cases h : u < 10
  ·rw [dif_pos h]
   have h0 : u / 10 = 0 := by omega
   rw [h0, mkL_zero];unfold digit;rw [Nat.mod_eq_of_lt h]
  ·rw [dif_neg h, ih (u / 10) (by omega) (by omega)]
   rw [<- app_assoc];congr 1
theorem decS_zero : decS 0 = ⟨#[48]⟩ := by
 unfold decS Lib.itoa;rw [if_neg (by decide)];unfold Lib.decDigits;rfl
theorem decS_pos (u : Nat) (hu : 0 < u) : decS u = mkL u ⟨#[]⟩ := by
 rw [mkL_dec u hu];unfold decS Lib.itoa;rw [if_neg (by omega)];apply ByteArray.ext;simp
theorem decS_neg (u : Nat) (hu : 0 < u) : decS (-(u : Int)) = ⟨#[45]⟩ ++ mkL u ⟨#[]⟩ := by
 rw [mkL_dec u hu];unfold decS Lib.itoa;rw [if_pos (by omega)];apply ByteArray.ext;simp
theorem c_spec_l01Figure (r : Nat) (w : World) (hr : r < 10) :
  Calls Tryz.prog 218 #[.int .i64 (r : Nat)] w fun e w' => e = .returned (.int .u8 (48 + (r : Int))) /\ w = w' := by
 have h1 : (r : Int) < 10 := by omega
 have h0 : (0 : Int) <= r := by omega
 go_enter Tryz.func218, Tryz.ntmps218
 go_wp2_with fail
 go_ret
 exact ⟨by first | rfl | (congr 2; omega), rfl⟩
theorem tmod_neg10 (j : Nat) : (-(j : Int)).tmod 10 = -((j % 10 : Nat) : Int) := by
 rw [Int.neg_tmod, Int.tmod_eq_emod_of_nonneg (by omega)];omega
theorem tdiv_neg10 (j : Nat) : (-(j : Int)).tdiv 10 = -((j / 10 : Nat) : Int) := by
 rw [Int.neg_tdiv, Int.tdiv_eq_ediv_of_nonneg (by omega)];omega
theorem figure_text (w : World) (j r : Nat) (hr : r = j % 10) : (convert 28 9 (.slice (some ⟨w.heap.size, 0, none⟩) 1 1)).run Tryz.prog (w.alloc (.cells #[.int .u8 (48 + (r : Int))] 5)) = .ok (.string (digit j)) (w.alloc (.cells #[.int .u8 (48 + (r : Int))] 5)) := by
 refine run_convert_bytes_back (P := Tryz.prog) _ 28 9 5 ⟨w.heap.size, 0, none⟩ 1 [UInt8.ofNat (48 + j % 10)] Tryz.underlying28 Tryz.underlying5 Tryz.underlying9 (fun i hi => ?_);obtain rfl : i = 0 := by simpa using hi
 have e : ((UInt8.ofNat (48 + j % 10)).toNat : Int) = 48 + (r : Int) := by
  rw [UInt8.toNat_ofNat']; omega
 have e2 : (⟨w.heap.size, 0, none⟩ : Addr).add 0 = ⟨w.heap.size, 0, none⟩ := rfl;rw [e2, World.cell?_alloc_mark];simp only [List.getElem_cons_zero, e];rfl
theorem c_spec_Decimal (n : Int) (w : World) (hn : -9223372036854775808 <= n /\ n <= 9223372036854775807) :
  Calls Tryz.prog 160 #[.int .i64 n] w fun e w' => e = .returned (.string (decS n)) /\ Below w.heap.size w w' := by
 by_cases h0 : n = 0
 ·subst h0
  have HZ := Lib.hid decS_zero;go_enter Tryz.func160, Tryz.ntmps160
  go_wp2_with fail
  go_ret
  exact ⟨by rw [HZ.out]; rfl, Below.refl _ _⟩
 ·by_cases hneg : n < 0
  ·obtain ⟨u, rfl⟩ : ∃ u : Nat, n = -(u : Int) := ⟨n.natAbs, by omega⟩
   have hu : 0 < u := by omega
   have HD := Lib.hid (decS_neg u hu);obtain ⟨hn1, hn2⟩ := hn;have h0b : (-(u : Int) == 0) = false := beq_eq_false_iff_ne.2 h0;have hnb : decide (-(u : Int) < 0) = true := decide_eq_true hneg;clear h0;go_enter Tryz.func160, Tryz.ntmps160
   go_wp2_with fail
   go_loopw [0, 4] (fun s0 s4 wr => ∃ (j : Nat) (out : ByteArray), s0 = .int .i64 (-(j : Int)) /\ s4 = .string out /\ mkL j out = mkL u ⟨#[]⟩ /\ out.size + j <= u /\ (out.size = 0 ∨ out.size + j <= u / 10 + 1) /\ Below w.heap.size w wr) (fun s0 _ _ => (intOf s0).natAbs)
   case atStart => exact ⟨u, ⟨#[]⟩, rfl, rfl, rfl, by show 0 + _ <= _; omega, .inl rfl, Below.refl _ _⟩
   case round =>
    obtain ⟨j, out, rfl, rfl, hm, hs, hs2, hbr⟩ := hrel;have Hj := Lib.hid hm;clear hm;by_cases hj : 0 < j
    ·have hj0 : (-(j : Int) != 0) = true := bne_iff_ne.2 (by omega)
     have hj1 : -9223372036854775808 <= -(j : Int) := by omega
     obtain ⟨r, hr⟩ : ∃ r, r = j % 10 := ⟨_, rfl⟩
     have h1 := tmod_neg10 j;have h2 := tdiv_neg10 j;rw [<- hr] at h1;have hr9 : r < 10 := by omega
     have hd1 : (digit j).size = 1 := rfl;have Hn := Lib.hid (show mkL (j / 10) (digit j ++ out) = mkL u ⟨#[]⟩ by rw [<- Hj.out, mkL_pos j out hj]);have Hz := Lib.hid (show (digit j ++ out).size + j / 10 <= u /\ ((digit j ++ out).size = 0 ∨ (digit j ++ out).size + j / 10 <= u / 10 + 1) by rw [ByteArray.size_append, hd1]; omega);have hcv := figure_text wr j r hr;have hso : out.size <= 9223372036854775806 := by clear h1 h2; omega
     clear hr hs2;by_cases hr0 : r = 0
     focus
      subst hr0;have hcv0 := hcv;rw [show (48 + ((0 : Nat) : Int)) = 48 from rfl] at hcv0;clear hcv;go_wp2_with fail
      refine (c_spec_l01Figure 0 _ hr9).mono ?_
     rotate_left
     focus
      have hrn : -(r : Int) < 0 := by omega
      go_wp2_with fail
      refine (c_spec_l01Figure r _ hr9).mono ?_
     rotate_left
     all_goals
      rintro e w9 ⟨rfl, rfl⟩;go_wp2_with fail
      go_roundw
      case rel => exact ⟨j / 10, digit j ++ out, by go_num, rfl, Hn.out, Hz.out.1, Hz.out.2, bel⟩
      case measure => simp [intOf]; omega
    ·obtain rfl : j = 0 := by omega
     have HO := Lib.hid (show decS (-(u : Int)) = ⟨#[45]⟩ ++ out by rw [HD.out, <- Hj.out, mkL_zero]);have hso : out.size <= 9223372036854775806 := by omega
     go_wp2_with fail
     go_ret
     exact ⟨by rw [HO.out]; rfl, bel⟩
  ·obtain ⟨u, rfl⟩ : ∃ u : Nat, n = (u : Int) := ⟨n.toNat, by omega⟩
   have hu : 0 < u := by omega
   have HD := Lib.hid (decS_pos u hu);obtain ⟨hn1, hn2⟩ := hn;have h0b : ((u : Int) == 0) = false := beq_eq_false_iff_ne.2 h0;have hnb : decide ((u : Int) < 0) = false := decide_eq_false hneg;clear h0;go_enter Tryz.func160, Tryz.ntmps160
   go_wp2_with fail
   go_loopw [0, 4] (fun s0 s4 wr => ∃ (j : Nat) (out : ByteArray), s0 = .int .i64 (j : Int) /\ s4 = .string out /\ mkL j out = mkL u ⟨#[]⟩ /\ out.size + j <= u /\ (out.size = 0 ∨ out.size + j <= u / 10 + 1) /\ Below w.heap.size w wr) (fun s0 _ _ => (intOf s0).natAbs)
   case atStart => exact ⟨u, ⟨#[]⟩, rfl, rfl, rfl, by show 0 + _ <= _; omega, .inl rfl, Below.refl _ _⟩
   case round =>
    obtain ⟨j, out, rfl, rfl, hm, hs, hs2, hbr⟩ := hrel;have Hj := Lib.hid hm;clear hm;by_cases hj : 0 < j
    ·have hj0 : ((j : Int) != 0) = true := bne_iff_ne.2 (by omega)
     have hj2 : (0 : Int) <= j := by omega
     have hj3 : (j : Int) <= 9223372036854775807 := by omega
     have hr9 : j % 10 < 10 := by omega
     have hd1 : (digit j).size = 1 := rfl;have Hn := Lib.hid (show mkL (j / 10) (digit j ++ out) = mkL u ⟨#[]⟩ by rw [<- Hj.out, mkL_pos j out hj]);have Hz := Lib.hid (show (digit j ++ out).size + j / 10 <= u /\ ((digit j ++ out).size = 0 ∨ (digit j ++ out).size + j / 10 <= u / 10 + 1) by rw [ByteArray.size_append, hd1]; omega);have hcv := figure_text wr j (j % 10) rfl;rw [show ((j % 10 : Nat) : Int) = (j : Int) % 10 from by omega] at hcv
     have hso : out.size <= 9223372036854775806 := by omega
     have hge : ¬ (j : Int) % 10 < 0 := by omega
     clear hs2;go_wp2_with fail
     refine (c_spec_l01Figure (j % 10) _ hr9).mono ?_;rintro e w9 ⟨rfl, rfl⟩;go_wp2_with fail
     go_roundw
     case rel => exact ⟨j / 10, digit j ++ out, by go_num, rfl, Hn.out, Hz.out.1, Hz.out.2, bel⟩
     case measure => simp [intOf]; omega
    ·obtain rfl : j = 0 := by omega
     have HO := Lib.hid (show decS (u : Int) = out by rw [HD.out, <- Hj.out, mkL_zero]);go_wp2_with fail
     go_ret
     exact ⟨by rw [HO.out]; rfl, bel⟩
def figB (c : UInt8) : Prop := 48 <= c.toNat /\ c.toNat <= 57
def valL (acc : Nat) (l : List UInt8) : Nat := l.foldl (fun a c => a * 10 + (c.toNat - 48)) acc
theorem valL_nil (acc : Nat) : valL acc [] = acc := by unfold valL; rw [List.foldl_nil]
theorem valL_cons (acc : Nat) (c : UInt8) (r : List UInt8) : valL acc (c :: r) = valL (acc * 10 + (c.toNat - 48)) r := by unfold valL; rw [List.foldl_cons]
theorem valL_ge (l : List UInt8) (acc : Nat) : acc <= valL acc l := by
 induction l generalizing acc with
 | nil => rw [valL_nil]; exact Nat.le_refl _
 | cons c r ih =>
  have := ih (acc * 10 + (c.toNat - 48));rw [valL_cons];omega
theorem valL_app (l m : List UInt8) (acc : Nat) : valL acc (l ++ m) = valL (valL acc l) m := by unfold valL; rw [List.foldl_append]
theorem parse_figs (l : List UInt8) (acc : Nat) (hd : ∀ c ∈ l, figB c) (h : acc < 18446744073709551616) : parseUint10 acc l = if valL acc l < 18446744073709551616 then .ok (valL acc l) else .range := by
 induction l generalizing acc with
 | nil => rw [valL_nil, if_pos h, parseUint10]
 | cons c r ih =>
  have hc := hd c (by simp);unfold figB at hc;have hge := valL_ge r (acc * 10 + (c.toNat - 48));rw [valL_cons, parseUint10, if_pos hc];by_cases h1 : 1844674407370955162 <= acc
  ·rw [if_pos h1, if_neg (by omega)]
  ·rw [if_neg h1]
   by_cases h2 : 18446744073709551616 <= acc * 10 + (c.toNat - 48)
   ·rw [if_pos h2, if_neg (by omega)]
   ·rw [if_neg h2]
    exact ih _ (fun x hx => hd x (by simp [hx])) (by omega)
theorem ofNat_fig {d : Nat} (h : d < 10) : (UInt8.ofNat (48 + d)).toNat = 48 + d := by
 rw [UInt8.toNat_ofNat'];omega
theorem dec_figs (u : Nat) : ∀ c ∈ decDigits u, figB c := by
 induction u using Nat.strongRecOn with
 | ind u ih =>
  intro c hc;rw [decDigits] at hc;by_cases h : u < 10
  ·rw [dif_pos h] at hc
   rw [List.mem_singleton] at hc;subst hc;unfold figB;rw [ofNat_fig h];omega
  ·rw [dif_neg h] at hc
   rcases List.mem_append.1 hc with hc | hc
   ·exact ih (u / 10) (by omega) c hc
   ·rw [List.mem_singleton] at hc
    subst hc;unfold figB;rw [ofNat_fig (Nat.mod_lt _ (by decide))];omega
theorem dec_val (u : Nat) : valL 0 (decDigits u) = u := by
 induction u using Nat.strongRecOn with
 | ind u ih =>
  rw [decDigits];by_cases h : u < 10
  ·rw [dif_pos h]
   rw [valL_cons, valL_nil, ofNat_fig h];omega
  ·rw [dif_neg h, valL_app, ih (u / 10) (by omega)]
   rw [valL_cons, valL_nil, ofNat_fig (Nat.mod_lt _ (by decide))];omega
def figI (x : Int) : Bool := decide (48 <= x) && decide (x <= 57)
def digF (s : ByteArray) : Nat -> Nat -> Nat
 | 0, j => j
 | k + 1, j => if j < s.size then (if figI (byteI s j) = true then digF s k (j + 1) else j) else j
theorem digF_fuel (s : ByteArray) : ∀ (k l j : Nat), s.size - j <= k -> s.size - j <= l -> digF s k j = digF s l j
 | 0, 0, _, _, _ => rfl
 | 0, l + 1, j, h, _ => by unfold digF; rw [if_neg (by omega)]
 | k + 1, 0, j, _, h => by unfold digF; rw [if_neg (by omega)]
 | k + 1, l + 1, j, h1, h2 => by
  unfold digF;split
  ·split
   ·exact digF_fuel s k l _ (by omega) (by omega)
   ·rfl
  ·rfl
def digE (s : ByteArray) (j : Nat) : Nat := digF s (s.size - j) j
theorem digE_end {s : ByteArray} {j : Nat} (h : ¬ j < s.size) : digE s j = j := by
 unfold digE;rw [show s.size - j = 0 by omega];rfl
theorem digE_at {s : ByteArray} {j : Nat} (h : j < s.size) : digE s j = if figI (byteI s j) = true then digE s (j + 1) else j := by
 unfold digE;obtain ⟨k, hk⟩ : ∃ k, s.size - j = k + 1 := ⟨s.size - j - 1, by omega⟩
 rw [hk, digF, if_pos h];split
 ·exact digF_fuel s _ _ _ (by omega) (by omega)
 ·rfl
theorem digF_le (s : ByteArray) : ∀ (k j : Nat), j <= digF s k j /\ (j <= s.size -> digF s k j <= s.size)
 | 0, _ => ⟨Nat.le_refl _, fun h => h⟩
 | k + 1, j => by
  unfold digF;split
  ·split
   ·have := digF_le s k (j + 1)
    omega
   ·omega
  ·omega
theorem digE_le (s : ByteArray) (j : Nat) : j <= digE s j /\ (j <= s.size -> digE s j <= s.size) := digF_le s _ _
theorem digF_figs (s : ByteArray) : ∀ (k j t : Nat), j <= t -> t < digF s k j -> figI (byteI s t) = true /\ t < s.size
 | 0, j, t, h1, h2 => by unfold digF at h2; omega
 | k + 1, j, t, h1, h2 => by
  unfold digF at h2;split at h2
  ·split at h2
   ·rename_i hj hf
    rcases Nat.lt_or_ge j t with h | h
    ·exact digF_figs s k (j + 1) t (by omega) h2
    ·obtain rfl : t = j := by omega
     exact ⟨hf, hj⟩
   ·omega
  ·omega
theorem digE_figs {s : ByteArray} {j t : Nat} (h1 : j <= t) (h2 : t < digE s j) : figI (byteI s t) = true /\ t < s.size := digF_figs s _ j t h1 h2
def numB (s : ByteArray) (a e : Nat) : Nat := valL 0 (s.extract a e).data.toList
def wholeA (s : ByteArray) (neg : Bool) (a : Nat) : Int × Int :=
 if digE s a = a ∨ (byteI s a = 48 /\ a + 1 < digE s a) ∨ (digE s a < s.size /\ (byteI s (digE s a) = 46 ∨ byteI s (digE s a) = 101 ∨ byteI s (digE s a) = 69)) then (0, -1)
 else if neg = true then (if numB s a (digE s a) <= 9223372036854775808 then (-(numB s a (digE s a) : Int), (digE s a : Int)) else (0, -1))
 else (if numB s a (digE s a) <= 9223372036854775807 then ((numB s a (digE s a) : Int), (digE s a : Int)) else (0, -1))
def wholeB (s : ByteArray) (i : Nat) : Int × Int :=
 if i < s.size then (if byteI s i = 45 then wholeA s true (i + 1) else wholeA s false i) else (0, -1)
theorem extract_get (s : ByteArray) (a e k : Nat) (he : e <= s.size) (hk : a + k < e) : (s.extract a e).data.toList[k]? = some (s.get! (a + k)) := by
 have h1 : (s.extract a e).data.toList = (s.data.toList.drop a).take (e - a) := by
  rw [ByteArray.data_extract, Array.toList_extract, List.extract_eq_take_drop]
 rw [h1, List.getElem?_take, if_pos (by omega), List.getElem?_drop];have h2 : a + k < s.data.toList.length := by rw [Array.length_toList]; show a + k < s.size; omega
 rw [List.getElem?_eq_getElem h2];congr 1
 rw [Array.getElem_toList];have h3 : a + k < s.size := by omega
 show s.data[a + k] = s.data[a + k]!
 rw [getElem!_pos s.data (a + k) h3]
theorem extract_len (s : ByteArray) (a e : Nat) (he : e <= s.size) : (s.extract a e).data.toList.length = e - a := by
 rw [Array.length_toList];show (s.extract a e).size = e - a
 rw [ByteArray.size_extract];omega
theorem fig_of {s : ByteArray} {t : Nat} (h : figI (byteI s t) = true) : figB (s.get! t) := by
 unfold figI byteI at h;simp at h;unfold figB;omega
theorem figs_all {s : ByteArray} {a e : Nat} (he : e <= s.size) (h : ∀ t, a <= t -> t < e -> figI (byteI s t) = true) : ∀ c ∈ (s.extract a e).data.toList, figB c := by
 intro c hc;obtain ⟨k, hk⟩ := List.mem_iff_getElem?.1 hc
 have hl : k < e - a := by
  have := (List.getElem?_eq_some_iff.1 hk).1
  rwa [extract_len s a e he] at this
 rw [extract_get s a e k he (by omega)] at hk;injection hk with hk
 subst hk;exact fig_of (h _ (by omega) (by omega))
theorem atoi_figs {l : List UInt8} (h0 : l ≠ []) (hf : ∀ c ∈ l, figB c) : atoiAll l = if valL 0 l <= 9223372036854775807 then .ok (valL 0 l : Int) else .range := by
 rcases l with _ | ⟨c, r⟩
 ·exact absurd rfl h0
 ·have hc := hf c (by simp)
  unfold figB at hc;rw [atoiAll_plain c r (by omega) (by omega)];unfold parseMag;rw [if_neg (by simp), parse_figs _ 0 hf (by omega)];obtain ⟨u, hu⟩ : ∃ u, u = valL 0 (c :: r) := ⟨_, rfl⟩
  rw [<- hu];by_cases h1 : u < 18446744073709551616
  ·rw [if_pos h1]
   show (if 9223372036854775808 <= u then NumEnd.range else NumEnd.ok (u : Int)) = _
   by_cases h2 : u <= 9223372036854775807
   ·rw [if_neg (by omega), if_pos h2]
   ·rw [if_pos (by omega), if_neg h2]
  ·rw [if_neg h1, if_neg (by omega)]
   rfl
theorem atoi_minus {l : List UInt8} (h0 : l ≠ []) (hf : ∀ c ∈ l, figB c) : atoiAll (45 :: l) = if valL 0 l <= 9223372036854775808 then .ok (-(valL 0 l : Int)) else .range := by
 rw [atoiAll_minus];unfold parseMag;rw [if_neg h0, parse_figs _ 0 hf (by omega)];obtain ⟨u, hu⟩ : ∃ u, u = valL 0 l := ⟨_, rfl⟩
 rw [<- hu];by_cases h1 : u < 18446744073709551616
 ·rw [if_pos h1]
  show (if 9223372036854775808 < u then NumEnd.range else NumEnd.ok (-(u : Int))) = _
  by_cases h2 : u <= 9223372036854775808
  ·rw [if_neg (by omega), if_pos h2]
  ·rw [if_pos (by omega), if_neg h2]
 ·rw [if_neg h1, if_neg (by omega)]
  rfl
theorem wholeB_at {s : ByteArray} {i a : Nat} (h : i < s.size) (ha : a = if byteI s i = 45 then i + 1 else i) : wholeB s i = wholeA s (decide (byteI s i = 45)) a := by
 unfold wholeB;rw [if_pos h];by_cases h45 : byteI s i = 45
 ·rw [if_pos h45] at ha ⊢
  rw [decide_eq_true h45, ha]
 ·rw [if_neg h45] at ha ⊢
  rw [decide_eq_false h45, ha]
theorem wholeA_no {s : ByteArray} {neg : Bool} {a : Nat} (h : digE s a = a ∨ (byteI s a = 48 /\ a + 1 < digE s a) ∨ (digE s a < s.size /\ (byteI s (digE s a) = 46 ∨ byteI s (digE s a) = 101 ∨ byteI s (digE s a) = 69))) : wholeA s neg a = (0, -1) := if_pos h
theorem extract_cons {s : ByteArray} {i e : Nat} (hi : i < e) (he : e <= s.size) : (s.extract i e).data.toList = s.get! i :: (s.extract (i + 1) e).data.toList := by
 apply List.ext_getElem?;intro k;rcases k with _ | k
 ·rw [extract_get s i e 0 he (by omega)]; rfl
 ·rw [List.getElem?_cons_succ]
  by_cases hk : i + 1 + k < e
  ·rw [extract_get s i e (k + 1) he (by omega), extract_get s (i + 1) e k he hk]
   congr 2
   omega
  ·rw [List.getElem?_eq_none (by rw [extract_len s i e he]; omega), List.getElem?_eq_none (by rw [extract_len s (i + 1) e he]; omega)]
theorem whole_atoi {s : ByteArray} {i a : Nat} (hi : i < s.size) (ha : a = if byteI s i = 45 then i + 1 else i) (h : ¬ (digE s a = a ∨ (byteI s a = 48 /\ a + 1 < digE s a) ∨ (digE s a < s.size /\ (byteI s (digE s a) = 46 ∨ byteI s (digE s a) = 101 ∨ byteI s (digE s a) = 69)))) :
  (∃ v, atoiAll (s.extract i (digE s a)).data.toList = .ok v /\ wholeB s i = (v, (digE s a : Int))) ∨ (atoiAll (s.extract i (digE s a)).data.toList = .range /\ wholeB s i = (0, -1)) := by
 have hae := digE_le s a;have has : a <= s.size := by rw [ha]; split <;> omega
 have hes := hae.2 has;have hne : a < digE s a := by have := hae.1; have := not_or.1 h; omega
 have hf := figs_all (s := s) (a := a) (e := digE s a) hes (fun t h1 h2 => (digE_figs h1 h2).1);have hl := extract_len s a (digE s a) hes;have h0 : (s.extract a (digE s a)).data.toList ≠ [] := by intro hn; rw [hn] at hl; simp at hl; omega
 rw [wholeB_at hi ha];unfold wholeA;rw [if_neg h];by_cases h45 : byteI s i = 45
 ·rw [if_pos h45] at ha
  rw [decide_eq_true h45, if_pos rfl];have hc := extract_cons (s := s) (i := i) (e := digE s a) (by omega) hes
  have hb : s.get! i = 45 := by
   apply UInt8.toNat_inj.1;have h9 : (45 : UInt8).toNat = 45 := rfl;unfold byteI at h45;rw [h9];omega
  rw [hc, hb, <- ha, atoi_minus h0 hf];unfold numB;by_cases hv : valL 0 (s.extract a (digE s a)).data.toList <= 9223372036854775808
  ·rw [if_pos hv, if_pos hv]; exact .inl ⟨_, rfl, rfl⟩
  ·rw [if_neg hv, if_neg hv]; exact .inr ⟨rfl, rfl⟩
 ·rw [if_neg h45] at ha
  rw [decide_eq_false h45, if_neg (by decide)];rw [ha] at hf h0 ⊢;rw [atoi_figs h0 hf];unfold numB;by_cases hv : valL 0 (s.extract i (digE s i)).data.toList <= 9223372036854775807
  ·rw [if_pos hv, if_pos hv]; exact .inl ⟨_, rfl, rfl⟩
  ·rw [if_neg hv, if_neg hv]; exact .inr ⟨rfl, rfl⟩
end Go.Proofs.YtohcpifekcehjaaGreatDoor
