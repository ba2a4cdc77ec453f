/- Steps to FnIndentedNormal. No conditions. -/
import Derived.Test.YtohcpifekcehjaaGreatDoorKfni2
import Derived.Test.YtohcpifekcehjaaGreatDoorKfni1
import Derived.Shelf.Strings.CaseAny
import Derived.Shelf.Lays
import Derived.Lib.ConvBytes
import Derived.Lib.AppendStr
import Derived.Laws.IdiomStrings
import Derived.Lib.BufferRead
import Derived.Lib.ItoaNum
set_option maxHeartbeats 16000000
set_option maxRecDepth 20000
namespace Go.Proofs.YtohcpifekcehjaaGreatDoor
open Go.RowKit
def zs (M : List Nat) : List Int := M.map fun n : Nat => (n : Int)
theorem XX (M : List Nat) : (zs M).length = M.length := List.length_map _
theorem Jfw (o : Option (List Nat)) : o = o.map ([] ++ ·) := by cases o <;> rfl
theorem Jlp (o : Option (List Nat)) (M : List Nat) (r : Nat) : (o.map (r :: ·)).map (M ++ ·) = o.map ((M ++ [r]) ++ ·) := by
 cases o with
 | none => rfl
 | some l => show some (M ++ (r :: l)) = some ((M ++ [r]) ++ l); rw [List.append_assoc]; rfl
theorem UC (s : ByteArray) (w : World) (hs : s.size <= 1048576) :
  Calls Tryz.prog 219 #[.string s] w fun e w' => ∃ (M : List Nat) (A : Option Addr) (c : Nat), e = .returned (.tuple #[.slice A M.length c, .bool (Qt s)]) /\ (∀ l, JH s 0 = some l -> M = l) /\ RowE JdW 1 3 w.heap.size w' (zs M) (.slice A M.length c) /\ Below w.heap.size w w' := by
 obtain ⟨i0, hi, hz0, hz1, hz2⟩ := info_parts (show (Tryz.prog.info? 3).map (fun i => (i.zero, i.size, i.bytes)) = some (some (.int .i64 0), 1, 8) from by kernel_rfl);go_enter Tryz.func219, Tryz.ntmps219
 go_wp2_with fail
 go_loopw [4, 5] (fun s4 s5 wr => ∃ (i : Nat) (M : List Nat) (A : Option Addr) (c : Nat), i <= s.size /\ s5 = .int .i64 i /\ s4 = .slice A M.length c /\ RowE JdW 1 3 w.heap.size wr (zs M) (.slice A M.length c) /\ M.length <= i /\ JH s 0 = (JH s i).map (M ++ ·) /\ Below w.heap.size w wr) (fun _ s5 _ => s.size - (Lib.intOf s5).toNat)
 case atStart => exact ⟨0, [], some ⟨w.heap.size, 0, none⟩, 0, by omega, rfl, rfl, JV rfl (Nat.le_refl _), by simp, Jfw _, Jj⟩
 case round =>
  obtain ⟨i, M, A, c, hil, rfl, rfl, hR, hMi, hrun, hbr⟩ := hrel;have HR := Lib.hid hR;have HRun := Lib.hid hrun;clear hR hrun;by_cases hlt : (i : Int) < s.size
  ·have h0 : (0 : Int) <= i := by omega
   go_wp2_with fail
   refine (Vx s i _ (by omega) (by omega)).mono ?_;rintro e w1 ⟨rfl, hb⟩;have hsz := hb.size;have B1 : Below w.heap.size w w1 := hbr.trans (hb.mono hbr.size);by_cases hd : Utf8.decode s i = (65533, 1)
   ·have Hf := Lib.hid (show Qt s = false by unfold Qt; rw [HRun.out, QQ (by omega) hd]; rfl)
    have Hn := Lib.hid (show ∀ l, JH s 0 = some l -> ([] : List Nat) = l from fun l h => by rw [HRun.out, QQ (by omega) hd] at h; cases h);rw [XY (by omega) hd];clear hd;go_wp2_with fail
    go_ret2
    exact ⟨[], some ⟨w1.heap.size, 0, none⟩, 0, by rw [Hf.out]; rfl, Hn.out, JV rfl B1.size, Jj⟩
   obtain ⟨d1, d2, d3⟩ := JT s i (by omega);have hst := Qu (show i < s.size by omega) hd;rw [WD (by omega) hd];obtain ⟨r, hr⟩ : ∃ r, r = (Utf8.decode s i).1 := ⟨_, rfl⟩
   obtain ⟨q, hq⟩ : ∃ q, q = i + (Utf8.decode s i).2 := ⟨_, rfl⟩
   rw [<- hr, <- hq] at hst;rw [<- hr, <- hq];have hqs : q <= s.size := by omega
   have hqi : i < q := by omega
   have Hrun := Lib.hid (show JH s 0 = (JH s q).map ((M ++ [r]) ++ ·) by rw [HRun.out, hst, Jlp]);have hq0 : decide ((q : Int) < 0) = false := JmF (by omega);clear hr hq hst hd d1 d2 d3 HRun;have hR1 := HR.out.below hb;have hb0 : Below w1.heap.size w1 (w1.alloc (.cells #[.int .i64 (r : Int)] 3)) := Jj;obtain ⟨v5, w5, hr5, hR5, hg5, -⟩ := Us (P := Tryz.prog) (enc := JdW) (C := C_Z) (w1.alloc (.cells #[.int .i64 (r : Int)] 3)) 132 132 w.heap.size 3 i0 (.int .i64 0) 1 8 Tryz.underlying132 hi hz0 hz1 hz2 rfl (by decide) Jcf Jkr Jl0 _ M.length (zs M) (XX M) (hR1.below hb0) [(r : Int)] (some ⟨w1.heap.size, 0, none⟩) 1 1 _ _ rfl (JjU (C := C_Z) Jcf w1 (r : Int) rfl 3 _ rfl) (by unfold maxLen; omega) (by omega) (by have := B1.size; simp; omega)
   have hE : zs M ++ [(r : Int)] = zs (M ++ [r]) := by unfold zs; rw [List.map_append]; rfl
   rw [hE] at hR5;obtain ⟨A5, c5, rfl⟩ := hR5.form;have HR5 := Lib.hid hR5;have HB5 := Lib.hid (show Below w.heap.size w w5 from Below.grown (B1.trans (hb0.mono B1.size)) hg5 (by have := B1.size; simp; omega) (fun q hq => (World.ownsRow.lt hR1 q hq).1));have HL := Lib.hid (show (zs (M ++ [r])).length = M.length + 1 by rw [XX]; simp);clear hR5 hg5 hb0 hR1 hE hb;go_wp2_with (at_builtin; refine Ji rfl (.tmp 22) (.tmp 24) 132 rfl _ _ _ w5 rfl rfl hr5 ?_)
   clear hr5;go_roundw
   case rel => exact ⟨q, M ++ [r], A5, c5, hqs, rfl, by rw [XX], by have h9 := HR5.out; rw [XX] at h9; exact h9, by simp; omega, Hrun.out, HB5.out⟩
   case measure => simp [Lib.intOf]; omega
  have he : JH s i = some [] := QE (by omega);have Hf := Lib.hid (show Qt s = true by unfold Qt; rw [HRun.out, he]; rfl);have Hn := Lib.hid (show ∀ l, JH s 0 = some l -> M = l from fun l h => by rw [HRun.out, he] at h; simpa using h);go_wp2_with fail
  go_ret2
  exact ⟨M, A, c, by rw [Hf.out]; rfl, Hn.out, HR.out, hbr⟩
theorem WB (s : ByteArray) (w : World) (hs : s.size <= 1048576) :
  Calls Tryz.prog 195 #[.string s] w fun e w' => e = .returned (.bool (Qt s)) /\ Below w.heap.size w w' := by
 go_enter Tryz.func195, Tryz.ntmps195
 go_wp2_with fail
 refine (UC s _ hs).mono ?_;rintro e w1 ⟨M, A, c, rfl, -, -, hb⟩;go_wp2_with fail
 go_ret
 exact ⟨rfl, hb⟩
theorem Jbe (s : ByteArray) (w : World) (hs : s.size <= 1048576) :
  Calls Tryz.prog 106 #[.string s] w fun e w' => e = .returned (.int .i64 (QO s 0)) /\ Below w.heap.size w w' := by
 go_enter Tryz.func106, Tryz.ntmps106
 go_wp2_with fail
 go_loopw [3] (fun s3 wr => ∃ i : Nat, i <= s.size /\ s3 = .int .i64 i /\ QO s 0 = QO s i /\ Below w.heap.size w wr) (fun s3 _ => s.size - (Lib.intOf s3).toNat)
 case atStart => exact ⟨0, by omega, rfl, rfl, Jj⟩
 case round =>
  obtain ⟨i, hil, rfl, hrun, hbr⟩ := hrel;have HRun := Lib.hid hrun;clear hrun;by_cases hlt : (i : Int) < s.size
  ·have h0 : (0 : Int) <= i := by omega
   go_wp2_with fail
   refine (Vx s i _ (by omega) (by omega)).mono ?_;rintro e w1 ⟨rfl, hb⟩;have B1 : Below w.heap.size w w1 := hbr.trans (hb.mono hbr.size);by_cases hd : Utf8.decode s i = (65533, 1)
   ·have Hf := Lib.hid (show QO s 0 = i by rw [HRun.out, Jac (by omega) hd])
    rw [XY (by omega) hd];clear hd;go_wp2_with fail
    go_ret
    exact ⟨by rw [Hf.out]; rfl, B1⟩
   obtain ⟨d1, d2, d3⟩ := JT s i (by omega);have hst := Zd (show i < s.size by omega) hd;rw [WD (by omega) hd];obtain ⟨r, hr⟩ : ∃ r, r = (Utf8.decode s i).1 := ⟨_, rfl⟩
   obtain ⟨q, hq⟩ : ∃ q, q = i + (Utf8.decode s i).2 := ⟨_, rfl⟩
   rw [<- hq] at hst;rw [<- hr, <- hq];have hqs : q <= s.size := by omega
   have hqi : i < q := by omega
   have Hrun := Lib.hid (show QO s 0 = QO s q by rw [HRun.out, hst]);have hq0 : decide ((q : Int) < 0) = false := JmF (by omega);clear hr hq hst hd d1 d2 d3 HRun;go_wp2_with fail
   go_roundw
   case rel => exact ⟨q, hqs, rfl, Hrun.out, B1⟩
   case measure => simp [Lib.intOf]; omega
  have Hf := Lib.hid (show QO s 0 = -1 by rw [HRun.out, Wj (by omega)]);go_wp2_with fail
  go_ret
  exact ⟨by rw [Hf.out]; rfl, hbr⟩
structure Flt where
 code : Int
 at' : Int
 path : ByteArray
def Uv (f : Flt) : Array Value := #[.int .i64 f.code, .int .i64 f.at', .string f.path]
def Jv : Flt := ⟨0, 0, ⟨#[]⟩⟩
def QN (s : ByteArray) : Flt := if 20000 < s.size then ⟨1, 0, ⟨#[]⟩⟩ else if 0 <= QO s 0 then ⟨2, QO s 0, ⟨#[]⟩⟩ else Jv
theorem ZJ (s : ByteArray) (w : World) (hs : s.size <= 1048576) (hT : Tabs w) :
  Calls Tryz.prog 91 #[.string s] w fun e w' => e = .returned (.agg (Uv (QN s))) /\ Below w.heap.size w w' := by
 have HT := Lib.hid hT;clear hT;by_cases hl : (20000 : Int) < s.size
 ·have Hf := Lib.hid (show QN s = ⟨1, 0, ⟨#[]⟩⟩ by unfold QN; rw [if_pos (by omega)])
  go_enter Tryz.func91, Tryz.ntmps91
  go_wp2_with fail
  exact bodyPost_ret (v := .agg #[.int .i64 1, .int .i64 0, .string ⟨#[]⟩]) (by simp only [results, Tryz.results91]; go_simp) rfl ⟨by rw [Hf.out]; rfl, Jj⟩
 have hl2 : s.size <= 20000 := by omega
 have hl3 : decide ((20000 : Int) < s.size) = false := JmF hl;clear hl;go_enter Tryz.func91, Tryz.ntmps91
 go_wp2_with fail
 go_loopw [3] (fun s3 wr => ∃ i : Nat, i <= s.size /\ s3 = .int .i64 i /\ QO s 0 = QO s i /\ wr.heap[w.heap.size]? = some (.cells #[.int .i64 0, .int .i64 0, .string ⟨#[]⟩] 23 (0, 0)) /\ Below w.heap.size w wr) (fun s3 _ => s.size - (Lib.intOf s3).toNat)
 case atStart => exact ⟨0, by omega, rfl, rfl, Je (by simp), Jj⟩
 case round =>
  obtain ⟨i, hil, rfl, hrun, hbox, hbr⟩ := hrel;have HRun := Lib.hid hrun;have HBox := Lib.hid hbox;have hlb := Ja hbox;clear hrun hbox;by_cases hlt : (i : Int) < s.size
  ·have h0 : (0 : Int) <= i := by omega
   go_wp2_with fail
   refine (Yg s i _ (by omega) (by omega) (HT.out.below hbr)).mono ?_;rintro e w1 ⟨rfl, hb⟩;have B1 : Below w.heap.size w w1 := hbr.trans (hb.mono hbr.size);have hbox := (hb.block _ hlb).trans HBox.out;obtain ⟨a0, a1, a2, af⟩ := Qi hbox;have hlc := Ja hbox;have HBo := Lib.hid hbox;clear hbox;by_cases hd : Utf8.decode s i = (65533, 1)
   ·have Hf := Lib.hid (show QN s = ⟨2, i, ⟨#[]⟩⟩ by unfold QN; rw [if_neg (by omega), HRun.out, Jac (by omega) hd, if_pos (by omega)])
    rw [XY (by omega) hd];clear hd;go_wp2_with fail
    exact bodyPost_ret (v := .agg #[.int .i64 2, .int .i64 i, .string ⟨#[]⟩]) (by simp only [results, Tryz.results91]; go_simp) rfl ⟨by rw [Hf.out]; rfl, Jj⟩
   obtain ⟨d1, d2, d3⟩ := JT s i (by omega);have hst := Zd (show i < s.size by omega) hd;rw [WD (by omega) hd];obtain ⟨r, hr⟩ : ∃ r, r = (Utf8.decode s i).1 := ⟨_, rfl⟩
   obtain ⟨q, hq⟩ : ∃ q, q = i + (Utf8.decode s i).2 := ⟨_, rfl⟩
   rw [<- hq] at hst;rw [<- hr, <- hq];have hqs : q <= s.size := by omega
   have hqi : i < q := by omega
   have Hrun := Lib.hid (show QO s 0 = QO s q by rw [HRun.out, hst]);have hq0 : decide ((q : Int) < 0) = false := JmF (by omega);clear hr hq hst hd d1 d2 d3 HRun;go_wp2_with fail
   go_roundw
   case rel => exact ⟨q, hqs, rfl, Hrun.out, HBo.out, B1⟩
   case measure => simp [Lib.intOf]; omega
  have Hf := Lib.hid (show QN s = Jv by unfold QN; rw [if_neg (by omega), HRun.out, Wj (by omega), if_neg (by omega)]);obtain ⟨a0, a1, a2, af⟩ := Qi HBox.out;go_wp2_with fail
  exact bodyPost_ret (v := .agg #[.int .i64 0, .int .i64 0, .string ⟨#[]⟩]) (by simp only [results, Tryz.results91]; go_simp) rfl ⟨by rw [Hf.out]; rfl, Jj⟩
def Jb (s : ByteArray) (j : Nat) : Int := ((s.get! j).toNat : Int)
theorem Jaz (s : ByteArray) (j : Nat) : 0 <= Jb s j /\ Jb s j < 256 := by
 have := (s.get! j).toNat_lt;unfold Jb;omega
def Y6 (x : Int) : Int := if 48 <= x /\ x <= 57 then x - 48 else if 97 <= x /\ x <= 102 then x - 87 else -1
def UV (x : Int) : Int := if 65 <= x /\ x <= 70 then x - 55 else Y6 x
theorem Jbn (x : Int) : -1 <= Y6 x /\ Y6 x < 16 := by
 unfold Y6;split
 ·omega
 split <;> omega
theorem YZ (x : Int) : -1 <= UV x /\ UV x < 16 := by
 unfold UV;split
 ·omega
 exact Jbn x
def Ut (s : ByteArray) : Nat -> Nat -> Int -> Int
 | 0, _, n => n
 | k + 1, j, n => if UV (Jb s j) < 0 then -1 else Ut s k (j + 1) (16 * n + UV (Jb s j))
def Jz (s : ByteArray) (i : Nat) : Int := if i + 4 <= s.size then Ut s 4 i 0 else -1
theorem Yt (x : Int) (w : World) (hx : 0 <= x /\ x < 256) : Calls Tryz.prog 283 #[.int .u8 x] w fun e w' => e = .returned (.int .i64 (Y6 x)) /\ w = w' := by
 go_enter Tryz.func283, Tryz.ntmps283
 go_wp2_with fail
 all_goals
  go_ret
  refine ⟨Jem ?_, rfl⟩;simp_all [Y6]
  try omega
theorem YS (s : ByteArray) (i : Nat) (w : World) (hs : s.size <= 1048576) (hi : i <= 2097152) :
  Calls Tryz.prog 267 #[.string s, .int .i64 i] w fun e w' => e = .returned (.int .i64 (Jz s i)) /\ w = w' := by
 obtain ⟨p4, hp4⟩ : ∃ p, p = i + 4 := ⟨_, rfl⟩
 have hpe : (i : Int) + 4 = p4 := by omega
 have HP := Lib.hid hp4;by_cases hl : s.size < p4
 ·have Hf := Lib.hid (show Jz s i = -1 by unfold Jz; rw [if_neg (by omega)])
  have hl2 : (s.size : Int) < p4 := by omega
  clear hp4;go_enter Tryz.func267, Tryz.ntmps267
  go_wp2_with fail
  go_ret
  exact ⟨by rw [Hf.out]; rfl, rfl⟩
 have Hf := Lib.hid (show Jz s i = Ut s 4 i 0 by unfold Jz; rw [if_pos (by omega)]);have hl2 : decide ((s.size : Int) < p4) = false := JmF (by omega);have hl3 : decide (s.size < p4) = false := JmF hl;have Hl := Lib.hid hl;clear hp4 hl;go_enter Tryz.func267, Tryz.ntmps267
 go_wp2_with fail
 go_loopw [5, 6] (fun s5 s6 wr => ∃ (k j : Nat) (n : Int), j + k = p4 /\ k <= 4 /\ s6 = .int .i64 j /\ s5 = .int .i64 n /\ 0 <= n /\ ((k = 4 -> n < 1) /\ (k = 3 -> n < 16) /\ (k = 2 -> n < 256) /\ (k = 1 -> n < 4096) /\ n < 65536) /\ Ut s 4 i 0 = Ut s k j n /\ wr = w) (fun _ s6 _ => p4 - (Lib.intOf s6).toNat)
 case atStart => exact ⟨4, i, 0, by have := HP.out; omega, by omega, rfl, rfl, by omega, ⟨by omega, by omega, by omega, by omega, by omega⟩, rfl, rfl⟩
 case round =>
  obtain ⟨k, j, n, hjk, hk4, rfl, rfl, hn0, hnb, hrun, rfl⟩ := hrel;have HRun := Lib.hid hrun;have HNb := Lib.hid hnb;have hn6 : n < 65536 := hnb.2.2.2.2;clear hrun hnb;by_cases hlt : (j : Int) < p4
  ·obtain ⟨m, rfl⟩ : ∃ m, k = m + 1 := ⟨k - 1, by omega⟩
   have hjs : j < s.size := by have := Hl.out; omega
   have hjI : (j : Int) < s.size := by omega
   have hn4 : n < 4096 := by have := HNb.out; omega
   obtain ⟨b, hb⟩ : ∃ b : Nat, b = (s.get! j).toNat := ⟨_, rfl⟩
   have hx : (s[j]'hjs).toNat = b := by rw [hb]; exact Q2 s j hjs
   have hb2 : (b : Int) < 256 := by have := (s.get! j).toNat_lt; omega
   have hby : Jb s j = b := by unfold Jb; rw [hb]
   obtain ⟨d, hd⟩ : ∃ d, d = UV b := ⟨_, rfl⟩
   have hdr := YZ b;rw [<- hd] at hdr;obtain ⟨hd1, hd2⟩ := hdr;have HStep := Lib.hid (show Ut s (m + 1) j n = if d < 0 then -1 else Ut s m (j + 1) (16 * n + d) by rw [hd, <- hby]; rfl);clear hby hb hn6;have HD := Lib.hid hd;by_cases hup : (65 : Int) <= b /\ (b : Int) <= 70
   ·obtain ⟨u1, u2⟩ := hup
    have hlow : Y6 ((b : Int) + 32) = d := by rw [hd]; unfold UV; rw [if_pos ⟨u1, u2⟩]; unfold Y6; rw [if_neg (by omega), if_pos (by omega)]; omega
    have hdp : 0 <= d := by rw [<- hlow]; unfold Y6; rw [if_neg (by omega), if_pos (by omega)]; omega
    have hdd : decide (d < 0) = false := JmF (by omega);clear hd;go_wp2_with (first | (go_at_call 283; refine (Yt _ _ (by omega)).mono ?_; rintro e w' ⟨rfl, rfl⟩))
    go_roundw
    case rel => exact ⟨m, j + 1, 16 * n + d, by omega, by omega, by go_num, rfl, by omega, by have := HNb.out; omega, by rw [HRun.out, HStep.out, if_neg (by omega)], by first | rfl | exact True.intro⟩
    case measure => simp [Lib.intOf]; omega
   have hlow : Y6 (b : Int) = d := by rw [hd]; unfold UV; rw [if_neg hup]
   clear hd;rcases (show (b : Int) < 65 ∨ 70 < (b : Int) by omega) with hbb | hbb
   focus
    have c1 : decide ((65 : Int) <= b) = false := JmF (by omega)
   rotate_left
   focus
    have c0 : (65 : Int) <= b := by omega
    have c1 : decide ((b : Int) <= 70) = false := JmF (by omega)
   rotate_left
   all_goals
    clear hbb hup;by_cases hneg : d < 0
    ·have Hg := Lib.hid (show Jz s i = -1 by rw [Hf.out, HRun.out, HStep.out, if_pos hneg])
     go_wp2_with (first | (go_at_call 283; refine (Yt _ _ (by omega)).mono ?_; rintro e w' ⟨rfl, rfl⟩))
     go_ret
     exact ⟨by rw [Hg.out]; rfl, rfl⟩
    have hdd : decide (d < 0) = false := JmF hneg;have hdp : 0 <= d := by omega
    clear hneg;go_wp2_with (first | (go_at_call 283; refine (Yt _ _ (by omega)).mono ?_; rintro e w' ⟨rfl, rfl⟩))
    go_roundw
    case rel => exact ⟨m, j + 1, 16 * n + d, by omega, by omega, by go_num, rfl, by omega, by have := HNb.out; omega, by rw [HRun.out, HStep.out, if_neg (by omega)], by first | rfl | exact True.intro⟩
    case measure => simp [Lib.intOf]; omega
  obtain rfl : k = 0 := by omega
  have Hg := Lib.hid (show Jz s i = n by rw [Hf.out, HRun.out]; rfl);go_wp2_with fail
  go_ret
  exact ⟨by rw [Hg.out]; rfl, rfl⟩
theorem Q7 (s : ByteArray) (i : Nat) : -1 <= Jz s i /\ Jz s i < 65536 := by
 have h0 := YZ (Jb s i);have h1 := YZ (Jb s (i + 1));have h2 := YZ (Jb s (i + 1 + 1));have h3 := YZ (Jb s (i + 1 + 1 + 1));unfold Jz;split
 ·simp only [Ut]
  repeat' split
  all_goals omega
 omega
def J4 (s : ByteArray) (i : Nat) : Int × Int :=
 if i < s.size then
  (if Jb s i = 34 ∨ Jb s i = 92 ∨ Jb s i = 47 then (Jb s i, (i : Int) + 1)
  else if Jb s i = 98 then (8, (i : Int) + 1)
  else if Jb s i = 102 then (12, (i : Int) + 1)
  else if Jb s i = 110 then (10, (i : Int) + 1)
  else if Jb s i = 114 then (13, (i : Int) + 1)
  else if Jb s i = 116 then (9, (i : Int) + 1)
  else if Jb s i = 117 then
   (if Jz s (i + 1) < 0 ∨ Q6 (Jz s (i + 1)) 56320 57343 = true then (0, -1)
   else if Q6 (Jz s (i + 1)) 55296 56319 = false then (Jz s (i + 1), (i : Int) + 5)
   else if s.size < i + 7 ∨ Jb s (i + 5) ≠ 92 ∨ Jb s (i + 6) ≠ 117 then (0, -1)
   else if Q6 (Jz s (i + 7)) 56320 57343 = true then (65536 + 1024 * (Jz s (i + 1) - 55296) + Jz s (i + 7) - 56320, (i : Int) + 11)
   else (0, -1))
  else (0, -1))
 else (0, -1)
theorem JaC (s : ByteArray) (i : Nat) (w : World) (hs : s.size <= 1048576) (hi : i <= 1048577) :
  Calls Tryz.prog 245 #[.string s, .int .i64 i] w fun e w' => e = .returned (.tuple #[.int .i64 (J4 s i).1, .int .i64 (J4 s i).2]) /\ w = w' := by
 by_cases hlt : (i : Int) < s.size
 ·have h0 : (0 : Int) <= i := by omega
  have h1 : decide ((s.size : Int) <= i) = false := JmF (by omega);have h2 : decide (s.size <= i) = false := JmF (by omega);have hii : i < s.size := by omega
  obtain ⟨b, hb⟩ : ∃ b : Nat, b = (s.get! i).toNat := ⟨_, rfl⟩
  have hx : (s[i]'hii).toNat = b := by rw [hb]; exact Q2 s i hii
  have hb2 : (b : Int) < 256 := by have := (s.get! i).toNat_lt; omega
  have hby : Jb s i = b := by unfold Jb; rw [hb]
  clear hb;have HE := Lib.hid (show J4 s i = _ from if_pos hii);rw [hby] at HE;have HE := HE;have Hii := Lib.hid hii;have HE0 := Lib.hid HE.out;clear HE;by_cases e34 : (b : Int) = 34
  ·have Hf := Lib.hid (show J4 s i = ((b : Int), (i : Int) + 1) by rw [HE0.out, if_pos (by omega)])
   obtain rfl : b = 34 := by omega
   clear e34;go_enter Tryz.func245, Tryz.ntmps245
   go_wp2_with fail
   go_ret2
   exact ⟨by rw [Hf.out]; rfl, rfl⟩
  have f34 : ((b : Int) == 34) = false := JmH e34;by_cases e92 : (b : Int) = 92
  ·have Hf := Lib.hid (show J4 s i = ((b : Int), (i : Int) + 1) by rw [HE0.out, if_pos (by omega)])
   obtain rfl : b = 92 := by omega
   clear e92;go_enter Tryz.func245, Tryz.ntmps245
   go_wp2_with fail
   go_ret2
   exact ⟨by rw [Hf.out]; rfl, rfl⟩
  have f92 : ((b : Int) == 92) = false := JmH e92;by_cases e47 : (b : Int) = 47
  ·have Hf := Lib.hid (show J4 s i = ((b : Int), (i : Int) + 1) by rw [HE0.out, if_pos (by omega)])
   obtain rfl : b = 47 := by omega
   clear e47;go_enter Tryz.func245, Tryz.ntmps245
   go_wp2_with fail
   go_ret2
   exact ⟨by rw [Hf.out]; rfl, rfl⟩
  have f47 : ((b : Int) == 47) = false := JmH e47;by_cases e98 : (b : Int) = 98
  ·have Hf := Lib.hid (show J4 s i = (8, (i : Int) + 1) by rw [HE0.out, if_neg (by omega), if_pos e98])
   obtain rfl : b = 98 := by omega
   clear e98;go_enter Tryz.func245, Tryz.ntmps245
   go_wp2_with fail
   go_ret2
   exact ⟨by rw [Hf.out]; rfl, rfl⟩
  have f98 : ((b : Int) == 98) = false := JmH e98;by_cases e102 : (b : Int) = 102
  ·have Hf := Lib.hid (show J4 s i = (12, (i : Int) + 1) by rw [HE0.out, if_neg (by omega), if_neg (by omega), if_pos e102])
   obtain rfl : b = 102 := by omega
   clear e102;go_enter Tryz.func245, Tryz.ntmps245
   go_wp2_with fail
   go_ret2
   exact ⟨by rw [Hf.out]; rfl, rfl⟩
  have f102 : ((b : Int) == 102) = false := JmH e102;by_cases e110 : (b : Int) = 110
  ·have Hf := Lib.hid (show J4 s i = (10, (i : Int) + 1) by rw [HE0.out, if_neg (by omega), if_neg (by omega), if_neg (by omega), if_pos e110])
   obtain rfl : b = 110 := by omega
   clear e110;go_enter Tryz.func245, Tryz.ntmps245
   go_wp2_with fail
   go_ret2
   exact ⟨by rw [Hf.out]; rfl, rfl⟩
  have f110 : ((b : Int) == 110) = false := JmH e110;by_cases e114 : (b : Int) = 114
  ·have Hf := Lib.hid (show J4 s i = (13, (i : Int) + 1) by rw [HE0.out, if_neg (by omega), if_neg (by omega), if_neg (by omega), if_neg (by omega), if_pos e114])
   obtain rfl : b = 114 := by omega
   clear e114;go_enter Tryz.func245, Tryz.ntmps245
   go_wp2_with fail
   go_ret2
   exact ⟨by rw [Hf.out]; rfl, rfl⟩
  have f114 : ((b : Int) == 114) = false := JmH e114;by_cases e116 : (b : Int) = 116
  focus
   have Hf := Lib.hid (show J4 s i = (9, (i : Int) + 1) by rw [HE0.out, if_neg (by omega), if_neg (by omega), if_neg (by omega), if_neg (by omega), if_neg (by omega), if_pos e116]);obtain rfl : b = 116 := by omega
   clear e116
  rotate_left
  focus
   have f116 : ((b : Int) == 116) = false := JmH e116;by_cases e117 : (b : Int) = 117
   ·have HU := Lib.hid (show J4 s i = _ by rw [HE0.out, if_neg (by omega), if_neg (by omega), if_neg (by omega), if_neg (by omega), if_neg (by omega), if_neg (by omega), if_pos e117])
    obtain rfl : b = 117 := by omega
    clear e117 e34 e92 e47 e98 e102 e110 e114 e116 f34 f92 f47 f98 f102 f110 f114 f116;obtain ⟨p1, hp1⟩ : ∃ p, p = i + 1 := ⟨_, rfl⟩
    have q1 : (i : Int) + 1 = p1 := by omega
    have HP1 := Lib.hid hp1;obtain ⟨p5, hp5⟩ : ∃ p, p = i + 5 := ⟨_, rfl⟩
    have q5 : (i : Int) + 5 = p5 := by omega
    have HP5 := Lib.hid hp5;obtain ⟨p6, hp6⟩ : ∃ p, p = i + 6 := ⟨_, rfl⟩
    have q6 : (i : Int) + 6 = p6 := by omega
    have HP6 := Lib.hid hp6;obtain ⟨p7, hp7⟩ : ∃ p, p = i + 7 := ⟨_, rfl⟩
    have q7 : (i : Int) + 7 = p7 := by omega
    have HP7 := Lib.hid hp7;obtain ⟨p11, hp11⟩ : ∃ p, p = i + 11 := ⟨_, rfl⟩
    have q11 : (i : Int) + 11 = p11 := by omega
    have HP11 := Lib.hid hp11;have hpb : (p11 : Int) <= 1048588 := by omega
    clear hp1 hp5 hp6 hp7 hp11;obtain ⟨n, hn⟩ : ∃ n, n = Jz s p1 := ⟨_, rfl⟩
    have hnr := Q7 s p1;rw [<- hn] at hnr;obtain ⟨hn1, hn2⟩ := hnr;have HN := Lib.hid hn;clear hn;by_cases n0 : n < 0
    focus
     have Hf := Lib.hid (show J4 s i = (0, -1) by rw [HU.out, <- HP1.out, <- HN.out]; exact if_pos (.inl n0))
    rotate_left
    focus
     have d0 : decide (n < 0) = false := JmF n0;have hn0 : 0 <= n := by omega
     rcases hB : Q6 n 56320 57343 with _ | _
     ·rcases hC : Q6 n 55296 56319 with _ | _
      ·have Hf := Lib.hid (show J4 s i = (n, (p5 : Int)) by rw [HU.out, <- HP1.out, <- HN.out]; rw [<- q5]; exact (if_neg (by rintro (h | h); exact n0 h; rw [hB] at h; exact absurd h (by decide))).trans (if_pos hC))
       clear n0;go_enter Tryz.func245, Tryz.ntmps245
       go_wp2_with fail
       refine (YS s p1 _ hs (by omega)).mono ?_;rintro e w9 ⟨rfl, rfl⟩;rw [<- HN.out];go_wp2_with (first | (go_at_call 115; refine (Jo _ _ _ _).mono ?_; rintro e w' ⟨rfl, rfl⟩))
       go_ret2
       exact ⟨by rw [Hf.out]; rfl, rfl⟩
      have HV := Lib.hid (show J4 s i = (if s.size < p7 ∨ Jb s p5 ≠ 92 ∨ Jb s p6 ≠ 117 then (0, -1) else if Q6 (Jz s p7) 56320 57343 = true then (65536 + 1024 * (n - 55296) + Jz s p7 - 56320, (p11 : Int)) else (0, -1)) by rw [HU.out, <- HP1.out, <- HN.out]; rw [<- HP5.out, <- HP6.out, <- HP7.out, q11]; exact (if_neg (by rintro (h | h); exact n0 h; rw [hB] at h; exact absurd h (by decide))).trans (if_neg (by rw [hC]; decide)))
      clear n0;by_cases hD : (s.size : Int) < p7
      ·have Hf := Lib.hid (show J4 s i = (0, -1) by rw [HV.out]; exact if_pos (.inl (by omega)))
       go_enter Tryz.func245, Tryz.ntmps245
       go_wp2_with fail
       refine (YS s p1 _ hs (by omega)).mono ?_;rintro e w9 ⟨rfl, rfl⟩;rw [<- HN.out];go_wp2_with (first | (go_at_call 115; refine (Jo _ _ _ _).mono ?_; rintro e w' ⟨rfl, rfl⟩))
       go_ret2
       exact ⟨by rw [Hf.out]; rfl, rfl⟩
      have g7 := Int.not_lt.1 hD;have g5 : p5 < s.size := by have := HP7.out; have := HP5.out; omega
      have g6 : p6 < s.size := by have := HP7.out; have := HP6.out; omega
      have gi5 : (p5 : Int) < s.size := by omega
      have gi6 : (p6 : Int) < s.size := by omega
      have dD : decide ((s.size : Int) < p7) = false := JmF hD;have dD2 : decide (s.size < p7) = false := JmF (by omega);obtain ⟨b5, hb5⟩ : ∃ b : Nat, b = (s.get! p5).toNat := ⟨_, rfl⟩
      have hx5 : (s[p5]'g5).toNat = b5 := by rw [hb5]; exact Q2 s p5 g5
      obtain ⟨b6, hb6⟩ : ∃ b : Nat, b = (s.get! p6).toNat := ⟨_, rfl⟩
      have hx6 : (s[p6]'g6).toNat = b6 := by rw [hb6]; exact Q2 s p6 g6
      have h5b : (b5 : Int) < 256 := by have := (s.get! p5).toNat_lt; omega
      have h6b : (b6 : Int) < 256 := by have := (s.get! p6).toNat_lt; omega
      have HB5 := Lib.hid (show Jb s p5 = b5 by unfold Jb; rw [hb5]);have HB6 := Lib.hid (show Jb s p6 = b6 by unfold Jb; rw [hb6]);have HD := Lib.hid hD;clear hb5 hb6 hD g7;by_cases e5 : (b5 : Int) = 92
      focus
       obtain rfl : b5 = 92 := by omega
       clear e5;by_cases e6 : (b6 : Int) = 117
       ·obtain rfl : b6 = 117 := by omega
        clear e6;obtain ⟨m, hm⟩ : ∃ m, m = Jz s p7 := ⟨_, rfl⟩
        have hmr := Q7 s p7;rw [<- hm] at hmr;obtain ⟨hm1, hm2⟩ := hmr;have HM := Lib.hid hm;clear hm;have HW := Lib.hid (show J4 s i = (if Q6 m 56320 57343 = true then (65536 + 1024 * (n - 55296) + m - 56320, (p11 : Int)) else (0, -1)) by rw [HV.out, <- HM.out]; exact if_neg (by rintro (h | h | h); (have := HD.out; omega); exact h HB5.out; exact h HB6.out));rcases hG : Q6 m 56320 57343 with _ | _
        focus
         have Hf := Lib.hid (show J4 s i = (0, -1) by rw [HW.out]; exact if_neg (by rw [hG]; decide))
        rotate_left
        focus
         have hmi : 56320 <= m /\ m <= 57343 := by unfold Q6 at hG; simpa using hG
         have Hf := Lib.hid (show J4 s i = (65536 + 1024 * (n - 55296) + m - 56320, (p11 : Int)) by rw [HW.out]; exact if_pos hG);obtain ⟨hmi1, hmi2⟩ := hmi
        rotate_left
        all_goals
         go_enter Tryz.func245, Tryz.ntmps245
         go_wp2_with fail
         refine (YS s p1 _ hs (by omega)).mono ?_;rintro e w9 ⟨rfl, rfl⟩;rw [<- HN.out];go_wp2_with (first | (go_at_call 115; refine (Jo _ _ _ _).mono ?_; rintro e w' ⟨rfl, rfl⟩))
         refine (YS s p7 _ hs (by omega)).mono ?_;rintro e w9 ⟨rfl, rfl⟩;rw [<- HM.out];go_wp2_with (first | (go_at_call 115; refine (Jo _ _ _ _).mono ?_; rintro e w' ⟨rfl, rfl⟩))
         go_ret2
         exact ⟨by rw [Hf.out]; rfl, rfl⟩
       have f6 : ((b6 : Int) == 117) = false := JmH e6;have Hf := Lib.hid (show J4 s i = (0, -1) by rw [HV.out]; exact if_pos (.inr (.inr (by rw [HB6.out]; exact e6))));clear e6
      rotate_left
      focus
       have f5 : ((b5 : Int) == 92) = false := JmH e5;have Hf := Lib.hid (show J4 s i = (0, -1) by rw [HV.out]; exact if_pos (.inr (.inl (by rw [HB5.out]; exact e5))));clear e5
      rotate_left
      all_goals
       go_enter Tryz.func245, Tryz.ntmps245
       go_wp2_with fail
       refine (YS s p1 _ hs (by omega)).mono ?_;rintro e w9 ⟨rfl, rfl⟩;rw [<- HN.out];go_wp2_with (first | (go_at_call 115; refine (Jo _ _ _ _).mono ?_; rintro e w' ⟨rfl, rfl⟩))
       go_ret2
       exact ⟨by rw [Hf.out]; rfl, rfl⟩
     have Hf := Lib.hid (show J4 s i = (0, -1) by rw [HU.out, <- HP1.out, <- HN.out]; exact if_pos (.inr hB));clear n0
    rotate_left
    all_goals
     go_enter Tryz.func245, Tryz.ntmps245
     go_wp2_with fail
     refine (YS s p1 _ hs (by omega)).mono ?_;rintro e w9 ⟨rfl, rfl⟩;rw [<- HN.out];go_wp2_with (first | (go_at_call 115; refine (Jo _ _ _ _).mono ?_; rintro e w' ⟨rfl, rfl⟩))
     go_ret2
     exact ⟨by rw [Hf.out]; rfl, rfl⟩
   have Hf := Lib.hid (show J4 s i = (0, -1) by rw [HE0.out, if_neg (by omega), if_neg (by omega), if_neg (by omega), if_neg (by omega), if_neg (by omega), if_neg (by omega), if_neg e117]);have f117 : ((b : Int) == 117) = false := JmH e117;clear e117 e34 e92 e47 e98 e102 e110 e114 e116
  rotate_left
  all_goals
   go_enter Tryz.func245, Tryz.ntmps245
   go_wp2_with fail
   go_ret2
   exact ⟨by rw [Hf.out]; rfl, rfl⟩
 have Hf := Lib.hid (show J4 s i = (0, -1) by unfold J4; rw [if_neg (by omega)]);go_enter Tryz.func245, Tryz.ntmps245
 go_wp2_with fail
 go_ret2
 exact ⟨by rw [Hf.out]; rfl, rfl⟩
open Go.RowKit Go.Lib
def JaQ (x : CaseRow) : Bool :=
 decide (x.2.1 < 128) || (if x.delta 1 > 1114111 then decide (128 <= x.1) else (decide (128 <= (x.1 : Int) + x.delta 1) || (decide (x.1 = x.2.1) && (decide ((x.1 : Int) + x.delta 1 = 105) || decide ((x.1 : Int) + x.delta 1 = 107)))))
theorem Jjb : caseT.all JaQ = true := by decide
theorem JgD (i : Nat) (hi : i < caseA.size) : JaQ (caseA.getD i (0, 0, 0, 0, 0)) = true := by
 have hm : caseA.getD i (0, 0, 0, 0, 0) ∈ caseT := by
  unfold caseA at hi ⊢;simp only [List.size_toArray] at hi;simp [Array.getD, hi]
 exact List.all_eq_true.1 Jjb _ hm
theorem Jeb (x : CaseRow) (hx : JaQ x = true) (r : Int) (hr : 128 <= r) (hlo : (x.1 : Int) <= r) (hhi : r <= (x.2.1 : Int)) : 128 <= convertR 1 r x ∨ convertR 1 r x = 105 ∨ convertR 1 r x = 107 := by
 unfold JaQ at hx;unfold convertR;rw [Bool.or_eq_true] at hx;rcases hx with h | h
 ·have := of_decide_eq_true h
  omega
 split at h
 ·rename_i hd
  have := of_decide_eq_true h;rw [if_pos hd]
  left
  omega
 rename_i hd
 rw [if_neg hd];simp only [Bool.or_eq_true, Bool.and_eq_true, decide_eq_true_eq] at h;omega
theorem Jgr (r : Nat) (hr : 128 <= r) : 128 <= toLowerU r ∨ toLowerU r = 105 ∨ toLowerU r = 107 := by
 unfold toLowerU;rw [if_neg (by omega)];unfold toR lookupGo;cases hi : lookupIdx caseA (r : Int) (caseA.size + 1) 0 caseA.size with
 | none => left; show 128 <= (r : Int); omega
 | some i =>
  obtain ⟨hil, hlo, hhi⟩ := lookupIdx_some caseA (r : Int) _ _ _ i hi;exact Jeb _ (JgD i hil) r (by omega) hlo hhi
theorem JeP (b : UInt8) (t : List UInt8) (h : 128 <= b.toNat) : 128 <= (decodeL (b :: t)).1 /\ (decodeL (b :: t)).1 <= 1114111 := by
 rw [decodeL_N];simp only [List.getD_cons_zero];unfold decodeN;repeat' split
 all_goals (constructor <;> simp only <;> omega)
theorem Jb8 {x : Int} (h : 103 <= x) : Y6 x = -1 := by
 unfold Y6;rw [if_neg (by omega), if_neg (by omega)]
theorem Jju {x : Int} (h : 103 <= x) : UV x = -1 := by
 unfold UV;rw [if_neg (by omega), Jb8 h]
theorem Jkm (q : Int) (h : 128 <= q ∨ q = 105 ∨ q = 107) : ∃ x t, encodeRune q = x :: t /\ 103 <= x.toNat := by
 unfold encodeRune encodeRuneZ
 have key : ∀ z : Int, 103 <= z -> z < 256 -> 103 <= (z.toNat.toUInt8).toNat := fun z h1 h2 => by
  rw [show (z.toNat.toUInt8).toNat = z.toNat % 256 from UInt8.toNat_ofNat'];omega
 repeat' split
 all_goals exact ⟨_, _, rfl, key _ (by omega) (by omega)⟩
theorem JkV (b : UInt8) (h : b.toNat < 128) : Y6 ((Lib.lowerB b).toNat : Int) = UV (b.toNat : Int) := by
 have key : ∀ i : Fin 128, Y6 ((Lib.lowerB (UInt8.ofNat i.val)).toNat : Int) = UV (i.val : Int) := by decide
 have := key ⟨b.toNat, h⟩
 simpa using this
def JaI : List UInt8 -> Int -> Int
 | [], n => n
 | b :: t, n => if Y6 (b.toNat : Int) < 0 then -1 else JaI t (16 * n + Y6 (b.toNat : Int))
def Jg5 : List UInt8 -> Int -> Int
 | [], n => n
 | b :: t, n => if UV (b.toNat : Int) < 0 then -1 else Jg5 t (16 * n + UV (b.toNat : Int))
theorem Ja4 (b : UInt8) (t : List UInt8) (h : b.toNat < 128) : toLowerD (b :: t) = Lib.lowerB b :: toLowerD t := by
 unfold toLowerD;rw [mapD_step toLowerU (b :: t) (by simp), decodeL_ascii b t h];dsimp only
 have e : encodeRune (toLowerU (b.toNat : Int)) = [Lib.lowerB b] := by
  have := lower_byte ⟨b.toNat, h⟩
  simpa using this
 rw [if_pos (toLowerU_range b.toNat (by omega)).1, e, List.drop_succ_cons, List.drop_zero];rfl
theorem JbN (b : UInt8) (t : List UInt8) (h : 128 <= b.toNat) : ∃ x u, toLowerD (b :: t) = x :: u /\ 103 <= x.toNat := by
 unfold toLowerD;obtain ⟨h1, h2⟩ := JeP b t h;obtain ⟨x, u, e, hx⟩ := Jkm _ (Jgr _ h1);rw [mapD_step toLowerU (b :: t) (by simp), if_pos (toLowerU_range _ h2).1, e];exact ⟨x, _, rfl, hx⟩
theorem Jci : ∀ (l : List UInt8) (n : Int), JaI (toLowerD l) n = Jg5 l n
 | [], _ => rfl
 | b :: t, n => by
  by_cases h : b.toNat < 128
  ·rw [Ja4 b t h]
   unfold JaI Jg5;rw [JkV b h, Jci t]
  obtain ⟨x, u, e, hx⟩ := JbN b t (by omega);rw [e];unfold JaI Jg5;rw [Jb8 (by omega), Jju (by omega)];rfl
theorem Jdy : ∀ l : List UInt8, ∃ p, p <= l.length /\ (p = (toLowerD l).length ∨ ∃ x, (toLowerD l)[p]? = some x /\ Y6 (x.toNat : Int) < 0)
 | [] => ⟨0, Nat.le_refl _, .inl rfl⟩
 | b :: t => by
  by_cases h : b.toNat < 128
  ·obtain ⟨p, hp, hq⟩ := Jdy t
   rw [Ja4 b t h];exact ⟨p + 1, by simp; omega, by simpa using hq⟩
  obtain ⟨x, u, e, hx⟩ := JbN b t (by omega);rw [e];exact ⟨0, Nat.zero_le _, .inr ⟨x, rfl, by rw [Jb8 (by omega)]; decide⟩⟩
theorem Ja7 (s : ByteArray) : ∀ (k j : Nat) (n : Int), j + k <= s.size -> Ut s k j n = Jg5 ((s.data.toList.drop j).take k) n
 | 0, _, _, _ => by simp [Ut, Jg5]
 | k + 1, j, n, h => by
  have hj : j < s.data.toList.length := by rw [Array.length_toList]; exact Nat.lt_of_lt_of_le (by omega) h
  have hb : Jb s j = ((s.data.toList[j]).toNat : Int) := by
   unfold Jb
   have : s.get! j = s.data.toList[j] := by
    show s.data[j]! = _
    rw [getElem!_pos s.data j (by simpa using hj)];simp
   rw [this]
  rw [List.drop_eq_getElem_cons hj, List.take_succ_cons];unfold Ut Jg5;rw [hb, Ja7 s k (j + 1) _ (by omega)]
open Go.Shelf
def Ux : Go.Shelf.Ren := ⟨fun | 159 => 280 | 165 => 153 | 166 => 154 | 167 => 293 | 169 => 155 | 230 => 294 | 204 => 295 | 240 => 216 | 241 => 217 | 197 => 224 | 118 => 300 | 168 => 301 | 270 => 302 | 262 => 303 | 276 => 253 | 277 => 254 | 260 => 257 | 242 => 304 | 313 => 305 | 278 => 306 | 274 => 307 | 275 => 308 | n => n, fun | 9 => 9 | 4 => 4 | 3 => 3 | 5 => 5 | 72 => 139 | 0 => 0 | 76 => 142 | 75 => 141 | 107 => 238 | 70 => 137 | 20 => 20 | 37 => 28 | 127 => 175 | 21 => 21 | 105 => 180 | 164 => 198 | 162 => 252 | 203 => 250 | 119 => 219 | 46 => 179 | 139 => 222 | 138 => 221 | 51 => 202 | 160 => 253 | 208 => 259 | 206 => 257 | 80 => 144 | n => n, fun | 13 => 8 | 3 => 1 | 4 => 2 | n => n⟩
theorem JdK : Go.Proofs.Lays.n159 Tryz.prog Ux := {
 mixed := by kernel_rfl
 f118 := Tryz.func300.trans (congrArg some (by kernel_rfl))
 f159 := Tryz.func280.trans (congrArg some (by kernel_rfl))
 f165 := Tryz.func153.trans (congrArg some (by kernel_rfl))
 f166 := Tryz.func154.trans (congrArg some (by kernel_rfl))
 f167 := Tryz.func293.trans (congrArg some (by kernel_rfl))
 f168 := Tryz.func301.trans (congrArg some (by kernel_rfl))
 f169 := Tryz.func155.trans (congrArg some (by kernel_rfl))
 f197 := Tryz.func224.trans (congrArg some (by kernel_rfl))
 f204 := Tryz.func295.trans (congrArg some (by kernel_rfl))
 f230 := Tryz.func294.trans (congrArg some (by kernel_rfl))
 f240 := Tryz.func216.trans (congrArg some (by kernel_rfl))
 f241 := Tryz.func217.trans (congrArg some (by kernel_rfl))
 f242 := Tryz.func304.trans (congrArg some (by kernel_rfl))
 f260 := Tryz.func257.trans (congrArg some (by kernel_rfl))
 f262 := Tryz.func303.trans (congrArg some (by kernel_rfl))
 f270 := Tryz.func302.trans (congrArg some (by kernel_rfl))
 f274 := Tryz.func307.trans (congrArg some (by kernel_rfl))
 f275 := Tryz.func308.trans (congrArg some (by kernel_rfl))
 f276 := Tryz.func253.trans (congrArg some (by kernel_rfl))
 f277 := Tryz.func254.trans (congrArg some (by kernel_rfl))
 f278 := Tryz.func306.trans (congrArg some (by kernel_rfl))
 f313 := Tryz.func305.trans (congrArg some (by kernel_rfl))
 t0 := Tryz.underlying0
 a0 := Tryz.isAgg0
 z0 := Tryz.sizeOf0
 v0 := Tryz.zeroValue0
 t3 := Tryz.underlying3
 a3 := Tryz.isAgg3
 z3 := Tryz.sizeOf3
 v3 := Tryz.zeroValue3
 t4 := Tryz.underlying4
 a4 := Tryz.isAgg4
 z4 := Tryz.sizeOf4
 v4 := Tryz.zeroValue4
 t5 := Tryz.underlying5
 a5 := Tryz.isAgg5
 z5 := Tryz.sizeOf5
 v5 := Tryz.zeroValue5
 t9 := Tryz.underlying9
 a9 := Tryz.isAgg9
 z9 := Tryz.sizeOf9
 v9 := Tryz.zeroValue9
 t20 := Tryz.underlying20
 a20 := Tryz.isAgg20
 z20 := Tryz.sizeOf20
 v20 := Tryz.zeroValue20
 t21 := Tryz.underlying21
 a21 := Tryz.isAgg21
 z21 := Tryz.sizeOf21
 v21 := Tryz.zeroValue21
 t37 := Tryz.underlying28
 a37 := Tryz.isAgg28
 z37 := Tryz.sizeOf28
 v37 := Tryz.zeroValue28
 t46 := Tryz.underlying179
 a46 := Tryz.isAgg179
 z46 := Tryz.sizeOf179
 v46 := Tryz.zeroValue179
 t51 := Tryz.underlying202
 a51 := Tryz.isAgg202
 z51 := Tryz.sizeOf202
 v51 := Tryz.zeroValue202
 t70 := Tryz.underlying137
 a70 := Tryz.isAgg137
 z70 := Tryz.sizeOf137
 v70 := Tryz.zeroValue137
 t72 := Tryz.underlying139
 a72 := Tryz.isAgg139
 z72 := Tryz.sizeOf139
 v72 := Tryz.zeroValue139
 t75 := Tryz.underlying141
 a75 := Tryz.isAgg141
 z75 := Tryz.sizeOf141
 v75 := Tryz.zeroValue141
 t76 := Tryz.underlying142
 a76 := Tryz.isAgg142
 z76 := Tryz.sizeOf142
 v76 := Tryz.zeroValue142
 t105 := Tryz.underlying180
 a105 := Tryz.isAgg180
 z105 := Tryz.sizeOf180
 v105 := Tryz.zeroValue180
 t107 := Tryz.underlying238
 a107 := Tryz.isAgg238
 z107 := Tryz.sizeOf238
 v107 := Tryz.zeroValue238
 t119 := Tryz.underlying219
 a119 := Tryz.isAgg219
 z119 := Tryz.sizeOf219
 t127 := Tryz.underlying175
 a127 := Tryz.isAgg175
 z127 := Tryz.sizeOf175
 v127 := Tryz.zeroValue175
 t138 := Tryz.underlying221
 a138 := Tryz.isAgg221
 z138 := Tryz.sizeOf221
 v138 := Tryz.zeroValue221
 t139 := Tryz.underlying222
 a139 := Tryz.isAgg222
 z139 := Tryz.sizeOf222
 v139 := Tryz.zeroValue222
 t160 := Tryz.underlying253
 a160 := Tryz.isAgg253
 z160 := Tryz.sizeOf253
 v160 := Tryz.zeroValue253
 t162 := Tryz.underlying252
 a162 := Tryz.isAgg252
 z162 := Tryz.sizeOf252
 v162 := Tryz.zeroValue252
 t164 := Tryz.underlying198
 a164 := Tryz.isAgg198
 z164 := Tryz.sizeOf198
 v164 := Tryz.zeroValue198
 t203 := Tryz.underlying250
 a203 := Tryz.isAgg250
 z203 := Tryz.sizeOf250
 v203 := Tryz.zeroValue250
 t206 := Tryz.underlying257
 a206 := Tryz.isAgg257
 z206 := Tryz.sizeOf257
 v206 := Tryz.zeroValue257
 t208 := Tryz.underlying259
 a208 := Tryz.isAgg259
 z208 := Tryz.sizeOf259
 v208 := Tryz.zeroValue259
 g3 := by kernel_rfl
 g4 := by kernel_rfl
 g13 := by kernel_rfl }
def CTab (w : World) : Prop := Lib.CaseVar (Ux.g 13) caseA w
theorem CTab.below {w w' : World} (h : CTab w) (hb : Below w.heap.size w w') : CTab w' := CaseVar_below h hb
theorem Jmq : Builder.Extra Tryz.prog Ux := {
 sizeBuilder := by kernel_rfl
 liesBuilder := by kernel_rfl
 t5 := Tryz.underlying5
 a5 := Tryz.isAgg5
 z5 := Tryz.sizeOf5
 v5 := Tryz.zeroValue5
 infoByte := by kernel_rfl
 cellsByte := by kernel_rfl
 sizeByte := by kernel_rfl
 neB5 := by decide }
theorem JiK (s : ByteArray) (w : World) (hs : s.size < 35184372088832) (hV : CTab w) (hT : Tabs w) :
  Calls Tryz.prog 280 #[.string s] w fun e w' => e = .returned (.string ⟨(Lib.toLowerD s.data.toList).toArray⟩) /\ Below w.heap.size w w' :=
 Any.strings_ToLower_any JdK Jmq s w hs hV hT
theorem Jlk (x : UInt8) : Lib.indexByte [48, 49, 50, 51, 52, 53, 54, 55, 56, 57, 97, 98, 99, 100, 101, 102] x = Y6 (x.toNat : Int) := by
 have key : ∀ i : Fin 256, Lib.indexByte [48, 49, 50, 51, 52, 53, 54, 55, 56, 57, 97, 98, 99, 100, 101, 102] (UInt8.ofNat i.val) = Y6 (i.val : Int) := by decide
 have := key ⟨x.toNat, x.toNat_lt⟩
 simpa using this
theorem Jb2 (x : UInt8) (w : World) : Calls Tryz.prog 130 #[.string { data := #[48, 49, 50, 51, 52, 53, 54, 55, 56, 57, 97, 98, 99, 100, 101, 102] }, .int .u8 x.toNat] w fun e w' => e = .returned (.int .i64 (Y6 (x.toNat : Int))) /\ w = w' :=
 (QB _ x w).mono (fun _ _ h => ⟨h.1.trans (congrArg (fun z => Ending.returned (Value.int .i64 z)) (Jlk x)), h.2⟩)
theorem W8 (s : ByteArray) (i k : Nat) : (s.extract i (i + k)).data.toList = (s.data.toList.drop i).take k := by
 rw [ByteArray.data_extract, Array.toList_extract, List.extract_eq_take_drop];congr 1
 omega
theorem Jiz (s : ByteArray) (i : Nat) (h : i + 4 <= s.size) : Jz s i = JaI (toLowerD (s.extract i (i + 4)).data.toList) 0 := by
 unfold Jz;rw [if_pos h, Ja7 s 4 i 0 h, Jci, W8]
theorem Jh7 (l : List UInt8) (j : Nat) (n : Int) (h : j < l.length) : JaI (l.drop j) n = if Y6 ((l.getD j 0).toNat : Int) < 0 then -1 else JaI (l.drop (j + 1)) (16 * n + Y6 ((l.getD j 0).toNat : Int)) := by
 rw [List.drop_eq_getElem_cons h];have : l.getD j 0 = l[j] := by simp [List.getD, h]
 rw [this];rfl
theorem Jjp (l : List UInt8) (n : Int) : JaI (l.drop l.length) n = n := by rw [List.drop_length]; rfl
def JhW (s : ByteArray) (i : Nat) : Int := if Jz s i < 0 then 0 else Jz s i
def Jgu (s : ByteArray) (i : Nat) : Bool := decide (0 <= Jz s i)
theorem JaO {s : ByteArray} {i : Nat} (h : Jz s i < 0) : JhW s i = 0 /\ Jgu s i = false :=
 ⟨if_pos h, JmF (by omega)⟩
theorem JbS {s : ByteArray} {i : Nat} {n : Int} (h : Jz s i = n) (hn : 0 <= n) : JhW s i = n /\ Jgu s i = true :=
 ⟨by unfold JhW; rw [if_neg (by omega), h], JmG (by omega)⟩
theorem JX (s : ByteArray) (i : Nat) (w : World) (hs : s.size <= 1048576) (hi : i <= 2097152) (hV : CTab w) (hT : Tabs w) :
  Calls Tryz.prog 262 #[.string s, .int .i64 i] w fun e w' => e = .returned (.tuple #[.int .i64 (JhW s i), .bool (Jgu s i)]) /\ Below w.heap.size w w' := by
 have kc := fun (w : World) (s : ByteArray) => Lib.run_convert_string_bytes (P := Tryz.prog) w 9 28 5 s (u := .string) Tryz.underlying9 Tryz.underlying28 Tryz.underlying5
 obtain ⟨p4, hp4⟩ : ∃ p, p = i + 4 := ⟨_, rfl⟩
 have hpe : (i : Int) + 4 = p4 := by omega
 have HP := hid hp4;have HVT := hid (And.intro hV hT);clear hV hT;by_cases hl : s.size < p4
 ·have Hf := hid (JaO (show Jz s i < 0 by unfold Jz; rw [if_neg (by omega)]; decide))
  have hl2 : (s.size : Int) - 4 < i := by omega
  clear hp4 hl;go_enter Tryz.func262, Tryz.ntmps262
  go_wp2_with fail
  go_ret2
  exact ⟨by rw [Hf.out.1, Hf.out.2]; rfl, Below.refl _ _⟩
 have Hf := hid (show Jz s i = JaI (toLowerD (s.extract i p4).data.toList) 0 by rw [hp4]; exact Jiz s i (by omega));have hl2 : decide ((s.size : Int) - 4 < i) = false := JmF (by omega);have hl4 : (p4 : Int) <= s.size := by omega
 have hl5 : p4 <= s.size := by omega
 have hl6 : i <= p4 := by omega
 have hl7 : (i : Int) <= p4 := by omega
 have Hz := hid (show (s.extract i p4).data.toList.length = 4 by rw [Array.length_toList]; show (s.extract i p4).size = 4; rw [ByteArray.size_extract]; omega);clear hp4 hl;go_enter Tryz.func262, Tryz.ntmps262
 go_wp2_with fail
 refine (JiK _ _ (by simp; omega) HVT.out.1 HVT.out.2).mono ?_;rintro e w1 ⟨rfl, hb⟩;have HB := hid hb;clear hb;obtain ⟨L, hL⟩ : ∃ L : ByteArray, L = ⟨(toLowerD (s.extract i p4).data.toList).toArray⟩ := ⟨_, rfl⟩
 rw [<- hL];have hLl : L.data.toList = toLowerD (s.extract i p4).data.toList := by rw [hL]
 have hLs : L.size = L.data.toList.length := by rw [Array.length_toList]; rfl
 obtain ⟨p, hp, hq⟩ := Jdy (s.extract i p4).data.toList;rw [Hz.out] at hp;rw [<- hLl] at hq;rw [<- hLs] at hq;have HQ := hid hq;have HLs := hid hLs;have Hg := hid (show Jz s i = JaI L.data.toList 0 by rw [Hf.out, hLl]);clear hL hLl hLs hq;go_wp2_with fail
 obtain ⟨W, hW⟩ : ∃ W, W = bytesWorld w1 5 L := ⟨_, rfl⟩
 rw [<- hW];have hB : ∀ t, t < L.size -> W.cell? ⟨w1.heap.size, t, none⟩ = some (.int .u8 (L.data.toList.getD t 0).toNat) := fun t ht => by rw [hW]; exact Lib.bytesWorld_cell w1 5 L t ht
 have HW := hid (show Below w.heap.size w W by
  rw [hW]
  exact HB.out.trans ⟨rfl, rfl, rfl, by rw [Lib.bytesWorld_size]; omega, fun j hj => Lib.bytesWorld_at_old w1 5 L j (Nat.lt_of_lt_of_le hj HB.out.size)⟩)
 have HBt := hid hB;obtain ⟨g, hg⟩ : ∃ g, g = w1.heap.size := ⟨_, rfl⟩
 obtain ⟨cp, hcp⟩ : ∃ cp, cp = grownCap w1 L.size 0 5 := ⟨_, rfl⟩
 rw [<- hg, <- hcp];rw [<- hg] at HBt hB;clear hW hB hg hcp HB kc;go_loopw [6, 23] (fun s6 s23 wr => ∃ (j : Nat) (n : Int), j <= p /\ j <= L.size /\ s23 = .int .i64 j /\ s6 = .int .i64 n /\ 0 <= n /\ ((j = 0 -> n < 1) /\ (j = 1 -> n < 16) /\ (j = 2 -> n < 256) /\ (j = 3 -> n < 4096) /\ n < 65536) /\ Jz s i = JaI (L.data.toList.drop j) n /\ wr = W) (fun _ s23 _ => L.size - (Lib.intOf s23).toNat)
 case atStart => exact ⟨0, 0, Nat.zero_le _, Nat.zero_le _, rfl, rfl, by omega, ⟨by omega, by omega, by omega, by omega, by omega⟩, Hg.out, rfl⟩
 case round =>
  obtain ⟨j, n, hjp, hjl, rfl, rfl, hn0, hnb, hrun, rfl⟩ := hrel;have HRun := hid hrun;have HNb := hid hnb;have hn6 : n < 65536 := hnb.2.2.2.2;clear hrun hnb;by_cases hlt : (j : Int) < L.size
  ·have hjL : j < L.size := by omega
   have hc := HBt.out j hjL;obtain ⟨x, hx⟩ : ∃ x, x = L.data.toList.getD j 0 := ⟨_, rfl⟩
   rw [<- hx] at hc;obtain ⟨d, hd⟩ : ∃ d, d = Y6 (x.toNat : Int) := ⟨_, rfl⟩
   have hdr := Jbn (x.toNat : Int);rw [<- hd] at hdr;obtain ⟨hd1, hd2⟩ := hdr
   have HStep := hid (show Jz s i = if d < 0 then -1 else JaI (L.data.toList.drop (j + 1)) (16 * n + d) by
    rw [HRun.out, Jh7 _ j n (by rw [<- HLs.out]; exact hjL), <- hx, <- hd])
   have HX := hid hx;have HD := hid hd;clear hx hd;by_cases hneg : d < 0
   ·have Hf2 := hid (JaO (show Jz s i < 0 by rw [HStep.out, if_pos hneg]; decide))
    go_wp2_with fail
    refine (Jb2 x _).mono ?_;rintro e w9 ⟨rfl, rfl⟩;rw [<- HD.out];go_wp2_with fail
    go_ret2
    exact ⟨by rw [Hf2.out.1, Hf2.out.2]; rfl, HW.out⟩
   have hdd : decide (d < 0) = false := JmF hneg;have hdp : 0 <= d := by omega
   have hjp2 : j < p := by
    rcases HQ.out with h | ⟨y, h1, h2⟩
    ·omega
    rcases Nat.lt_or_ge j p with h | h
    ·exact h
    exfalso
    obtain rfl : j = p := by omega
    have : L.data.toList.getD j 0 = y := by rw [List.getD, h1]; rfl
    rw [<- this, <- HX.out, <- HD.out] at h2;exact hneg h2
   have hn4 : n < 4096 := by have := HNb.out; omega
   clear hneg hn6;go_wp2_with fail
   refine (Jb2 x _).mono ?_;rintro e w9 ⟨rfl, rfl⟩;rw [<- HD.out];go_wp2_with fail
   go_roundw
   case rel => exact ⟨j + 1, 16 * n + d, by omega, by omega, by go_num, rfl, by omega, by have := HNb.out; omega, by rw [HStep.out, if_neg (by omega)], by first | rfl | exact True.intro⟩
   case measure => simp [Lib.intOf]; omega
  have hjL : j = L.size := by omega
  have Hf2 := hid (JbS (show Jz s i = n by rw [HRun.out, hjL, HLs.out]; exact Jjp _ n) hn0);go_wp2_with fail
  go_ret2
  exact ⟨by rw [Hf2.out.1, Hf2.out.2]; rfl, HW.out⟩
def Wt (b : Nat) : Int := if b = 98 then 0 else if b = 102 then 1 else if b = 110 then 2 else if b = 114 then 3 else if b = 116 then 4 else -1
theorem Jlq : ∀ i : Fin 256, Lib.indexByte [98, 102, 110, 114, 116] (UInt8.ofNat i.val) = Wt i.val := by decide
theorem Qz (b : Nat) (hb : b < 256) (w : World) : Calls Tryz.prog 130 #[.string { data := #[98, 102, 110, 114, 116] }, .int .u8 b] w fun e w' => e = .returned (.int .i64 (Wt b)) /\ w = w' := by
 have h := QB { data := #[98, 102, 110, 114, 116] } (UInt8.ofNat b) w;have e1 : (UInt8.ofNat b).toNat = b := by rw [UInt8.toNat_ofNat']; exact Nat.mod_eq_of_lt hb
 rw [e1] at h;exact h.mono (fun _ _ h => ⟨h.1.trans (congrArg (fun z => Ending.returned (Value.int .i64 z)) (Jlq ⟨b, hb⟩)), h.2⟩)
theorem W3 {s : ByteArray} {i : Nat} (h : 0 <= Jz s i) : i + 4 <= s.size := by
 unfold Jz at h;split at h
 ·assumption
 omega
theorem Zk (s : ByteArray) (i : Nat) (w : World) (hs : s.size <= 1048576) (hi : i <= 1048577) (hV : CTab w) (hT : Tabs w) :
  Calls Tryz.prog 237 #[.string s, .int .i64 i] w fun e w' => e = .returned (.tuple #[.int .i64 (J4 s i).1, .int .i64 (J4 s i).2]) /\ Below w.heap.size w w' := by
 have HVT := hid (And.intro hV hT);clear hV hT;by_cases hlt : (i : Int) < s.size
 ·have h0 : (0 : Int) <= i := by omega
  have h1 : decide ((s.size : Int) <= i) = false := JmF (by omega);have h2 : decide (s.size <= i) = false := JmF (by omega);have hii : i < s.size := by omega
  obtain ⟨b, hb⟩ : ∃ b : Nat, b = (s.get! i).toNat := ⟨_, rfl⟩
  have hx : (s[i]'hii).toNat = b := by rw [hb]; exact Q2 s i hii
  have hb2 : (b : Int) < 256 := by have := (s.get! i).toNat_lt; omega
  have hby : Jb s i = b := by unfold Jb; rw [hb]
  clear hb;have HE := hid (show J4 s i = _ from if_pos hii);rw [hby] at HE;have Hii := hid hii;have HE0 := hid HE.out;clear HE;by_cases e34 : (b : Int) = 34
  ·have Hf := hid (show J4 s i = ((b : Int), (i : Int) + 1) by rw [HE0.out, if_pos (by omega)])
   obtain rfl : b = 34 := by omega
   clear e34;go_enter Tryz.func237, Tryz.ntmps237
   go_wp2_with fail
   go_ret2
   exact ⟨by rw [Hf.out]; rfl, Below.refl _ _⟩
  have f34 : ((b : Int) == 34) = false := JmH e34;by_cases e92 : (b : Int) = 92
  ·have Hf := hid (show J4 s i = ((b : Int), (i : Int) + 1) by rw [HE0.out, if_pos (by omega)])
   obtain rfl : b = 92 := by omega
   clear e92;go_enter Tryz.func237, Tryz.ntmps237
   go_wp2_with fail
   go_ret2
   exact ⟨by rw [Hf.out]; rfl, Below.refl _ _⟩
  have f92 : ((b : Int) == 92) = false := JmH e92;by_cases e47 : (b : Int) = 47
  ·have Hf := hid (show J4 s i = ((b : Int), (i : Int) + 1) by rw [HE0.out, if_pos (by omega)])
   obtain rfl : b = 47 := by omega
   clear e47;go_enter Tryz.func237, Tryz.ntmps237
   go_wp2_with fail
   go_ret2
   exact ⟨by rw [Hf.out]; rfl, Below.refl _ _⟩
  have f47 : ((b : Int) == 47) = false := JmH e47;by_cases e98 : (b : Int) = 98
  ·have Hf := hid (show J4 s i = (8, (i : Int) + 1) by rw [HE0.out, if_neg (by omega), if_pos e98])
   obtain rfl : b = 98 := by omega
   clear e98;have hk : (({ data := #[8, 12, 10, 13, 9] } : ByteArray)[0]'(by decide)).toNat = 8 := rfl;go_enter Tryz.func237, Tryz.ntmps237
   go_wp2_with fail
   refine (Qz 98 (by omega) _).mono ?_;rintro e w9 ⟨rfl, rfl⟩;rw [show Wt 98 = 0 from rfl];go_wp2_with fail
   go_ret2
   exact ⟨by rw [Hf.out]; rfl, Below.refl _ _⟩
  have f98 : ((b : Int) == 98) = false := JmH e98;by_cases e102 : (b : Int) = 102
  ·have Hf := hid (show J4 s i = (12, (i : Int) + 1) by rw [HE0.out, if_neg (by omega), if_neg (by omega), if_pos e102])
   obtain rfl : b = 102 := by omega
   clear e102;have hk : (({ data := #[8, 12, 10, 13, 9] } : ByteArray)[1]'(by decide)).toNat = 12 := rfl;go_enter Tryz.func237, Tryz.ntmps237
   go_wp2_with fail
   refine (Qz 102 (by omega) _).mono ?_;rintro e w9 ⟨rfl, rfl⟩;rw [show Wt 102 = 1 from rfl];go_wp2_with fail
   go_ret2
   exact ⟨by rw [Hf.out]; rfl, Below.refl _ _⟩
  have f102 : ((b : Int) == 102) = false := JmH e102;by_cases e110 : (b : Int) = 110
  ·have Hf := hid (show J4 s i = (10, (i : Int) + 1) by rw [HE0.out, if_neg (by omega), if_neg (by omega), if_neg (by omega), if_pos e110])
   obtain rfl : b = 110 := by omega
   clear e110;have hk : (({ data := #[8, 12, 10, 13, 9] } : ByteArray)[2]'(by decide)).toNat = 10 := rfl;go_enter Tryz.func237, Tryz.ntmps237
   go_wp2_with fail
   refine (Qz 110 (by omega) _).mono ?_;rintro e w9 ⟨rfl, rfl⟩;rw [show Wt 110 = 2 from rfl];go_wp2_with fail
   go_ret2
   exact ⟨by rw [Hf.out]; rfl, Below.refl _ _⟩
  have f110 : ((b : Int) == 110) = false := JmH e110;by_cases e114 : (b : Int) = 114
  ·have Hf := hid (show J4 s i = (13, (i : Int) + 1) by rw [HE0.out, if_neg (by omega), if_neg (by omega), if_neg (by omega), if_neg (by omega), if_pos e114])
   obtain rfl : b = 114 := by omega
   clear e114;have hk : (({ data := #[8, 12, 10, 13, 9] } : ByteArray)[3]'(by decide)).toNat = 13 := rfl;go_enter Tryz.func237, Tryz.ntmps237
   go_wp2_with fail
   refine (Qz 114 (by omega) _).mono ?_;rintro e w9 ⟨rfl, rfl⟩;rw [show Wt 114 = 3 from rfl];go_wp2_with fail
   go_ret2
   exact ⟨by rw [Hf.out]; rfl, Below.refl _ _⟩
  have f114 : ((b : Int) == 114) = false := JmH e114;by_cases e116 : (b : Int) = 116
  ·have Hf := hid (show J4 s i = (9, (i : Int) + 1) by rw [HE0.out, if_neg (by omega), if_neg (by omega), if_neg (by omega), if_neg (by omega), if_neg (by omega), if_pos e116])
   obtain rfl : b = 116 := by omega
   clear e116;have hk : (({ data := #[8, 12, 10, 13, 9] } : ByteArray)[4]'(by decide)).toNat = 9 := rfl;go_enter Tryz.func237, Tryz.ntmps237
   go_wp2_with fail
   refine (Qz 116 (by omega) _).mono ?_;rintro e w9 ⟨rfl, rfl⟩;rw [show Wt 116 = 4 from rfl];go_wp2_with fail
   go_ret2
   exact ⟨by rw [Hf.out]; rfl, Below.refl _ _⟩
  have f116 : ((b : Int) == 116) = false := JmH e116;obtain ⟨p1, hp1⟩ : ∃ p, p = i + 1 := ⟨_, rfl⟩
  have q1 : (i : Int) + 1 = p1 := by omega
  have HP1 := hid hp1;obtain ⟨p5, hp5⟩ : ∃ p, p = i + 5 := ⟨_, rfl⟩
  have q5 : (i : Int) + 5 = p5 := by omega
  have HP5 := hid hp5;obtain ⟨p6, hp6⟩ : ∃ p, p = i + 6 := ⟨_, rfl⟩
  have q6 : (i : Int) + 6 = p6 := by omega
  have HP6 := hid hp6;obtain ⟨p7, hp7⟩ : ∃ p, p = i + 7 := ⟨_, rfl⟩
  have q7 : (i : Int) + 7 = p7 := by omega
  have HP7 := hid hp7;obtain ⟨p11, hp11⟩ : ∃ p, p = i + 11 := ⟨_, rfl⟩
  have q11 : (i : Int) + 11 = p11 := by omega
  have HP11 := hid hp11;have hpb : (p11 : Int) <= 1048588 := by omega
  have hpc : (p7 : Int) <= 1048588 := by omega
  have hpd : (p1 : Int) <= 1048588 := by omega
  clear hp1 hp5 hp6 hp7 hp11;have HIX := hid (show Wt b = -1 by unfold Wt; rw [if_neg (by omega), if_neg (by omega), if_neg (by omega), if_neg (by omega), if_neg (by omega)]);by_cases e117 : (b : Int) = 117
  ·have HU := hid (show J4 s i = _ by rw [HE0.out, if_neg (by omega), if_neg (by omega), if_neg (by omega), if_neg (by omega), if_neg (by omega), if_neg (by omega), if_pos e117])
   obtain rfl : b = 117 := by omega
   clear e117 HIX e34 e92 e47 e98 e102 e110 e114 e116 f34 f92 f47 f98 f102 f110 f114 f116;obtain ⟨n, hn⟩ : ∃ n, n = Jz s p1 := ⟨_, rfl⟩
   have hnr := Q7 s p1;rw [<- hn] at hnr;obtain ⟨hn1, hn2⟩ := hnr;have HN := hid hn;clear hn;by_cases n0 : n < 0
   focus
    have Hf := hid (show J4 s i = (0, -1) by rw [HU.out, <- HP1.out, <- HN.out]; exact if_pos (.inl n0));have H4 := hid (JaO (show Jz s p1 < 0 by rw [<- HN.out]; exact n0));go_enter Tryz.func237, Tryz.ntmps237
    go_wp2_with fail
    refine (Qz 117 (by omega) _).mono ?_;rintro e w9 ⟨rfl, rfl⟩;rw [show Wt 117 = -1 from rfl];go_wp2_with fail
    refine (JX s p1 _ hs (by omega) HVT.out.1 HVT.out.2).mono ?_;rintro e w1 ⟨rfl, hb1⟩;have HB1 := hid hb1;clear hb1;rw [H4.out.1, H4.out.2];go_wp2_with fail
   rotate_left
   focus
    have d0 : decide (n < 0) = false := JmF n0;have hn0 : 0 <= n := by omega
    have H4 := hid (JbS HN.out.symm hn0);rcases hB : Q6 n 56320 57343 with _ | _
    ·rcases hC : Q6 n 55296 56319 with _ | _
     ·have Hf := hid (show J4 s i = (n, (p5 : Int)) by rw [HU.out, <- HP1.out, <- HN.out]; rw [<- q5]; exact (if_neg (by rintro (h | h); exact n0 h; rw [hB] at h; exact absurd h (by decide))).trans (if_pos hC))
      clear n0;go_enter Tryz.func237, Tryz.ntmps237
      go_wp2_with fail
      refine (Qz 117 (by omega) _).mono ?_;rintro e w9 ⟨rfl, rfl⟩;rw [show Wt 117 = -1 from rfl];go_wp2_with fail
      refine (JX s p1 _ hs (by omega) HVT.out.1 HVT.out.2).mono ?_;rintro e w1 ⟨rfl, hb1⟩;have HB1 := hid hb1;clear hb1;rw [H4.out.1, H4.out.2];go_wp2_with (first | (go_at_call 63; refine (JW _ _ _ _).mono ?_; rintro e w' ⟨rfl, rfl⟩))
      go_ret2
      exact ⟨by rw [Hf.out]; rfl, HB1.out⟩
     have HV := hid (show J4 s i = (if s.size < p7 ∨ Jb s p5 ≠ 92 ∨ Jb s p6 ≠ 117 then (0, -1) else if Q6 (Jz s p7) 56320 57343 = true then (65536 + 1024 * (n - 55296) + Jz s p7 - 56320, (p11 : Int)) else (0, -1)) by rw [HU.out, <- HP1.out, <- HN.out]; rw [<- HP5.out, <- HP6.out, <- HP7.out, q11]; exact (if_neg (by rintro (h | h); exact n0 h; rw [hB] at h; exact absurd h (by decide))).trans (if_neg (by rw [hC]; decide)))
     clear n0;have hnC : 55296 <= n /\ n <= 56319 := by unfold Q6 at hC; simpa using hC
     obtain ⟨hnC1, hnC2⟩ := hnC;obtain ⟨m, hm⟩ : ∃ m, m = Jz s p7 := ⟨_, rfl⟩
     have hmr := Q7 s p7;rw [<- hm] at hmr;obtain ⟨hm1, hm2⟩ := hmr;have HM := hid hm;clear hm;by_cases m0 : m < 0
     ·have H7 := hid (JaO (show Jz s p7 < 0 by rw [<- HM.out]; exact m0))
      have Hf := hid (show J4 s i = (0, -1) by rw [HV.out, <- HM.out]; split; rfl; exact if_neg (by unfold Q6; rw [JmF (by omega)]; decide));go_enter Tryz.func237, Tryz.ntmps237
      go_wp2_with fail
      refine (Qz 117 (by omega) _).mono ?_;rintro e w9 ⟨rfl, rfl⟩;rw [show Wt 117 = -1 from rfl];go_wp2_with fail
      refine (JX s p1 _ hs (by omega) HVT.out.1 HVT.out.2).mono ?_;rintro e w1 ⟨rfl, hb1⟩;have HB1 := hid hb1;clear hb1;rw [H4.out.1, H4.out.2];go_wp2_with (first | (go_at_call 63; refine (JW _ _ _ _).mono ?_; rintro e w' ⟨rfl, rfl⟩))
      refine (JX s p7 _ hs (by omega) (HVT.out.1.below HB1.out) (HVT.out.2.below HB1.out)).mono ?_;rintro e w2 ⟨rfl, hb2⟩;have HB2 := hid (HB1.out.trans (hb2.mono HB1.out.size));clear hb2;rw [H7.out.1, H7.out.2];go_wp2_with fail
      go_ret2
      exact ⟨by rw [Hf.out]; rfl, HB2.out⟩
     have hm0 : 0 <= m := by omega
     have H7 := hid (JbS HM.out.symm hm0);have hfit := W3 (show 0 <= Jz s p7 by rw [<- HM.out]; exact hm0);have g5 : p5 < s.size := by have := HP7.out; have := HP5.out; omega
     have g6 : p6 < s.size := by have := HP7.out; have := HP6.out; omega
     have g7 : ¬ s.size < p7 := by omega
     have gi5 : (p5 : Int) < s.size := by omega
     have gi6 : (p6 : Int) < s.size := by omega
     obtain ⟨b5, hb5⟩ : ∃ b : Nat, b = (s.get! p5).toNat := ⟨_, rfl⟩
     have hx5 : (s[p5]'g5).toNat = b5 := by rw [hb5]; exact Q2 s p5 g5
     obtain ⟨b6, hb6⟩ : ∃ b : Nat, b = (s.get! p6).toNat := ⟨_, rfl⟩
     have hx6 : (s[p6]'g6).toNat = b6 := by rw [hb6]; exact Q2 s p6 g6
     have h5b : (b5 : Int) < 256 := by have := (s.get! p5).toNat_lt; omega
     have h6b : (b6 : Int) < 256 := by have := (s.get! p6).toNat_lt; omega
     have HB5 := hid (show Jb s p5 = b5 by unfold Jb; rw [hb5]);have HB6 := hid (show Jb s p6 = b6 by unfold Jb; rw [hb6]);have HD := hid g7;clear hb5 hb6 g7 hfit m0;by_cases e5 : (b5 : Int) = 92
     focus
      obtain rfl : b5 = 92 := by omega
      clear e5;by_cases e6 : (b6 : Int) = 117
      ·obtain rfl : b6 = 117 := by omega
       clear e6;have HW := hid (show J4 s i = (if Q6 m 56320 57343 = true then (65536 + 1024 * (n - 55296) + m - 56320, (p11 : Int)) else (0, -1)) by rw [HV.out, <- HM.out]; exact if_neg (by rintro (h | h | h); exact HD.out h; exact h HB5.out; exact h HB6.out));rcases hG : Q6 m 56320 57343 with _ | _
       focus
        have Hf := hid (show J4 s i = (0, -1) by rw [HW.out]; exact if_neg (by rw [hG]; decide))
       rotate_left
       focus
        have hmi : 56320 <= m /\ m <= 57343 := by unfold Q6 at hG; simpa using hG
        have Hf := hid (show J4 s i = (65536 + 1024 * (n - 55296) + (m - 56320), (p11 : Int)) by rw [HW.out, if_pos hG]; congr 1; omega);obtain ⟨hmi1, hmi2⟩ := hmi
       rotate_left
       all_goals
        go_enter Tryz.func237, Tryz.ntmps237
        go_wp2_with fail
        refine (Qz 117 (by omega) _).mono ?_;rintro e w9 ⟨rfl, rfl⟩;rw [show Wt 117 = -1 from rfl];go_wp2_with fail
        refine (JX s p1 _ hs (by omega) HVT.out.1 HVT.out.2).mono ?_;rintro e w1 ⟨rfl, hb1⟩;have HB1 := hid hb1;clear hb1;rw [H4.out.1, H4.out.2];go_wp2_with (first | (go_at_call 63; refine (JW _ _ _ _).mono ?_; rintro e w' ⟨rfl, rfl⟩))
        refine (JX s p7 _ hs (by omega) (HVT.out.1.below HB1.out) (HVT.out.2.below HB1.out)).mono ?_;rintro e w2 ⟨rfl, hb2⟩;have HB2 := hid (HB1.out.trans (hb2.mono HB1.out.size));clear hb2;rw [H7.out.1, H7.out.2];go_wp2_with (first | (go_at_call 63; refine (JW _ _ _ _).mono ?_; rintro e w' ⟨rfl, rfl⟩))
        go_ret2
        exact ⟨by rw [Hf.out]; rfl, HB2.out⟩
      have f6 : ((b6 : Int) == 117) = false := JmH e6;have n6 : ((b6 : Int) != 117) = true := bne_iff_ne.2 e6;have Hf := hid (show J4 s i = (0, -1) by rw [HV.out]; exact if_pos (.inr (.inr (by rw [HB6.out]; exact e6))));clear e6
     rotate_left
     focus
      have f5 : ((b5 : Int) == 92) = false := JmH e5;have n5 : ((b5 : Int) != 92) = true := bne_iff_ne.2 e5;have Hf := hid (show J4 s i = (0, -1) by rw [HV.out]; exact if_pos (.inr (.inl (by rw [HB5.out]; exact e5))));clear e5
     rotate_left
     all_goals
      go_enter Tryz.func237, Tryz.ntmps237
      go_wp2_with fail
      refine (Qz 117 (by omega) _).mono ?_;rintro e w9 ⟨rfl, rfl⟩;rw [show Wt 117 = -1 from rfl];go_wp2_with fail
      refine (JX s p1 _ hs (by omega) HVT.out.1 HVT.out.2).mono ?_;rintro e w1 ⟨rfl, hb1⟩;have HB1 := hid hb1;clear hb1;rw [H4.out.1, H4.out.2];go_wp2_with (first | (go_at_call 63; refine (JW _ _ _ _).mono ?_; rintro e w' ⟨rfl, rfl⟩))
      refine (JX s p7 _ hs (by omega) (HVT.out.1.below HB1.out) (HVT.out.2.below HB1.out)).mono ?_;rintro e w2 ⟨rfl, hb2⟩;have HB2 := hid (HB1.out.trans (hb2.mono HB1.out.size));clear hb2;rw [H7.out.1, H7.out.2];go_wp2_with fail
      go_ret2
      exact ⟨by rw [Hf.out]; rfl, HB2.out⟩
    have Hf := hid (show J4 s i = (0, -1) by rw [HU.out, <- HP1.out, <- HN.out]; exact if_pos (.inr hB));clear n0;go_enter Tryz.func237, Tryz.ntmps237
    go_wp2_with fail
    refine (Qz 117 (by omega) _).mono ?_;rintro e w9 ⟨rfl, rfl⟩;rw [show Wt 117 = -1 from rfl];go_wp2_with fail
    refine (JX s p1 _ hs (by omega) HVT.out.1 HVT.out.2).mono ?_;rintro e w1 ⟨rfl, hb1⟩;have HB1 := hid hb1;clear hb1;rw [H4.out.1, H4.out.2];go_wp2_with (first | (go_at_call 63; refine (JW _ _ _ _).mono ?_; rintro e w' ⟨rfl, rfl⟩))
   rotate_left
   all_goals
    go_ret2
    exact ⟨by rw [Hf.out]; rfl, HB1.out⟩
  have Hf := hid (show J4 s i = (0, -1) by rw [HE0.out, if_neg (by omega), if_neg (by omega), if_neg (by omega), if_neg (by omega), if_neg (by omega), if_neg (by omega), if_neg e117]);have f117 : ((b : Int) == 117) = false := JmH e117;have n117 : ((b : Int) != 117) = true := bne_iff_ne.2 e117;clear e117 e34 e92 e47 e98 e102 e110 e114 e116;go_enter Tryz.func237, Tryz.ntmps237
  go_wp2_with fail
  refine (Qz b (by omega) _).mono ?_;rintro e w9 ⟨rfl, rfl⟩;rw [show Wt b = -1 from HIX.out];go_wp2_with fail
  refine (JX s p1 _ hs (by omega) HVT.out.1 HVT.out.2).mono ?_;rintro e w1 ⟨rfl, hb1⟩;have HB1 := hid hb1;clear hb1;go_wp2_with fail
  go_ret2
  exact ⟨by rw [Hf.out]; rfl, HB1.out⟩
 have Hf := hid (show J4 s i = (0, -1) by unfold J4; rw [if_neg (by omega)]);go_enter Tryz.func237, Tryz.ntmps237
 go_wp2_with fail
 go_ret2
 exact ⟨by rw [Hf.out]; rfl, Below.refl _ _⟩
theorem Jae (s : ByteArray) (i : Nat) : ((J4 s i).2 < 0 ∨ ((i : Int) < (J4 s i).2 /\ (J4 s i).2 <= s.size)) /\ 0 <= (J4 s i).1 /\ (J4 s i).1 <= 1114111 := by
 have f1 := @W3 s (i + 1);have f7 := @W3 s (i + 7);have r1 := Q7 s (i + 1);have r7 := Q7 s (i + 7);have b0 := Jaz s i;obtain ⟨x, hx⟩ : ∃ x, x = J4 s i := ⟨_, rfl⟩
 rw [<- hx];unfold J4 at hx;by_cases c0 : i < s.size
 case neg => rw [if_neg c0] at hx; subst hx; simp only; omega
 rw [if_pos c0] at hx;by_cases c1 : Jb s i = 34 ∨ Jb s i = 92 ∨ Jb s i = 47
 case pos => rw [if_pos c1] at hx; subst hx; simp only; omega
 rw [if_neg c1] at hx;by_cases c2 : Jb s i = 98
 case pos => rw [if_pos c2] at hx; subst hx; simp only; omega
 rw [if_neg c2] at hx;by_cases c3 : Jb s i = 102
 case pos => rw [if_pos c3] at hx; subst hx; simp only; omega
 rw [if_neg c3] at hx;by_cases c4 : Jb s i = 110
 case pos => rw [if_pos c4] at hx; subst hx; simp only; omega
 rw [if_neg c4] at hx;by_cases c5 : Jb s i = 114
 case pos => rw [if_pos c5] at hx; subst hx; simp only; omega
 rw [if_neg c5] at hx;by_cases c6 : Jb s i = 116
 case pos => rw [if_pos c6] at hx; subst hx; simp only; omega
 rw [if_neg c6] at hx;by_cases c7 : Jb s i = 117
 case neg => rw [if_neg c7] at hx; subst hx; simp only; omega
 rw [if_pos c7] at hx;by_cases d1 : Jz s (i + 1) < 0 ∨ Q6 (Jz s (i + 1)) 56320 57343 = true
 case pos => rw [if_pos d1] at hx; subst hx; simp only; omega
 rw [if_neg d1] at hx;have d0 := (not_or.1 d1).1;have g1 := f1 (Int.not_lt.1 d0);by_cases d2 : Q6 (Jz s (i + 1)) 55296 56319 = false
 case pos => rw [if_pos d2] at hx; subst hx; simp only; omega
 rw [if_neg d2] at hx;have e2 : 55296 <= Jz s (i + 1) /\ Jz s (i + 1) <= 56319 := by unfold Q6 at d2; simpa using d2
 by_cases d3 : s.size < i + 7 ∨ Jb s (i + 5) ≠ 92 ∨ Jb s (i + 6) ≠ 117
 case pos => rw [if_pos d3] at hx; subst hx; simp only; omega
 rw [if_neg d3] at hx;by_cases d4 : Q6 (Jz s (i + 7)) 56320 57343 = true
 case neg => rw [if_neg d4] at hx; subst hx; simp only; omega
 rw [if_pos d4] at hx;have e4 : 56320 <= Jz s (i + 7) /\ Jz s (i + 7) <= 57343 := by unfold Q6 at d4; simpa using d4
 have g7 := f7 (by omega);subst hx;simp only;omega
theorem W2 (s : ByteArray) (i : Nat) : ((JI s i).2 < 0 ∨ ((i : Int) < (JI s i).2 /\ (JI s i).2 <= s.size)) /\ 0 <= (JI s i).1 /\ (JI s i).1 <= 1114111 := by
 unfold JI;split
 ·rename_i h
  have := JT s i h;split
  ·simp only; omega
  simp only; omega
 simp only; omega
def J8 (s : ByteArray) (j : Nat) : Int × Int :=
 if Jb s j = 92 then J4 s (j + 1) else if (JI s j).1 < 32 then (0, -1) else JI s j
theorem YW (s : ByteArray) (j : Nat) : ((J8 s j).2 < 0 ∨ ((j : Int) < (J8 s j).2 /\ (J8 s j).2 <= s.size)) /\ 0 <= (J8 s j).1 /\ (J8 s j).1 <= 1114111 := by
 have h1 := Jae s (j + 1);have h2 := W2 s j;unfold J8;split
 ·omega
 split
 ·simp only; omega
 exact h2
def Za (s : ByteArray) : Nat -> Nat -> List UInt8 -> ByteArray × Int
 | 0, _, _ => (⟨#[]⟩, -1)
 | k + 1, j, acc => if j < s.size then (if Jb s j = 34 then (⟨acc.toArray⟩, (j : Int) + 1) else if (J8 s j).2 < 0 then (⟨#[]⟩, -1) else Za s k (J8 s j).2.toNat (acc ++ (Jq (J8 s j).1).data.toList)) else (⟨#[]⟩, -1)
theorem Jcl (s : ByteArray) : ∀ (k l j : Nat) (acc : List UInt8), s.size - j <= k -> s.size - j <= l -> Za s k j acc = Za s l j acc
 | 0, 0, _, _, _, _ => rfl
 | 0, l + 1, j, acc, h, _ => by unfold Za; rw [if_neg (by omega)]
 | k + 1, 0, j, acc, _, h => by unfold Za; rw [if_neg (by omega)]
 | k + 1, l + 1, j, acc, h1, h2 => by
  unfold Za;split
  ·split
   ·rfl
   split
   ·rfl
   have := (YW s j).1;exact Jcl s k l _ _ (by omega) (by omega)
  rfl
def Vo (s : ByteArray) (j : Nat) (acc : List UInt8) : ByteArray × Int := Za s (s.size - j) j acc
theorem Wp {s : ByteArray} {j : Nat} {acc : List UInt8} (h : ¬ j < s.size) : Vo s j acc = (⟨#[]⟩, -1) := by
 unfold Vo;rw [show s.size - j = 0 by omega];rfl
theorem ZE {s : ByteArray} {j : Nat} {acc : List UInt8} (h : j < s.size) : Vo s j acc = if Jb s j = 34 then (⟨acc.toArray⟩, (j : Int) + 1) else if (J8 s j).2 < 0 then (⟨#[]⟩, -1) else Vo s (J8 s j).2.toNat (acc ++ (Jq (J8 s j).1).data.toList) := by
 unfold Vo;obtain ⟨k, hk⟩ : ∃ k, s.size - j = k + 1 := ⟨s.size - j - 1, by omega⟩
 rw [hk, Za, if_pos h];split
 ·rfl
 split
 ·rfl
 have := (YW s j).1;exact Jcl s _ _ _ _ (by omega) (by omega)
def Jr (s : ByteArray) (i : Nat) : ByteArray × Int := if i < s.size then (if Jb s i = 34 then Vo s (i + 1) [] else (⟨#[]⟩, -1)) else (⟨#[]⟩, -1)
theorem VT (n : Int) : (Jq n).size <= 4 := by
 rcases Int.lt_or_le n 0 with h | h
 ·have : Jq n = ⟨#[]⟩ := by
   unfold Jq Vr;rw [JmF (by omega)];rfl
  rw [this];decide
 obtain ⟨m, rfl⟩ : ∃ m : Nat, n = m := ⟨n.toNat, by omega⟩
 have h1 := congrArg List.length (Vm m);rw [List.length_map, Array.length_toList] at h1
 have h2 : (J5 m).length <= 4 := by
  unfold J5;repeat' split
  all_goals simp
 rw [show (Jq m).size = (Jq m).data.size from rfl];omega
theorem V7 {w : World} {base n c : Nat} {A : Option Addr} {M : List UInt8} (hn : n = M.length)
  (h : w.ownsRow base 5 1 (.slice A n c) n (Lib.strCells ⟨M.toArray⟩)) :
  (convert 28 9 (.slice A n c)).run Tryz.prog w = .ok (.string ⟨M.toArray⟩) w := by
 subst hn;rcases h.2 with ⟨h1, h2⟩ | ⟨g, cap, cur, h1, _⟩
 ·obtain rfl : M = [] := List.eq_nil_of_length_eq_zero h2
  cases h1
  exact run_convert_nil_bytes w 28 9 5 0 Tryz.underlying28 Tryz.underlying5 Tryz.underlying9
 have e1 : A = some ⟨g, 0, none⟩ := by cases h1; rfl
 subst e1
 exact run_convert_bytes_back w 28 9 5 ⟨g, 0, none⟩ c M Tryz.underlying28 Tryz.underlying5 Tryz.underlying9
  (fun j hj => h.cells rfl j _ (by simp [Lib.strCells, hj]))
theorem Qf (l : List UInt8) (t : ByteArray) : Lib.strCells ⟨l.toArray⟩ ++ Lib.strCells t = Lib.strCells ⟨(l ++ t.data.toList).toArray⟩ := by
 simp [Lib.strCells]
def UD : TreeD := ⟨1, false, 0, ⟨#[]⟩, [], []⟩
def Wx (b : Bool) : TreeD := ⟨2, b, 0, ⟨#[]⟩, [], []⟩
def Jid (n : Int) : TreeD := ⟨3, false, n, ⟨#[]⟩, [], []⟩
def VR (s : ByteArray) : TreeD := ⟨4, false, 0, s, [], []⟩
def JY (l : List TreeD) : TreeD := ⟨5, false, 0, ⟨#[]⟩, [], l⟩
def QD (ks : List ByteArray) (l : List TreeD) : TreeD := ⟨6, false, 0, ⟨#[]⟩, ks, l⟩
def Qy (ks : List ByteArray) (key : ByteArray) : Nat := (ks.takeWhile fun k => JU k key).length
def J3 {D : Type} (l : List D) (i : Nat) (x : D) : List D := l.take i ++ x :: l.drop i
def Qv (n : Int) : ByteArray := ⟨(Lib.itoa n).toArray⟩
theorem JaU : ∀ (k u : Nat), u < 10 ^ (k + 1) -> (Lib.decDigits u).length <= k + 1
 | 0, u, h => by
  rw [Lib.decDigits, dif_pos (by simpa using h)];simp
 | k + 1, u, h => by
  rw [Lib.decDigits];by_cases h10 : u < 10
  ·rw [dif_pos h10]; simp
  rw [dif_neg h10, List.length_append]
  have h2 : u / 10 < 10 ^ (k + 1) := by
   rw [Nat.div_lt_iff_lt_mul (by decide)];rw [Nat.pow_succ] at h;exact h
  have := JaU k (u / 10) h2;simp;omega
theorem ZL (n : Int) (hn : -9223372036854775808 <= n /\ n <= 9223372036854775807) : (Qv n).size <= 20 := by
 show (Lib.itoa n).toArray.size <= 20
 rw [List.size_toArray];unfold Lib.itoa;split
 ·have := JaU 18 n.natAbs (by omega)
  rw [List.length_cons];omega
 have := JaU 18 n.toNat (by omega);omega
theorem Jiw (a b c : ByteArray) : a ++ b ++ c = a ++ (b ++ c) := ByteArray.append_assoc
theorem Jhu (u : Nat) (hu : 0 < u) (out : ByteArray) : mkL u out = ⟨(Lib.decDigits u).toArray⟩ ++ out := by
 induction u using Nat.strongRecOn generalizing out with
 | ind u ih =>
  rw [Jd0 u out hu, Lib.decDigits];by_cases h : u < 10
  ·rw [dif_pos h]
   have h0 : u / 10 = 0 := by omega
   rw [h0, Ja1];unfold Yy;rw [Nat.mod_eq_of_lt h]
  rw [dif_neg h, ih (u / 10) (by omega) (by omega)];rw [<- Jiw];congr 1
theorem Jiu : Qv 0 = ⟨#[48]⟩ := by
 unfold Qv Lib.itoa;rw [if_neg (by decide)];unfold Lib.decDigits;rfl
theorem Jko (u : Nat) (hu : 0 < u) : Qv u = mkL u ⟨#[]⟩ := by
 rw [Jhu u hu];unfold Qv Lib.itoa;rw [if_neg (by omega)];apply ByteArray.ext;simp
theorem Jjn (u : Nat) (hu : 0 < u) : Qv (-(u : Int)) = ⟨#[45]⟩ ++ mkL u ⟨#[]⟩ := by
 rw [Jhu u hu];unfold Qv Lib.itoa;rw [if_pos (by omega)];apply ByteArray.ext;simp
theorem V1 (r : Nat) (w : World) (hr : r < 10) :
  Calls Tryz.prog 218 #[.int .i64 (r : Nat)] w fun e w' => e = .returned (.int .u8 (48 + (r : Int))) /\ w = w' := by
 have h1 : (r : Int) < 10 := by omega
 have h0 : (0 : Int) <= r := by omega
 go_enter Tryz.func218, Tryz.ntmps218
 go_wp2_with fail
 go_ret
 exact ⟨by first | rfl | (congr 2; omega), rfl⟩
theorem Jgt (j : Nat) : (-(j : Int)).tmod 10 = -((j % 10 : Nat) : Int) := by
 rw [Int.neg_tmod, Int.tmod_eq_emod_of_nonneg (by omega)];omega
theorem Jgh (j : Nat) : (-(j : Int)).tdiv 10 = -((j / 10 : Nat) : Int) := by
 rw [Int.neg_tdiv, Int.tdiv_eq_ediv_of_nonneg (by omega)];omega
theorem Jau (w : World) (j r : Nat) (hr : r = j % 10) : (convert 28 9 (.slice (some ⟨w.heap.size, 0, none⟩) 1 1)).run Tryz.prog (w.alloc (.cells #[.int .u8 (48 + (r : Int))] 5)) = .ok (.string (Yy j)) (w.alloc (.cells #[.int .u8 (48 + (r : Int))] 5)) := by
 refine run_convert_bytes_back (P := Tryz.prog) _ 28 9 5 ⟨w.heap.size, 0, none⟩ 1 [UInt8.ofNat (48 + j % 10)] Tryz.underlying28 Tryz.underlying5 Tryz.underlying9 (fun i hi => ?_);obtain rfl : i = 0 := by simpa using hi
 have e : ((UInt8.ofNat (48 + j % 10)).toNat : Int) = 48 + (r : Int) := by
  rw [UInt8.toNat_ofNat']; omega
 have e2 : (⟨w.heap.size, 0, none⟩ : Addr).add 0 = ⟨w.heap.size, 0, none⟩ := rfl;rw [e2, World.cell?_alloc_mark];simp only [List.getElem_cons_zero, e];rfl
theorem YX (n : Int) (w : World) (hn : -9223372036854775808 <= n /\ n <= 9223372036854775807) :
  Calls Tryz.prog 160 #[.int .i64 n] w fun e w' => e = .returned (.string (Qv n)) /\ Below w.heap.size w w' := by
 by_cases h0 : n = 0
 ·subst h0
  have HZ := Lib.hid Jiu;go_enter Tryz.func160, Tryz.ntmps160
  go_wp2_with fail
  go_ret
  exact ⟨by rw [HZ.out]; rfl, Below.refl _ _⟩
 by_cases hneg : n < 0
 ·obtain ⟨u, rfl⟩ : ∃ u : Nat, n = -(u : Int) := ⟨n.natAbs, by omega⟩
  have hu : 0 < u := by omega
  have HD := Lib.hid (Jjn u hu);obtain ⟨hn1, hn2⟩ := hn;have h0b : (-(u : Int) == 0) = false := JmH h0;have hnb : decide (-(u : Int) < 0) = true := JmG hneg;clear h0;go_enter Tryz.func160, Tryz.ntmps160
  go_wp2_with fail
  go_loopw [0, 4] (fun s0 s4 wr => ∃ (j : Nat) (out : ByteArray), s0 = .int .i64 (-(j : Int)) /\ s4 = .string out /\ mkL j out = mkL u ⟨#[]⟩ /\ out.size + j <= u /\ (out.size = 0 ∨ out.size + j <= u / 10 + 1) /\ Below w.heap.size w wr) (fun s0 _ _ => (intOf s0).natAbs)
  case atStart => exact ⟨u, ⟨#[]⟩, rfl, rfl, rfl, by show 0 + _ <= _; omega, .inl rfl, Below.refl _ _⟩
  case round =>
   obtain ⟨j, out, rfl, rfl, hm, hs, hs2, hbr⟩ := hrel;have Hj := Lib.hid hm;clear hm;by_cases hj : 0 < j
   ·have hj0 : (-(j : Int) != 0) = true := bne_iff_ne.2 (by omega)
    have hj1 : -9223372036854775808 <= -(j : Int) := by omega
    obtain ⟨r, hr⟩ : ∃ r, r = j % 10 := ⟨_, rfl⟩
    have h1 := Jgt j;have h2 := Jgh j;rw [<- hr] at h1;have hr9 : r < 10 := by omega
    have hd1 : (Yy j).size = 1 := rfl;have Hn := Lib.hid (show mkL (j / 10) (Yy j ++ out) = mkL u ⟨#[]⟩ by rw [<- Hj.out, Jd0 j out hj]);have Hz := Lib.hid (show (Yy j ++ out).size + j / 10 <= u /\ ((Yy j ++ out).size = 0 ∨ (Yy j ++ out).size + j / 10 <= u / 10 + 1) by rw [ByteArray.size_append, hd1]; omega);have hcv := Jau wr j r hr;have hso : out.size <= 9223372036854775806 := by clear h1 h2; omega
    clear hr hs2;by_cases hr0 : r = 0
    focus
     subst hr0;have hcv0 := hcv;rw [show (48 + ((0 : Nat) : Int)) = 48 from rfl] at hcv0;clear hcv;go_wp2_with fail
     refine (V1 0 _ hr9).mono ?_
    rotate_left
    focus
     have hrn : -(r : Int) < 0 := by omega
     go_wp2_with fail
     refine (V1 r _ hr9).mono ?_
    rotate_left
    all_goals
     rintro e w9 ⟨rfl, rfl⟩;go_wp2_with fail
     go_roundw
     case rel => exact ⟨j / 10, Yy j ++ out, by go_num, rfl, Hn.out, Hz.out.1, Hz.out.2, Jj⟩
     case measure => simp [intOf]; omega
   obtain rfl : j = 0 := by omega
   have HO := Lib.hid (show Qv (-(u : Int)) = ⟨#[45]⟩ ++ out by rw [HD.out, <- Hj.out, Ja1]);have hso : out.size <= 9223372036854775806 := by omega
   go_wp2_with fail
   go_ret
   exact ⟨by rw [HO.out]; rfl, Jj⟩
 obtain ⟨u, rfl⟩ : ∃ u : Nat, n = (u : Int) := ⟨n.toNat, by omega⟩
 have hu : 0 < u := by omega
 have HD := Lib.hid (Jko u hu);obtain ⟨hn1, hn2⟩ := hn;have h0b : ((u : Int) == 0) = false := JmH h0;have hnb : decide ((u : Int) < 0) = false := JmF hneg;clear h0;go_enter Tryz.func160, Tryz.ntmps160
 go_wp2_with fail
 go_loopw [0, 4] (fun s0 s4 wr => ∃ (j : Nat) (out : ByteArray), s0 = .int .i64 (j : Int) /\ s4 = .string out /\ mkL j out = mkL u ⟨#[]⟩ /\ out.size + j <= u /\ (out.size = 0 ∨ out.size + j <= u / 10 + 1) /\ Below w.heap.size w wr) (fun s0 _ _ => (intOf s0).natAbs)
 case atStart => exact ⟨u, ⟨#[]⟩, rfl, rfl, rfl, by show 0 + _ <= _; omega, .inl rfl, Below.refl _ _⟩
 case round =>
  obtain ⟨j, out, rfl, rfl, hm, hs, hs2, hbr⟩ := hrel;have Hj := Lib.hid hm;clear hm;by_cases hj : 0 < j
  ·have hj0 : ((j : Int) != 0) = true := bne_iff_ne.2 (by omega)
   have hj2 : (0 : Int) <= j := by omega
   have hj3 : (j : Int) <= 9223372036854775807 := by omega
   have hr9 : j % 10 < 10 := by omega
   have hd1 : (Yy j).size = 1 := rfl;have Hn := Lib.hid (show mkL (j / 10) (Yy j ++ out) = mkL u ⟨#[]⟩ by rw [<- Hj.out, Jd0 j out hj]);have Hz := Lib.hid (show (Yy j ++ out).size + j / 10 <= u /\ ((Yy j ++ out).size = 0 ∨ (Yy j ++ out).size + j / 10 <= u / 10 + 1) by rw [ByteArray.size_append, hd1]; omega);have hcv := Jau wr j (j % 10) rfl;rw [show ((j % 10 : Nat) : Int) = (j : Int) % 10 from by omega] at hcv
   have hso : out.size <= 9223372036854775806 := by omega
   have hge : ¬ (j : Int) % 10 < 0 := by omega
   clear hs2;go_wp2_with fail
   refine (V1 (j % 10) _ hr9).mono ?_;rintro e w9 ⟨rfl, rfl⟩;go_wp2_with fail
   go_roundw
   case rel => exact ⟨j / 10, Yy j ++ out, by go_num, rfl, Hn.out, Hz.out.1, Hz.out.2, Jj⟩
   case measure => simp [intOf]; omega
  obtain rfl : j = 0 := by omega
  have HO := Lib.hid (show Qv (u : Int) = out by rw [HD.out, <- Hj.out, Ja1]);go_wp2_with fail
  go_ret
  exact ⟨by rw [HO.out]; rfl, Jj⟩
end Go.Proofs.YtohcpifekcehjaaGreatDoor
