/- Steps to FnExactIndentedOk and FnExactIndentedNormal and FnExactCrossed. No conditions. -/
import Derived.Test.YtohcpifekcehjaaGreatDoorKind2
import Derived.Test.YtohcpifekcehjaaGreatDoorKind1
import Derived.Shelf.Strings.CaseAny
import Derived.Shelf.Lays
import Derived.Lib.ConvBytes
set_option maxHeartbeats 16000000
set_option maxRecDepth 20000
namespace Go.Proofs.YtohcpifekcehjaaGreatDoor
open Go.RowKit
def zs (M : List Nat) : List Int := M.map fun n : Nat => (n : Int)
theorem zs_len (M : List Nat) : (zs M).length = M.length := List.length_map _
theorem map_nil_app (o : Option (List Nat)) : o = o.map ([] ++ ·) := by cases o <;> rfl
theorem map_app (o : Option (List Nat)) (M : List Nat) (r : Nat) : (o.map (r :: ·)).map (M ++ ·) = o.map ((M ++ [r]) ++ ·) := by
 cases o with
 | none => rfl
 | some l => show some (M ++ (r :: l)) = some ((M ++ [r]) ++ l); rw [List.append_assoc]; rfl
theorem c_spec_RunesOf (s : ByteArray) (w : World) (hs : s.size <= 1048576) :
  Calls Tryz.prog 219 #[.string s] w fun e w' => ∃ (M : List Nat) (A : Option Addr) (c : Nat), e = .returned (.tuple #[.slice A M.length c, .bool (utf8B s)]) /\ (∀ l, runesAt s 0 = some l -> M = l) /\ RowE encZ 1 3 w.heap.size w' (zs M) (.slice A M.length c) /\ Below w.heap.size w w' := by
 obtain ⟨i0, hi, hz0, hz1, hz2⟩ := info_parts (show (Tryz.prog.info? 3).map (fun i => (i.zero, i.size, i.bytes)) = some (some (.int .i64 0), 1, 8) from by kernel_rfl)
 go_enter Tryz.func219, Tryz.ntmps219
 go_wp2_with fail
 go_loopw [4, 5] (fun s4 s5 wr => ∃ (i : Nat) (M : List Nat) (A : Option Addr) (c : Nat), i <= s.size /\ s5 = .int .i64 i /\ s4 = .slice A M.length c /\ RowE encZ 1 3 w.heap.size wr (zs M) (.slice A M.length c) /\ M.length <= i /\ runesAt s 0 = (runesAt s i).map (M ++ ·) /\ Below w.heap.size w wr) (fun _ s5 _ => s.size - (Lib.intOf s5).toNat)
 case atStart => exact ⟨0, [], some ⟨w.heap.size, 0, none⟩, 0, by omega, rfl, rfl, own_empty rfl (Nat.le_refl _), by simp, map_nil_app _, bel⟩
 case round =>
  obtain ⟨i, M, A, c, hil, rfl, rfl, hR, hMi, hrun, hbr⟩ := hrel
  have HR := Lib.hid hR
  have HRun := Lib.hid hrun
  clear hR hrun
  by_cases hlt : (i : Int) < s.size
  ·have h0 : (0 : Int) <= i := by omega
   go_wp2_with fail
   refine (c_spec_RuneAt s i _ (by omega) (by omega)).mono ?_
   rintro e w1 ⟨rfl, hb⟩
   have hsz := hb.size
   have B1 : Below w.heap.size w w1 := hbr.trans (hb.mono hbr.size)
   by_cases hd : Utf8.decode s i = (65533, 1)
   ·have Hf := Lib.hid (show utf8B s = false by unfold utf8B; rw [HRun.out, runesAt_bad (by omega) hd]; rfl)
    have Hn := Lib.hid (show ∀ l, runesAt s 0 = some l -> ([] : List Nat) = l from fun l h => by rw [HRun.out, runesAt_bad (by omega) hd] at h; cases h)
    rw [runeB_bad (by omega) hd]
    clear hd
    go_wp2_with fail
    go_ret2
    exact ⟨[], some ⟨w1.heap.size, 0, none⟩, 0, by rw [Hf.out]; rfl, Hn.out, own_empty rfl B1.size, bel⟩
   ·obtain ⟨d1, d2, d3⟩ := decode_fits s i (by omega)
    have hst := runesAt_step (show i < s.size by omega) hd
    rw [runeB_good (by omega) hd]
    obtain ⟨r, hr⟩ : ∃ r, r = (Utf8.decode s i).1 := ⟨_, rfl⟩
    obtain ⟨q, hq⟩ : ∃ q, q = i + (Utf8.decode s i).2 := ⟨_, rfl⟩
    rw [<- hr, <- hq] at hst
    rw [<- hr, <- hq]
    have hqs : q <= s.size := by omega
    have hqi : i < q := by omega
    have Hrun := Lib.hid (show runesAt s 0 = (runesAt s q).map ((M ++ [r]) ++ ·) by rw [HRun.out, hst, map_app])
    have hq0 : decide ((q : Int) < 0) = false := decide_eq_false (by omega)
    clear hr hq hst hd d1 d2 d3 HRun
    have hR1 := HR.out.below hb
    have hb0 : Below w1.heap.size w1 (w1.alloc (.cells #[.int .i64 (r : Int)] 3)) := bel
    obtain ⟨v5, w5, hr5, hR5, hg5, -⟩ := run_append_rows (P := Tryz.prog) (enc := encZ) (C := C_Z) (w1.alloc (.cells #[.int .i64 (r : Int)] 3)) 132 132 w.heap.size 3 i0 (.int .i64 0) 1 8 Tryz.underlying132 hi hz0 hz1 hz2 rfl (by decide) encZ_len encZ_one encZ_C _ M.length (zs M) (zs_len M) (hR1.below hb0) [(r : Int)] (some ⟨w1.heap.size, 0, none⟩) 1 1 _ _ rfl (sl_one (C := C_Z) encZ_len w1 (r : Int) rfl 3 _ rfl) (by unfold maxLen; omega) (by omega) (by have := B1.size; simp; omega)
    have hE : zs M ++ [(r : Int)] = zs (M ++ [r]) := by unfold zs; rw [List.map_append]; rfl
    rw [hE] at hR5
    obtain ⟨A5, c5, rfl⟩ := hR5.form
    have HR5 := Lib.hid hR5
    have HB5 := Lib.hid (show Below w.heap.size w w5 from Below.grown (B1.trans (hb0.mono B1.size)) hg5 (by have := B1.size; simp; omega) (fun q hq => (World.ownsRow.lt hR1 q hq).1))
    have HL := Lib.hid (show (zs (M ++ [r])).length = M.length + 1 by rw [zs_len]; simp)
    clear hR5 hg5 hb0 hR1 hE hb
    go_wp2_with (at_builtin; refine wpList_append_of rfl (.tmp 22) (.tmp 24) 132 rfl _ _ _ w5 rfl rfl hr5 ?_)
    clear hr5
    go_roundw
    case rel => exact ⟨q, M ++ [r], A5, c5, hqs, rfl, by rw [zs_len], by have h9 := HR5.out; rw [zs_len] at h9; exact h9, by simp; omega, Hrun.out, HB5.out⟩
    case measure => simp [Lib.intOf]; omega
  ·have he : runesAt s i = some [] := runesAt_end (by omega)
   have Hf := Lib.hid (show utf8B s = true by unfold utf8B; rw [HRun.out, he]; rfl)
   have Hn := Lib.hid (show ∀ l, runesAt s 0 = some l -> M = l from fun l h => by rw [HRun.out, he] at h; simpa using h)
   go_wp2_with fail
   go_ret2
   exact ⟨M, A, c, by rw [Hf.out]; rfl, Hn.out, HR.out, hbr⟩
theorem c_spec_Utf8Ok (s : ByteArray) (w : World) (hs : s.size <= 1048576) :
  Calls Tryz.prog 195 #[.string s] w fun e w' => e = .returned (.bool (utf8B s)) /\ Below w.heap.size w w' := by
 go_enter Tryz.func195, Tryz.ntmps195
 go_wp2_with fail
 refine (c_spec_RunesOf s _ hs).mono ?_
 rintro e w1 ⟨M, A, c, rfl, -, -, hb⟩
 go_wp2_with fail
 go_ret
 exact ⟨rfl, hb⟩
theorem c_l09Runes (s : ByteArray) (w : World) (hs : s.size <= 1048576) :
  Calls Tryz.prog 106 #[.string s] w fun e w' => e = .returned (.int .i64 (badAt s 0)) /\ Below w.heap.size w w' := by
 go_enter Tryz.func106, Tryz.ntmps106
 go_wp2_with fail
 go_loopw [3] (fun s3 wr => ∃ i : Nat, i <= s.size /\ s3 = .int .i64 i /\ badAt s 0 = badAt s i /\ Below w.heap.size w wr) (fun s3 _ => s.size - (Lib.intOf s3).toNat)
 case atStart => exact ⟨0, by omega, rfl, rfl, bel⟩
 case round =>
  obtain ⟨i, hil, rfl, hrun, hbr⟩ := hrel
  have HRun := Lib.hid hrun
  clear hrun
  by_cases hlt : (i : Int) < s.size
  ·have h0 : (0 : Int) <= i := by omega
   go_wp2_with fail
   refine (c_spec_RuneAt s i _ (by omega) (by omega)).mono ?_
   rintro e w1 ⟨rfl, hb⟩
   have B1 : Below w.heap.size w w1 := hbr.trans (hb.mono hbr.size)
   by_cases hd : Utf8.decode s i = (65533, 1)
   ·have Hf := Lib.hid (show badAt s 0 = i by rw [HRun.out, badAt_bad (by omega) hd])
    rw [runeB_bad (by omega) hd]
    clear hd
    go_wp2_with fail
    go_ret
    exact ⟨by rw [Hf.out]; rfl, B1⟩
   ·obtain ⟨d1, d2, d3⟩ := decode_fits s i (by omega)
    have hst := badAt_step (show i < s.size by omega) hd
    rw [runeB_good (by omega) hd]
    obtain ⟨r, hr⟩ : ∃ r, r = (Utf8.decode s i).1 := ⟨_, rfl⟩
    obtain ⟨q, hq⟩ : ∃ q, q = i + (Utf8.decode s i).2 := ⟨_, rfl⟩
    rw [<- hq] at hst
    rw [<- hr, <- hq]
    have hqs : q <= s.size := by omega
    have hqi : i < q := by omega
    have Hrun := Lib.hid (show badAt s 0 = badAt s q by rw [HRun.out, hst])
    have hq0 : decide ((q : Int) < 0) = false := decide_eq_false (by omega)
    clear hr hq hst hd d1 d2 d3 HRun
    go_wp2_with fail
    go_roundw
    case rel => exact ⟨q, hqs, rfl, Hrun.out, B1⟩
    case measure => simp [Lib.intOf]; omega
  ·have Hf := Lib.hid (show badAt s 0 = -1 by rw [HRun.out, badAt_end (by omega)])
   go_wp2_with fail
   go_ret
   exact ⟨by rw [Hf.out]; rfl, hbr⟩
structure Flt where
 code : Int
 at' : Int
 path : ByteArray
def fltC (f : Flt) : Array Value := #[.int .i64 f.code, .int .i64 f.at', .string f.path]
def flt0 : Flt := ⟨0, 0, ⟨#[]⟩⟩
def textF (s : ByteArray) : Flt := if 20000 < s.size then ⟨1, 0, ⟨#[]⟩⟩ else if 0 <= badAt s 0 then ⟨2, badAt s 0, ⟨#[]⟩⟩ else flt0
theorem c_impl_textFault (s : ByteArray) (w : World) (hs : s.size <= 1048576) (hT : Tabs w) :
  Calls Tryz.prog 91 #[.string s] w fun e w' => e = .returned (.agg (fltC (textF s))) /\ Below w.heap.size w w' := by
 have HT := Lib.hid hT
 clear hT
 by_cases hl : (20000 : Int) < s.size
 ·have Hf := Lib.hid (show textF s = ⟨1, 0, ⟨#[]⟩⟩ by unfold textF; rw [if_pos (by omega)])
  go_enter Tryz.func91, Tryz.ntmps91
  go_wp2_with fail
  exact bodyPost_ret (v := .agg #[.int .i64 1, .int .i64 0, .string ⟨#[]⟩]) (by simp only [results, Tryz.results91]; go_simp) rfl ⟨by rw [Hf.out]; rfl, bel⟩
 ·have hl2 : s.size <= 20000 := by omega
  have hl3 : decide ((20000 : Int) < s.size) = false := decide_eq_false hl
  clear hl
  go_enter Tryz.func91, Tryz.ntmps91
  go_wp2_with fail
  go_loopw [3] (fun s3 wr => ∃ i : Nat, i <= s.size /\ s3 = .int .i64 i /\ badAt s 0 = badAt s i /\ wr.heap[w.heap.size]? = some (.cells #[.int .i64 0, .int .i64 0, .string ⟨#[]⟩] 23 (0, 0)) /\ Below w.heap.size w wr) (fun s3 _ => s.size - (Lib.intOf s3).toNat)
  case atStart => exact ⟨0, by omega, rfl, rfl, heap_at (by simp), bel⟩
  case round =>
   obtain ⟨i, hil, rfl, hrun, hbox, hbr⟩ := hrel
   have HRun := Lib.hid hrun
   have HBox := Lib.hid hbox
   have hlb := row_lt hbox
   clear hrun hbox
   by_cases hlt : (i : Int) < s.size
   ·have h0 : (0 : Int) <= i := by omega
    go_wp2_with fail
    refine (c_impl_RuneAt s i _ (by omega) (by omega) (HT.out.below hbr)).mono ?_
    rintro e w1 ⟨rfl, hb⟩
    have B1 : Below w.heap.size w w1 := hbr.trans (hb.mono hbr.size)
    have hbox := (hb.block _ hlb).trans HBox.out
    obtain ⟨a0, a1, a2, af⟩ := row3 hbox
    have hlc := row_lt hbox
    have HBo := Lib.hid hbox
    clear hbox
    by_cases hd : Utf8.decode s i = (65533, 1)
    ·have Hf := Lib.hid (show textF s = ⟨2, i, ⟨#[]⟩⟩ by unfold textF; rw [if_neg (by omega), HRun.out, badAt_bad (by omega) hd, if_pos (by omega)])
     rw [runeB_bad (by omega) hd]
     clear hd
     go_wp2_with fail
     exact bodyPost_ret (v := .agg #[.int .i64 2, .int .i64 i, .string ⟨#[]⟩]) (by simp only [results, Tryz.results91]; go_simp) rfl ⟨by rw [Hf.out]; rfl, bel⟩
    ·obtain ⟨d1, d2, d3⟩ := decode_fits s i (by omega)
     have hst := badAt_step (show i < s.size by omega) hd
     rw [runeB_good (by omega) hd]
     obtain ⟨r, hr⟩ : ∃ r, r = (Utf8.decode s i).1 := ⟨_, rfl⟩
     obtain ⟨q, hq⟩ : ∃ q, q = i + (Utf8.decode s i).2 := ⟨_, rfl⟩
     rw [<- hq] at hst
     rw [<- hr, <- hq]
     have hqs : q <= s.size := by omega
     have hqi : i < q := by omega
     have Hrun := Lib.hid (show badAt s 0 = badAt s q by rw [HRun.out, hst])
     have hq0 : decide ((q : Int) < 0) = false := decide_eq_false (by omega)
     clear hr hq hst hd d1 d2 d3 HRun
     go_wp2_with fail
     go_roundw
     case rel => exact ⟨q, hqs, rfl, Hrun.out, HBo.out, B1⟩
     case measure => simp [Lib.intOf]; omega
   ·have Hf := Lib.hid (show textF s = flt0 by unfold textF; rw [if_neg (by omega), HRun.out, badAt_end (by omega), if_neg (by omega)])
    obtain ⟨a0, a1, a2, af⟩ := row3 HBox.out
    go_wp2_with fail
    exact bodyPost_ret (v := .agg #[.int .i64 0, .int .i64 0, .string ⟨#[]⟩]) (by simp only [results, Tryz.results91]; go_simp) rfl ⟨by rw [Hf.out]; rfl, bel⟩
def byteI (s : ByteArray) (j : Nat) : Int := ((s.get! j).toNat : Int)
theorem byteI_range (s : ByteArray) (j : Nat) : 0 <= byteI s j /\ byteI s j < 256 := by
 have := (s.get! j).toNat_lt
 unfold byteI
 omega
def lowV (x : Int) : Int := if 48 <= x /\ x <= 57 then x - 48 else if 97 <= x /\ x <= 102 then x - 87 else -1
def hexV (x : Int) : Int := if 65 <= x /\ x <= 70 then x - 55 else lowV x
theorem lowV_range (x : Int) : -1 <= lowV x /\ lowV x < 16 := by
 unfold lowV
 split
 ·omega
 ·split <;> omega
theorem hexV_range (x : Int) : -1 <= hexV x /\ hexV x < 16 := by
 unfold hexV
 split
 ·omega
 ·exact lowV_range x
def fourR (s : ByteArray) : Nat -> Nat -> Int -> Int
 | 0, _, n => n
 | k + 1, j, n => if hexV (byteI s j) < 0 then -1 else fourR s k (j + 1) (16 * n + hexV (byteI s j))
def fourB (s : ByteArray) (i : Nat) : Int := if i + 4 <= s.size then fourR s 4 i 0 else -1
theorem c_spec_l01Value (x : Int) (w : World) (hx : 0 <= x /\ x < 256) : Calls Tryz.prog 283 #[.int .u8 x] w fun e w' => e = .returned (.int .i64 (lowV x)) /\ w = w' := by
 go_enter Tryz.func283, Tryz.ntmps283
 go_wp2_with fail
 all_goals
  go_ret
  refine ⟨ret_int ?_, rfl⟩
  simp_all [lowV]
  try omega
theorem c_l09Four (s : ByteArray) (i : Nat) (w : World) (hs : s.size <= 1048576) (hi : i <= 2097152) :
  Calls Tryz.prog 267 #[.string s, .int .i64 i] w fun e w' => e = .returned (.int .i64 (fourB s i)) /\ w = w' := by
 obtain ⟨p4, hp4⟩ : ∃ p, p = i + 4 := ⟨_, rfl⟩
 have hpe : (i : Int) + 4 = p4 := by omega
 have HP := Lib.hid hp4
 by_cases hl : s.size < p4
 ·have Hf := Lib.hid (show fourB s i = -1 by unfold fourB; rw [if_neg (by omega)])
  have hl2 : (s.size : Int) < p4 := by omega
  clear hp4
  go_enter Tryz.func267, Tryz.ntmps267
  go_wp2_with fail
  go_ret
  exact ⟨by rw [Hf.out]; rfl, rfl⟩
 ·have Hf := Lib.hid (show fourB s i = fourR s 4 i 0 by unfold fourB; rw [if_pos (by omega)])
  have hl2 : decide ((s.size : Int) < p4) = false := decide_eq_false (by omega)
  have hl3 : decide (s.size < p4) = false := decide_eq_false hl
  have Hl := Lib.hid hl
  clear hp4 hl
  go_enter Tryz.func267, Tryz.ntmps267
  go_wp2_with fail
  go_loopw [5, 6] (fun s5 s6 wr => ∃ (k j : Nat) (n : Int), j + k = p4 /\ k <= 4 /\ s6 = .int .i64 j /\ s5 = .int .i64 n /\ 0 <= n /\ ((k = 4 -> n < 1) /\ (k = 3 -> n < 16) /\ (k = 2 -> n < 256) /\ (k = 1 -> n < 4096) /\ n < 65536) /\ fourR s 4 i 0 = fourR s k j n /\ wr = w) (fun _ s6 _ => p4 - (Lib.intOf s6).toNat)
  case atStart => exact ⟨4, i, 0, by have := HP.out; omega, by omega, rfl, rfl, by omega, ⟨by omega, by omega, by omega, by omega, by omega⟩, rfl, rfl⟩
  case round =>
   obtain ⟨k, j, n, hjk, hk4, rfl, rfl, hn0, hnb, hrun, rfl⟩ := hrel
   have HRun := Lib.hid hrun
   have HNb := Lib.hid hnb
   have hn6 : n < 65536 := hnb.2.2.2.2
   clear hrun hnb
   by_cases hlt : (j : Int) < p4
   ·obtain ⟨m, rfl⟩ : ∃ m, k = m + 1 := ⟨k - 1, by omega⟩
    have hjs : j < s.size := by have := Hl.out; omega
    have hjI : (j : Int) < s.size := by omega
    have hn4 : n < 4096 := by have := HNb.out; omega
    obtain ⟨b, hb⟩ : ∃ b : Nat, b = (s.get! j).toNat := ⟨_, rfl⟩
    have hx : (s[j]'hjs).toNat = b := by rw [hb]; exact get_at s j hjs
    have hb2 : (b : Int) < 256 := by have := (s.get! j).toNat_lt; omega
    have hby : byteI s j = b := by unfold byteI; rw [hb]
    obtain ⟨d, hd⟩ : ∃ d, d = hexV b := ⟨_, rfl⟩
    have hdr := hexV_range b
    rw [<- hd] at hdr
    obtain ⟨hd1, hd2⟩ := hdr
    have HStep := Lib.hid (show fourR s (m + 1) j n = if d < 0 then -1 else fourR s m (j + 1) (16 * n + d) by rw [hd, <- hby]; rfl)
    clear hby hb hn6
    have HD := Lib.hid hd
    by_cases hup : (65 : Int) <= b /\ (b : Int) <= 70
    ·obtain ⟨u1, u2⟩ := hup
     have hlow : lowV ((b : Int) + 32) = d := by rw [hd]; unfold hexV; rw [if_pos ⟨u1, u2⟩]; unfold lowV; rw [if_neg (by omega), if_pos (by omega)]; omega
     have hdp : 0 <= d := by rw [<- hlow]; unfold lowV; rw [if_neg (by omega), if_pos (by omega)]; omega
     have hdd : decide (d < 0) = false := decide_eq_false (by omega)
     clear hd
     go_wp2_with (first | (go_at_call 283; refine (c_spec_l01Value _ _ (by omega)).mono ?_; rintro e w' ⟨rfl, rfl⟩))
     go_roundw
     case rel => exact ⟨m, j + 1, 16 * n + d, by omega, by omega, by go_num, rfl, by omega, by have := HNb.out; omega, by rw [HRun.out, HStep.out, if_neg (by omega)], by first | rfl | exact True.intro⟩
     case measure => simp [Lib.intOf]; omega
    ·have hlow : lowV (b : Int) = d := by rw [hd]; unfold hexV; rw [if_neg hup]
     clear hd
     rcases (show (b : Int) < 65 ∨ 70 < (b : Int) by omega) with hbb | hbb
     ·have c1 : decide ((65 : Int) <= b) = false := decide_eq_false (by omega)
      clear hbb hup
      by_cases hneg : d < 0
      ·have Hg := Lib.hid (show fourB s i = -1 by rw [Hf.out, HRun.out, HStep.out, if_pos hneg])
       go_wp2_with (first | (go_at_call 283; refine (c_spec_l01Value _ _ (by omega)).mono ?_; rintro e w' ⟨rfl, rfl⟩))
       go_ret
       exact ⟨by rw [Hg.out]; rfl, rfl⟩
      ·have hdd : decide (d < 0) = false := decide_eq_false hneg
       have hdp : 0 <= d := by omega
       clear hneg
       go_wp2_with (first | (go_at_call 283; refine (c_spec_l01Value _ _ (by omega)).mono ?_; rintro e w' ⟨rfl, rfl⟩))
       go_roundw
       case rel => exact ⟨m, j + 1, 16 * n + d, by omega, by omega, by go_num, rfl, by omega, by have := HNb.out; omega, by rw [HRun.out, HStep.out, if_neg (by omega)], by first | rfl | exact True.intro⟩
       case measure => simp [Lib.intOf]; omega
     ·have c0 : (65 : Int) <= b := by omega
      have c1 : decide ((b : Int) <= 70) = false := decide_eq_false (by omega)
      clear hbb hup
      by_cases hneg : d < 0
      ·have Hg := Lib.hid (show fourB s i = -1 by rw [Hf.out, HRun.out, HStep.out, if_pos hneg])
       go_wp2_with (first | (go_at_call 283; refine (c_spec_l01Value _ _ (by omega)).mono ?_; rintro e w' ⟨rfl, rfl⟩))
       go_ret
       exact ⟨by rw [Hg.out]; rfl, rfl⟩
      ·have hdd : decide (d < 0) = false := decide_eq_false hneg
       have hdp : 0 <= d := by omega
       clear hneg
       go_wp2_with (first | (go_at_call 283; refine (c_spec_l01Value _ _ (by omega)).mono ?_; rintro e w' ⟨rfl, rfl⟩))
       go_roundw
       case rel => exact ⟨m, j + 1, 16 * n + d, by omega, by omega, by go_num, rfl, by omega, by have := HNb.out; omega, by rw [HRun.out, HStep.out, if_neg (by omega)], by first | rfl | exact True.intro⟩
       case measure => simp [Lib.intOf]; omega
   ·obtain rfl : k = 0 := by omega
    have Hg := Lib.hid (show fourB s i = n by rw [Hf.out, HRun.out]; rfl)
    go_wp2_with fail
    go_ret
    exact ⟨by rw [Hg.out]; rfl, rfl⟩
theorem fourB_range (s : ByteArray) (i : Nat) : -1 <= fourB s i /\ fourB s i < 65536 := by
 have h0 := hexV_range (byteI s i)
 have h1 := hexV_range (byteI s (i + 1))
 have h2 := hexV_range (byteI s (i + 1 + 1))
 have h3 := hexV_range (byteI s (i + 1 + 1 + 1))
 unfold fourB
 split
 ·simp only [fourR]
  repeat' split
  all_goals omega
 ·omega
def escB (s : ByteArray) (i : Nat) : Int × Int :=
 if i < s.size then
  (if byteI s i = 34 ∨ byteI s i = 92 ∨ byteI s i = 47 then (byteI s i, (i : Int) + 1)
  else if byteI s i = 98 then (8, (i : Int) + 1)
  else if byteI s i = 102 then (12, (i : Int) + 1)
  else if byteI s i = 110 then (10, (i : Int) + 1)
  else if byteI s i = 114 then (13, (i : Int) + 1)
  else if byteI s i = 116 then (9, (i : Int) + 1)
  else if byteI s i = 117 then
   (if fourB s (i + 1) < 0 ∨ inB (fourB s (i + 1)) 56320 57343 = true then (0, -1)
   else if inB (fourB s (i + 1)) 55296 56319 = false then (fourB s (i + 1), (i : Int) + 5)
   else if s.size < i + 7 ∨ byteI s (i + 5) ≠ 92 ∨ byteI s (i + 6) ≠ 117 then (0, -1)
   else if inB (fourB s (i + 7)) 56320 57343 = true then (65536 + 1024 * (fourB s (i + 1) - 55296) + fourB s (i + 7) - 56320, (i : Int) + 11)
   else (0, -1))
  else (0, -1))
 else (0, -1)
theorem c_l09Escape (s : ByteArray) (i : Nat) (w : World) (hs : s.size <= 1048576) (hi : i <= 1048577) :
  Calls Tryz.prog 245 #[.string s, .int .i64 i] w fun e w' => e = .returned (.tuple #[.int .i64 (escB s i).1, .int .i64 (escB s i).2]) /\ w = w' := by
 by_cases hlt : (i : Int) < s.size
 ·have h0 : (0 : Int) <= i := by omega
  have h1 : decide ((s.size : Int) <= i) = false := decide_eq_false (by omega)
  have h2 : decide (s.size <= i) = false := decide_eq_false (by omega)
  have hii : i < s.size := by omega
  obtain ⟨b, hb⟩ : ∃ b : Nat, b = (s.get! i).toNat := ⟨_, rfl⟩
  have hx : (s[i]'hii).toNat = b := by rw [hb]; exact get_at s i hii
  have hb2 : (b : Int) < 256 := by have := (s.get! i).toNat_lt; omega
  have hby : byteI s i = b := by unfold byteI; rw [hb]
  clear hb
  have HE := Lib.hid (show escB s i = _ from if_pos hii)
  rw [hby] at HE
  have HE := HE
  have Hii := Lib.hid hii
  have HE0 := Lib.hid HE.out
  clear HE
  by_cases e34 : (b : Int) = 34
  ·have Hf := Lib.hid (show escB s i = ((b : Int), (i : Int) + 1) by rw [HE0.out, if_pos (by omega)])
   obtain rfl : b = 34 := by omega
   clear e34
   go_enter Tryz.func245, Tryz.ntmps245
   go_wp2_with fail
   go_ret2
   exact ⟨by rw [Hf.out]; rfl, rfl⟩
  ·have f34 : ((b : Int) == 34) = false := beq_eq_false_iff_ne.2 e34
   by_cases e92 : (b : Int) = 92
   ·have Hf := Lib.hid (show escB s i = ((b : Int), (i : Int) + 1) by rw [HE0.out, if_pos (by omega)])
    obtain rfl : b = 92 := by omega
    clear e92
    go_enter Tryz.func245, Tryz.ntmps245
    go_wp2_with fail
    go_ret2
    exact ⟨by rw [Hf.out]; rfl, rfl⟩
   ·have f92 : ((b : Int) == 92) = false := beq_eq_false_iff_ne.2 e92
    by_cases e47 : (b : Int) = 47
    ·have Hf := Lib.hid (show escB s i = ((b : Int), (i : Int) + 1) by rw [HE0.out, if_pos (by omega)])
     obtain rfl : b = 47 := by omega
     clear e47
     go_enter Tryz.func245, Tryz.ntmps245
     go_wp2_with fail
     go_ret2
     exact ⟨by rw [Hf.out]; rfl, rfl⟩
    ·have f47 : ((b : Int) == 47) = false := beq_eq_false_iff_ne.2 e47
     by_cases e98 : (b : Int) = 98
     ·have Hf := Lib.hid (show escB s i = (8, (i : Int) + 1) by rw [HE0.out, if_neg (by omega), if_pos e98])
      obtain rfl : b = 98 := by omega
      clear e98
      go_enter Tryz.func245, Tryz.ntmps245
      go_wp2_with fail
      go_ret2
      exact ⟨by rw [Hf.out]; rfl, rfl⟩
     ·have f98 : ((b : Int) == 98) = false := beq_eq_false_iff_ne.2 e98
      by_cases e102 : (b : Int) = 102
      ·have Hf := Lib.hid (show escB s i = (12, (i : Int) + 1) by rw [HE0.out, if_neg (by omega), if_neg (by omega), if_pos e102])
       obtain rfl : b = 102 := by omega
       clear e102
       go_enter Tryz.func245, Tryz.ntmps245
       go_wp2_with fail
       go_ret2
       exact ⟨by rw [Hf.out]; rfl, rfl⟩
      ·have f102 : ((b : Int) == 102) = false := beq_eq_false_iff_ne.2 e102
       by_cases e110 : (b : Int) = 110
       ·have Hf := Lib.hid (show escB s i = (10, (i : Int) + 1) by rw [HE0.out, if_neg (by omega), if_neg (by omega), if_neg (by omega), if_pos e110])
        obtain rfl : b = 110 := by omega
        clear e110
        go_enter Tryz.func245, Tryz.ntmps245
        go_wp2_with fail
        go_ret2
        exact ⟨by rw [Hf.out]; rfl, rfl⟩
       ·have f110 : ((b : Int) == 110) = false := beq_eq_false_iff_ne.2 e110
        by_cases e114 : (b : Int) = 114
        ·have Hf := Lib.hid (show escB s i = (13, (i : Int) + 1) by rw [HE0.out, if_neg (by omega), if_neg (by omega), if_neg (by omega), if_neg (by omega), if_pos e114])
         obtain rfl : b = 114 := by omega
         clear e114
         go_enter Tryz.func245, Tryz.ntmps245
         go_wp2_with fail
         go_ret2
         exact ⟨by rw [Hf.out]; rfl, rfl⟩
        ·have f114 : ((b : Int) == 114) = false := beq_eq_false_iff_ne.2 e114
         by_cases e116 : (b : Int) = 116
         ·have Hf := Lib.hid (show escB s i = (9, (i : Int) + 1) by rw [HE0.out, if_neg (by omega), if_neg (by omega), if_neg (by omega), if_neg (by omega), if_neg (by omega), if_pos e116])
          obtain rfl : b = 116 := by omega
          clear e116
          go_enter Tryz.func245, Tryz.ntmps245
          go_wp2_with fail
          go_ret2
          exact ⟨by rw [Hf.out]; rfl, rfl⟩
         ·have f116 : ((b : Int) == 116) = false := beq_eq_false_iff_ne.2 e116
          by_cases e117 : (b : Int) = 117
          ·have HU := Lib.hid (show escB s i = _ by rw [HE0.out, if_neg (by omega), if_neg (by omega), if_neg (by omega), if_neg (by omega), if_neg (by omega), if_neg (by omega), if_pos e117])
           obtain rfl : b = 117 := by omega
           clear e117 e34 e92 e47 e98 e102 e110 e114 e116 f34 f92 f47 f98 f102 f110 f114 f116
           obtain ⟨p1, hp1⟩ : ∃ p, p = i + 1 := ⟨_, rfl⟩
           have q1 : (i : Int) + 1 = p1 := by omega
           have HP1 := Lib.hid hp1
           obtain ⟨p5, hp5⟩ : ∃ p, p = i + 5 := ⟨_, rfl⟩
           have q5 : (i : Int) + 5 = p5 := by omega
           have HP5 := Lib.hid hp5
           obtain ⟨p6, hp6⟩ : ∃ p, p = i + 6 := ⟨_, rfl⟩
           have q6 : (i : Int) + 6 = p6 := by omega
           have HP6 := Lib.hid hp6
           obtain ⟨p7, hp7⟩ : ∃ p, p = i + 7 := ⟨_, rfl⟩
           have q7 : (i : Int) + 7 = p7 := by omega
           have HP7 := Lib.hid hp7
           obtain ⟨p11, hp11⟩ : ∃ p, p = i + 11 := ⟨_, rfl⟩
           have q11 : (i : Int) + 11 = p11 := by omega
           have HP11 := Lib.hid hp11
           have hpb : (p11 : Int) <= 1048588 := by omega
           clear hp1 hp5 hp6 hp7 hp11
           obtain ⟨n, hn⟩ : ∃ n, n = fourB s p1 := ⟨_, rfl⟩
           have hnr := fourB_range s p1
           rw [<- hn] at hnr
           obtain ⟨hn1, hn2⟩ := hnr
           have HN := Lib.hid hn
           clear hn
           by_cases n0 : n < 0
           ·have Hf := Lib.hid (show escB s i = (0, -1) by rw [HU.out, <- HP1.out, <- HN.out]; exact if_pos (.inl n0))
            go_enter Tryz.func245, Tryz.ntmps245
            go_wp2_with fail
            refine (c_l09Four s p1 _ hs (by omega)).mono ?_
            rintro e w9 ⟨rfl, rfl⟩
            rw [<- HN.out]
            go_wp2_with (first | (go_at_call 115; refine (c_spec_l01In _ _ _ _).mono ?_; rintro e w' ⟨rfl, rfl⟩))
            go_ret2
            exact ⟨by rw [Hf.out]; rfl, rfl⟩
           ·have d0 : decide (n < 0) = false := decide_eq_false n0
            have hn0 : 0 <= n := by omega
            rcases hB : inB n 56320 57343 with _ | _
            ·rcases hC : inB n 55296 56319 with _ | _
             ·have Hf := Lib.hid (show escB s i = (n, (p5 : Int)) by rw [HU.out, <- HP1.out, <- HN.out]; rw [<- q5]; exact (if_neg (by rintro (h | h); exact n0 h; rw [hB] at h; exact absurd h (by decide))).trans (if_pos hC))
              clear n0
              go_enter Tryz.func245, Tryz.ntmps245
              go_wp2_with fail
              refine (c_l09Four s p1 _ hs (by omega)).mono ?_
              rintro e w9 ⟨rfl, rfl⟩
              rw [<- HN.out]
              go_wp2_with (first | (go_at_call 115; refine (c_spec_l01In _ _ _ _).mono ?_; rintro e w' ⟨rfl, rfl⟩))
              go_ret2
              exact ⟨by rw [Hf.out]; rfl, rfl⟩
             ·have HV := Lib.hid (show escB s i = (if s.size < p7 ∨ byteI s p5 ≠ 92 ∨ byteI s p6 ≠ 117 then (0, -1) else if inB (fourB s p7) 56320 57343 = true then (65536 + 1024 * (n - 55296) + fourB s p7 - 56320, (p11 : Int)) else (0, -1)) by rw [HU.out, <- HP1.out, <- HN.out]; rw [<- HP5.out, <- HP6.out, <- HP7.out, q11]; exact (if_neg (by rintro (h | h); exact n0 h; rw [hB] at h; exact absurd h (by decide))).trans (if_neg (by rw [hC]; decide)))
              clear n0
              by_cases hD : (s.size : Int) < p7
              ·have Hf := Lib.hid (show escB s i = (0, -1) by rw [HV.out]; exact if_pos (.inl (by omega)))
               go_enter Tryz.func245, Tryz.ntmps245
               go_wp2_with fail
               refine (c_l09Four s p1 _ hs (by omega)).mono ?_
               rintro e w9 ⟨rfl, rfl⟩
               rw [<- HN.out]
               go_wp2_with (first | (go_at_call 115; refine (c_spec_l01In _ _ _ _).mono ?_; rintro e w' ⟨rfl, rfl⟩))
               go_ret2
               exact ⟨by rw [Hf.out]; rfl, rfl⟩
              ·have g7 := Int.not_lt.1 hD
               have g5 : p5 < s.size := by have := HP7.out; have := HP5.out; omega
               have g6 : p6 < s.size := by have := HP7.out; have := HP6.out; omega
               have gi5 : (p5 : Int) < s.size := by omega
               have gi6 : (p6 : Int) < s.size := by omega
               have dD : decide ((s.size : Int) < p7) = false := decide_eq_false hD
               have dD2 : decide (s.size < p7) = false := decide_eq_false (by omega)
               obtain ⟨b5, hb5⟩ : ∃ b : Nat, b = (s.get! p5).toNat := ⟨_, rfl⟩
               have hx5 : (s[p5]'g5).toNat = b5 := by rw [hb5]; exact get_at s p5 g5
               obtain ⟨b6, hb6⟩ : ∃ b : Nat, b = (s.get! p6).toNat := ⟨_, rfl⟩
               have hx6 : (s[p6]'g6).toNat = b6 := by rw [hb6]; exact get_at s p6 g6
               have h5b : (b5 : Int) < 256 := by have := (s.get! p5).toNat_lt; omega
               have h6b : (b6 : Int) < 256 := by have := (s.get! p6).toNat_lt; omega
               have HB5 := Lib.hid (show byteI s p5 = b5 by unfold byteI; rw [hb5])
               have HB6 := Lib.hid (show byteI s p6 = b6 by unfold byteI; rw [hb6])
               have HD := Lib.hid hD
               clear hb5 hb6 hD g7
               by_cases e5 : (b5 : Int) = 92
               ·obtain rfl : b5 = 92 := by omega
                clear e5
                by_cases e6 : (b6 : Int) = 117
                ·obtain rfl : b6 = 117 := by omega
                 clear e6
                 obtain ⟨m, hm⟩ : ∃ m, m = fourB s p7 := ⟨_, rfl⟩
                 have hmr := fourB_range s p7
                 rw [<- hm] at hmr
                 obtain ⟨hm1, hm2⟩ := hmr
                 have HM := Lib.hid hm
                 clear hm
                 have HW := Lib.hid (show escB s i = (if inB m 56320 57343 = true then (65536 + 1024 * (n - 55296) + m - 56320, (p11 : Int)) else (0, -1)) by rw [HV.out, <- HM.out]; exact if_neg (by rintro (h | h | h); (have := HD.out; omega); exact h HB5.out; exact h HB6.out))
                 rcases hG : inB m 56320 57343 with _ | _
                 ·have Hf := Lib.hid (show escB s i = (0, -1) by rw [HW.out]; exact if_neg (by rw [hG]; decide))
                  go_enter Tryz.func245, Tryz.ntmps245
                  go_wp2_with fail
                  refine (c_l09Four s p1 _ hs (by omega)).mono ?_
                  rintro e w9 ⟨rfl, rfl⟩
                  rw [<- HN.out]
                  go_wp2_with (first | (go_at_call 115; refine (c_spec_l01In _ _ _ _).mono ?_; rintro e w' ⟨rfl, rfl⟩))
                  refine (c_l09Four s p7 _ hs (by omega)).mono ?_
                  rintro e w9 ⟨rfl, rfl⟩
                  rw [<- HM.out]
                  go_wp2_with (first | (go_at_call 115; refine (c_spec_l01In _ _ _ _).mono ?_; rintro e w' ⟨rfl, rfl⟩))
                  go_ret2
                  exact ⟨by rw [Hf.out]; rfl, rfl⟩
                 ·have hmi : 56320 <= m /\ m <= 57343 := by unfold inB at hG; simpa using hG
                  have Hf := Lib.hid (show escB s i = (65536 + 1024 * (n - 55296) + m - 56320, (p11 : Int)) by rw [HW.out]; exact if_pos hG)
                  obtain ⟨hmi1, hmi2⟩ := hmi
                  go_enter Tryz.func245, Tryz.ntmps245
                  go_wp2_with fail
                  refine (c_l09Four s p1 _ hs (by omega)).mono ?_
                  rintro e w9 ⟨rfl, rfl⟩
                  rw [<- HN.out]
                  go_wp2_with (first | (go_at_call 115; refine (c_spec_l01In _ _ _ _).mono ?_; rintro e w' ⟨rfl, rfl⟩))
                  refine (c_l09Four s p7 _ hs (by omega)).mono ?_
                  rintro e w9 ⟨rfl, rfl⟩
                  rw [<- HM.out]
                  go_wp2_with (first | (go_at_call 115; refine (c_spec_l01In _ _ _ _).mono ?_; rintro e w' ⟨rfl, rfl⟩))
                  go_ret2
                  exact ⟨by rw [Hf.out]; rfl, rfl⟩
                ·have f6 : ((b6 : Int) == 117) = false := beq_eq_false_iff_ne.2 e6
                 have Hf := Lib.hid (show escB s i = (0, -1) by rw [HV.out]; exact if_pos (.inr (.inr (by rw [HB6.out]; exact e6))))
                 clear e6
                 go_enter Tryz.func245, Tryz.ntmps245
                 go_wp2_with fail
                 refine (c_l09Four s p1 _ hs (by omega)).mono ?_
                 rintro e w9 ⟨rfl, rfl⟩
                 rw [<- HN.out]
                 go_wp2_with (first | (go_at_call 115; refine (c_spec_l01In _ _ _ _).mono ?_; rintro e w' ⟨rfl, rfl⟩))
                 go_ret2
                 exact ⟨by rw [Hf.out]; rfl, rfl⟩
               ·have f5 : ((b5 : Int) == 92) = false := beq_eq_false_iff_ne.2 e5
                have Hf := Lib.hid (show escB s i = (0, -1) by rw [HV.out]; exact if_pos (.inr (.inl (by rw [HB5.out]; exact e5))))
                clear e5
                go_enter Tryz.func245, Tryz.ntmps245
                go_wp2_with fail
                refine (c_l09Four s p1 _ hs (by omega)).mono ?_
                rintro e w9 ⟨rfl, rfl⟩
                rw [<- HN.out]
                go_wp2_with (first | (go_at_call 115; refine (c_spec_l01In _ _ _ _).mono ?_; rintro e w' ⟨rfl, rfl⟩))
                go_ret2
                exact ⟨by rw [Hf.out]; rfl, rfl⟩
            ·have Hf := Lib.hid (show escB s i = (0, -1) by rw [HU.out, <- HP1.out, <- HN.out]; exact if_pos (.inr hB))
             clear n0
             go_enter Tryz.func245, Tryz.ntmps245
             go_wp2_with fail
             refine (c_l09Four s p1 _ hs (by omega)).mono ?_
             rintro e w9 ⟨rfl, rfl⟩
             rw [<- HN.out]
             go_wp2_with (first | (go_at_call 115; refine (c_spec_l01In _ _ _ _).mono ?_; rintro e w' ⟨rfl, rfl⟩))
             go_ret2
             exact ⟨by rw [Hf.out]; rfl, rfl⟩
          ·have Hf := Lib.hid (show escB s i = (0, -1) by rw [HE0.out, if_neg (by omega), if_neg (by omega), if_neg (by omega), if_neg (by omega), if_neg (by omega), if_neg (by omega), if_neg e117])
           have f117 : ((b : Int) == 117) = false := beq_eq_false_iff_ne.2 e117
           clear e117 e34 e92 e47 e98 e102 e110 e114 e116
           go_enter Tryz.func245, Tryz.ntmps245
           go_wp2_with fail
           go_ret2
           exact ⟨by rw [Hf.out]; rfl, rfl⟩
 ·have Hf := Lib.hid (show escB s i = (0, -1) by unfold escB; rw [if_neg (by omega)])
  go_enter Tryz.func245, Tryz.ntmps245
  go_wp2_with fail
  go_ret2
  exact ⟨by rw [Hf.out]; rfl, rfl⟩
open Go.RowKit Go.Lib
def rowHigh (x : CaseRow) : Bool :=
 decide (x.2.1 < 128) || (if x.delta 1 > 1114111 then decide (128 <= x.1) else (decide (128 <= (x.1 : Int) + x.delta 1) || (decide (x.1 = x.2.1) && (decide ((x.1 : Int) + x.delta 1 = 105) || decide ((x.1 : Int) + x.delta 1 = 107)))))
theorem rowsHigh : caseT.all rowHigh = true := by decide
theorem caseA_high (i : Nat) (hi : i < caseA.size) : rowHigh (caseA.getD i (0, 0, 0, 0, 0)) = true := by
 have hm : caseA.getD i (0, 0, 0, 0, 0) ∈ caseT := by
  unfold caseA at hi ⊢
  simp only [List.size_toArray] at hi
  simp [Array.getD, hi]
 exact List.all_eq_true.1 rowsHigh _ hm
theorem convert_high (x : CaseRow) (hx : rowHigh x = true) (r : Int) (hr : 128 <= r) (hlo : (x.1 : Int) <= r) (hhi : r <= (x.2.1 : Int)) : 128 <= convertR 1 r x ∨ convertR 1 r x = 105 ∨ convertR 1 r x = 107 := by
 unfold rowHigh at hx
 unfold convertR
 rw [Bool.or_eq_true] at hx
 rcases hx with h | h
 ·have := of_decide_eq_true h
  omega
 ·split at h
  ·rename_i hd
   have := of_decide_eq_true h
   rw [if_pos hd]
   left
   omega
  ·rename_i hd
   rw [if_neg hd]
   simp only [Bool.or_eq_true, Bool.and_eq_true, decide_eq_true_eq] at h
   omega
theorem lower_high (r : Nat) (hr : 128 <= r) : 128 <= toLowerU r ∨ toLowerU r = 105 ∨ toLowerU r = 107 := by
 unfold toLowerU
 rw [if_neg (by omega)]
 unfold toR lookupGo
 cases hi : lookupIdx caseA (r : Int) (caseA.size + 1) 0 caseA.size with
 | none => left; show 128 <= (r : Int); omega
 | some i =>
  obtain ⟨hil, hlo, hhi⟩ := lookupIdx_some caseA (r : Int) _ _ _ i hi
  exact convert_high _ (caseA_high i hil) r (by omega) hlo hhi
theorem decode_high (b : UInt8) (t : List UInt8) (h : 128 <= b.toNat) : 128 <= (decodeL (b :: t)).1 /\ (decodeL (b :: t)).1 <= 1114111 := by
 rw [decodeL_N]
 simp only [List.getD_cons_zero]
 unfold decodeN
 repeat' split
 all_goals (constructor <;> simp only <;> omega)
theorem lowV_neg {x : Int} (h : 103 <= x) : lowV x = -1 := by
 unfold lowV
 rw [if_neg (by omega), if_neg (by omega)]
theorem hexV_neg {x : Int} (h : 103 <= x) : hexV x = -1 := by
 unfold hexV
 rw [if_neg (by omega), lowV_neg h]
theorem enc_high (q : Int) (h : 128 <= q ∨ q = 105 ∨ q = 107) : ∃ x t, encodeRune q = x :: t /\ 103 <= x.toNat := by
 unfold encodeRune encodeRuneZ
 have key : ∀ z : Int, 103 <= z -> z < 256 -> 103 <= (z.toNat.toUInt8).toNat := fun z h1 h2 => by
  rw [show (z.toNat.toUInt8).toNat = z.toNat % 256 from UInt8.toNat_ofNat']
  omega
 repeat' split
 all_goals exact ⟨_, _, rfl, key _ (by omega) (by omega)⟩
theorem hex_low (b : UInt8) (h : b.toNat < 128) : lowV ((Lib.lowerB b).toNat : Int) = hexV (b.toNat : Int) := by
 have key : ∀ i : Fin 128, lowV ((Lib.lowerB (UInt8.ofNat i.val)).toNat : Int) = hexV (i.val : Int) := by decide
 have := key ⟨b.toNat, h⟩
 simpa using this
def runL : List UInt8 -> Int -> Int
 | [], n => n
 | b :: t, n => if lowV (b.toNat : Int) < 0 then -1 else runL t (16 * n + lowV (b.toNat : Int))
def runH : List UInt8 -> Int -> Int
 | [], n => n
 | b :: t, n => if hexV (b.toNat : Int) < 0 then -1 else runH t (16 * n + hexV (b.toNat : Int))
theorem lower_step (b : UInt8) (t : List UInt8) (h : b.toNat < 128) : toLowerD (b :: t) = Lib.lowerB b :: toLowerD t := by
 unfold toLowerD
 rw [mapD_step toLowerU (b :: t) (by simp), decodeL_ascii b t h]
 dsimp only
 have e : encodeRune (toLowerU (b.toNat : Int)) = [Lib.lowerB b] := by
  have := lower_byte ⟨b.toNat, h⟩
  simpa using this
 rw [if_pos (toLowerU_range b.toNat (by omega)).1, e, List.drop_succ_cons, List.drop_zero]
 rfl
theorem lower_stop (b : UInt8) (t : List UInt8) (h : 128 <= b.toNat) : ∃ x u, toLowerD (b :: t) = x :: u /\ 103 <= x.toNat := by
 unfold toLowerD
 obtain ⟨h1, h2⟩ := decode_high b t h
 obtain ⟨x, u, e, hx⟩ := enc_high _ (lower_high _ h1)
 rw [mapD_step toLowerU (b :: t) (by simp), if_pos (toLowerU_range _ h2).1, e]
 exact ⟨x, _, rfl, hx⟩
theorem runL_lower : ∀ (l : List UInt8) (n : Int), runL (toLowerD l) n = runH l n
 | [], _ => rfl
 | b :: t, n => by
  by_cases h : b.toNat < 128
  ·rw [lower_step b t h]
   unfold runL runH
   rw [hex_low b h, runL_lower t]
  ·obtain ⟨x, u, e, hx⟩ := lower_stop b t (by omega)
   rw [e]
   unfold runL runH
   rw [lowV_neg (by omega), hexV_neg (by omega)]
   rfl
theorem lower_end : ∀ l : List UInt8, ∃ p, p <= l.length /\ (p = (toLowerD l).length ∨ ∃ x, (toLowerD l)[p]? = some x /\ lowV (x.toNat : Int) < 0)
 | [] => ⟨0, Nat.le_refl _, .inl rfl⟩
 | b :: t => by
  by_cases h : b.toNat < 128
  ·obtain ⟨p, hp, hq⟩ := lower_end t
   rw [lower_step b t h]
   exact ⟨p + 1, by simp; omega, by simpa using hq⟩
  ·obtain ⟨x, u, e, hx⟩ := lower_stop b t (by omega)
   rw [e]
   exact ⟨0, Nat.zero_le _, .inr ⟨x, rfl, by rw [lowV_neg (by omega)]; decide⟩⟩
theorem fourR_runH (s : ByteArray) : ∀ (k j : Nat) (n : Int), j + k <= s.size -> fourR s k j n = runH ((s.data.toList.drop j).take k) n
 | 0, _, _, _ => by simp [fourR, runH]
 | k + 1, j, n, h => by
  have hj : j < s.data.toList.length := by rw [Array.length_toList]; exact Nat.lt_of_lt_of_le (by omega) h
  have hb : byteI s j = ((s.data.toList[j]).toNat : Int) := by
   unfold byteI
   have : s.get! j = s.data.toList[j] := by
    show s.data[j]! = _
    rw [getElem!_pos s.data j (by simpa using hj)]
    simp
   rw [this]
  rw [List.drop_eq_getElem_cons hj, List.take_succ_cons]
  unfold fourR runH
  rw [hb, fourR_runH s k (j + 1) _ (by omega)]
open Go.Shelf
def laysLow_ren : Go.Shelf.Ren := ⟨fun | 159 => 280 | 165 => 153 | 166 => 154 | 167 => 293 | 169 => 155 | 230 => 294 | 204 => 295 | 240 => 216 | 241 => 217 | 197 => 224 | 118 => 300 | 168 => 301 | 270 => 302 | 262 => 303 | 276 => 253 | 277 => 254 | 260 => 257 | 242 => 304 | 313 => 305 | 278 => 306 | 274 => 307 | 275 => 308 | n => n, fun | 9 => 9 | 4 => 4 | 3 => 3 | 5 => 5 | 72 => 139 | 0 => 0 | 76 => 142 | 75 => 141 | 107 => 238 | 70 => 137 | 20 => 20 | 37 => 28 | 127 => 175 | 21 => 21 | 105 => 180 | 164 => 198 | 162 => 252 | 203 => 250 | 119 => 219 | 46 => 179 | 139 => 222 | 138 => 221 | 51 => 202 | 160 => 253 | 208 => 259 | 206 => 257 | 80 => 144 | n => n, fun | 13 => 8 | 3 => 1 | 4 => 2 | n => n⟩
theorem laysLow : Go.Proofs.Lays.n159 Tryz.prog laysLow_ren := {
 mixed := by kernel_rfl
 f118 := Tryz.func300.trans (congrArg some (by kernel_rfl))
 f159 := Tryz.func280.trans (congrArg some (by kernel_rfl))
 f165 := Tryz.func153.trans (congrArg some (by kernel_rfl))
 f166 := Tryz.func154.trans (congrArg some (by kernel_rfl))
 f167 := Tryz.func293.trans (congrArg some (by kernel_rfl))
 f168 := Tryz.func301.trans (congrArg some (by kernel_rfl))
 f169 := Tryz.func155.trans (congrArg some (by kernel_rfl))
 f197 := Tryz.func224.trans (congrArg some (by kernel_rfl))
 f204 := Tryz.func295.trans (congrArg some (by kernel_rfl))
 f230 := Tryz.func294.trans (congrArg some (by kernel_rfl))
 f240 := Tryz.func216.trans (congrArg some (by kernel_rfl))
 f241 := Tryz.func217.trans (congrArg some (by kernel_rfl))
 f242 := Tryz.func304.trans (congrArg some (by kernel_rfl))
 f260 := Tryz.func257.trans (congrArg some (by kernel_rfl))
 f262 := Tryz.func303.trans (congrArg some (by kernel_rfl))
 f270 := Tryz.func302.trans (congrArg some (by kernel_rfl))
 f274 := Tryz.func307.trans (congrArg some (by kernel_rfl))
 f275 := Tryz.func308.trans (congrArg some (by kernel_rfl))
 f276 := Tryz.func253.trans (congrArg some (by kernel_rfl))
 f277 := Tryz.func254.trans (congrArg some (by kernel_rfl))
 f278 := Tryz.func306.trans (congrArg some (by kernel_rfl))
 f313 := Tryz.func305.trans (congrArg some (by kernel_rfl))
 t0 := Tryz.underlying0
 a0 := Tryz.isAgg0
 z0 := Tryz.sizeOf0
 v0 := Tryz.zeroValue0
 t3 := Tryz.underlying3
 a3 := Tryz.isAgg3
 z3 := Tryz.sizeOf3
 v3 := Tryz.zeroValue3
 t4 := Tryz.underlying4
 a4 := Tryz.isAgg4
 z4 := Tryz.sizeOf4
 v4 := Tryz.zeroValue4
 t5 := Tryz.underlying5
 a5 := Tryz.isAgg5
 z5 := Tryz.sizeOf5
 v5 := Tryz.zeroValue5
 t9 := Tryz.underlying9
 a9 := Tryz.isAgg9
 z9 := Tryz.sizeOf9
 v9 := Tryz.zeroValue9
 t20 := Tryz.underlying20
 a20 := Tryz.isAgg20
 z20 := Tryz.sizeOf20
 v20 := Tryz.zeroValue20
 t21 := Tryz.underlying21
 a21 := Tryz.isAgg21
 z21 := Tryz.sizeOf21
 v21 := Tryz.zeroValue21
 t37 := Tryz.underlying28
 a37 := Tryz.isAgg28
 z37 := Tryz.sizeOf28
 v37 := Tryz.zeroValue28
 t46 := Tryz.underlying179
 a46 := Tryz.isAgg179
 z46 := Tryz.sizeOf179
 v46 := Tryz.zeroValue179
 t51 := Tryz.underlying202
 a51 := Tryz.isAgg202
 z51 := Tryz.sizeOf202
 v51 := Tryz.zeroValue202
 t70 := Tryz.underlying137
 a70 := Tryz.isAgg137
 z70 := Tryz.sizeOf137
 v70 := Tryz.zeroValue137
 t72 := Tryz.underlying139
 a72 := Tryz.isAgg139
 z72 := Tryz.sizeOf139
 v72 := Tryz.zeroValue139
 t75 := Tryz.underlying141
 a75 := Tryz.isAgg141
 z75 := Tryz.sizeOf141
 v75 := Tryz.zeroValue141
 t76 := Tryz.underlying142
 a76 := Tryz.isAgg142
 z76 := Tryz.sizeOf142
 v76 := Tryz.zeroValue142
 t105 := Tryz.underlying180
 a105 := Tryz.isAgg180
 z105 := Tryz.sizeOf180
 v105 := Tryz.zeroValue180
 t107 := Tryz.underlying238
 a107 := Tryz.isAgg238
 z107 := Tryz.sizeOf238
 v107 := Tryz.zeroValue238
 t119 := Tryz.underlying219
 a119 := Tryz.isAgg219
 z119 := Tryz.sizeOf219
 t127 := Tryz.underlying175
 a127 := Tryz.isAgg175
 z127 := Tryz.sizeOf175
 v127 := Tryz.zeroValue175
 t138 := Tryz.underlying221
 a138 := Tryz.isAgg221
 z138 := Tryz.sizeOf221
 v138 := Tryz.zeroValue221
 t139 := Tryz.underlying222
 a139 := Tryz.isAgg222
 z139 := Tryz.sizeOf222
 v139 := Tryz.zeroValue222
 t160 := Tryz.underlying253
 a160 := Tryz.isAgg253
 z160 := Tryz.sizeOf253
 v160 := Tryz.zeroValue253
 t162 := Tryz.underlying252
 a162 := Tryz.isAgg252
 z162 := Tryz.sizeOf252
 v162 := Tryz.zeroValue252
 t164 := Tryz.underlying198
 a164 := Tryz.isAgg198
 z164 := Tryz.sizeOf198
 v164 := Tryz.zeroValue198
 t203 := Tryz.underlying250
 a203 := Tryz.isAgg250
 z203 := Tryz.sizeOf250
 v203 := Tryz.zeroValue250
 t206 := Tryz.underlying257
 a206 := Tryz.isAgg257
 z206 := Tryz.sizeOf257
 v206 := Tryz.zeroValue257
 t208 := Tryz.underlying259
 a208 := Tryz.isAgg259
 z208 := Tryz.sizeOf259
 v208 := Tryz.zeroValue259
 g3 := by kernel_rfl
 g4 := by kernel_rfl
 g13 := by kernel_rfl }
def CTab (w : World) : Prop := Lib.CaseVar (laysLow_ren.g 13) caseA w
theorem CTab.below {w w' : World} (h : CTab w) (hb : Below w.heap.size w w') : CTab w' := CaseVar_below h hb
theorem lowX : Builder.Extra Tryz.prog laysLow_ren := {
 sizeBuilder := by kernel_rfl
 liesBuilder := by kernel_rfl
 t5 := Tryz.underlying5
 a5 := Tryz.isAgg5
 z5 := Tryz.sizeOf5
 v5 := Tryz.zeroValue5
 infoByte := by kernel_rfl
 cellsByte := by kernel_rfl
 sizeByte := by kernel_rfl
 neB5 := by decide }
theorem c_ToLower (s : ByteArray) (w : World) (hs : s.size < 35184372088832) (hV : CTab w) (hT : Tabs w) :
  Calls Tryz.prog 280 #[.string s] w fun e w' => e = .returned (.string ⟨(Lib.toLowerD s.data.toList).toArray⟩) /\ Below w.heap.size w w' :=
 Any.strings_ToLower_any laysLow lowX s w hs hV hT
theorem idx_hex (x : UInt8) : Lib.indexByte [48, 49, 50, 51, 52, 53, 54, 55, 56, 57, 97, 98, 99, 100, 101, 102] x = lowV (x.toNat : Int) := by
 have key : ∀ i : Fin 256, Lib.indexByte [48, 49, 50, 51, 52, 53, 54, 55, 56, 57, 97, 98, 99, 100, 101, 102] (UInt8.ofNat i.val) = lowV (i.val : Int) := by decide
 have := key ⟨x.toNat, x.toNat_lt⟩
 simpa using this
theorem c_IndexHex (x : UInt8) (w : World) : Calls Tryz.prog 130 #[.string { data := #[48, 49, 50, 51, 52, 53, 54, 55, 56, 57, 97, 98, 99, 100, 101, 102] }, .int .u8 x.toNat] w fun e w' => e = .returned (.int .i64 (lowV (x.toNat : Int))) /\ w = w' :=
 (c_strings_IndexByte _ x w).mono (fun _ _ h => ⟨h.1.trans (congrArg (fun z => Ending.returned (Value.int .i64 z)) (idx_hex x)), h.2⟩)
theorem extract_list (s : ByteArray) (i k : Nat) : (s.extract i (i + k)).data.toList = (s.data.toList.drop i).take k := by
 rw [ByteArray.data_extract, Array.toList_extract, List.extract_eq_take_drop]
 congr 1
 omega
theorem fourB_run (s : ByteArray) (i : Nat) (h : i + 4 <= s.size) : fourB s i = runL (toLowerD (s.extract i (i + 4)).data.toList) 0 := by
 unfold fourB
 rw [if_pos h, fourR_runH s 4 i 0 h, runL_lower, extract_list]
theorem runL_step (l : List UInt8) (j : Nat) (n : Int) (h : j < l.length) : runL (l.drop j) n = if lowV ((l.getD j 0).toNat : Int) < 0 then -1 else runL (l.drop (j + 1)) (16 * n + lowV ((l.getD j 0).toNat : Int)) := by
 rw [List.drop_eq_getElem_cons h]
 have : l.getD j 0 = l[j] := by simp [List.getD, h]
 rw [this]
 rfl
theorem runL_end (l : List UInt8) (n : Int) : runL (l.drop l.length) n = n := by rw [List.drop_length]; rfl
def fourV (s : ByteArray) (i : Nat) : Int := if fourB s i < 0 then 0 else fourB s i
def fourOk (s : ByteArray) (i : Nat) : Bool := decide (0 <= fourB s i)
theorem four_no {s : ByteArray} {i : Nat} (h : fourB s i < 0) : fourV s i = 0 /\ fourOk s i = false :=
 ⟨if_pos h, decide_eq_false (by omega)⟩
theorem four_yes {s : ByteArray} {i : Nat} {n : Int} (h : fourB s i = n) (hn : 0 <= n) : fourV s i = n /\ fourOk s i = true :=
 ⟨by unfold fourV; rw [if_neg (by omega), h], decide_eq_true (by omega)⟩
theorem c_impl_fourDigits (s : ByteArray) (i : Nat) (w : World) (hs : s.size <= 1048576) (hi : i <= 2097152) (hV : CTab w) (hT : Tabs w) :
  Calls Tryz.prog 262 #[.string s, .int .i64 i] w fun e w' => e = .returned (.tuple #[.int .i64 (fourV s i), .bool (fourOk s i)]) /\ Below w.heap.size w w' := by
 have kc := fun (w : World) (s : ByteArray) => Lib.run_convert_string_bytes (P := Tryz.prog) w 9 28 5 s (u := .string) Tryz.underlying9 Tryz.underlying28 Tryz.underlying5
 obtain ⟨p4, hp4⟩ : ∃ p, p = i + 4 := ⟨_, rfl⟩
 have hpe : (i : Int) + 4 = p4 := by omega
 have HP := hid hp4
 have HVT := hid (And.intro hV hT)
 clear hV hT
 by_cases hl : s.size < p4
 ·have Hf := hid (four_no (show fourB s i < 0 by unfold fourB; rw [if_neg (by omega)]; decide))
  have hl2 : (s.size : Int) - 4 < i := by omega
  clear hp4 hl
  go_enter Tryz.func262, Tryz.ntmps262
  go_wp2_with fail
  go_ret2
  exact ⟨by rw [Hf.out.1, Hf.out.2]; rfl, Below.refl _ _⟩
 ·have Hf := hid (show fourB s i = runL (toLowerD (s.extract i p4).data.toList) 0 by rw [hp4]; exact fourB_run s i (by omega))
  have hl2 : decide ((s.size : Int) - 4 < i) = false := decide_eq_false (by omega)
  have hl4 : (p4 : Int) <= s.size := by omega
  have hl5 : p4 <= s.size := by omega
  have hl6 : i <= p4 := by omega
  have hl7 : (i : Int) <= p4 := by omega
  have Hz := hid (show (s.extract i p4).data.toList.length = 4 by rw [Array.length_toList]; show (s.extract i p4).size = 4; rw [ByteArray.size_extract]; omega)
  clear hp4 hl
  go_enter Tryz.func262, Tryz.ntmps262
  go_wp2_with fail
  refine (c_ToLower _ _ (by simp; omega) HVT.out.1 HVT.out.2).mono ?_
  rintro e w1 ⟨rfl, hb⟩
  have HB := hid hb
  clear hb
  obtain ⟨L, hL⟩ : ∃ L : ByteArray, L = ⟨(toLowerD (s.extract i p4).data.toList).toArray⟩ := ⟨_, rfl⟩
  rw [<- hL]
  have hLl : L.data.toList = toLowerD (s.extract i p4).data.toList := by rw [hL]
  have hLs : L.size = L.data.toList.length := by rw [Array.length_toList]; rfl
  obtain ⟨p, hp, hq⟩ := lower_end (s.extract i p4).data.toList
  rw [Hz.out] at hp
  rw [<- hLl] at hq
  rw [<- hLs] at hq
  have HQ := hid hq
  have HLs := hid hLs
  have Hg := hid (show fourB s i = runL L.data.toList 0 by rw [Hf.out, hLl])
  clear hL hLl hLs hq
  go_wp2_with fail
  obtain ⟨W, hW⟩ : ∃ W, W = bytesWorld w1 5 L := ⟨_, rfl⟩
  rw [<- hW]
  have hB : ∀ t, t < L.size -> W.cell? ⟨w1.heap.size, t, none⟩ = some (.int .u8 (L.data.toList.getD t 0).toNat) := fun t ht => by rw [hW]; exact Lib.bytesWorld_cell w1 5 L t ht
  have HW := hid (show Below w.heap.size w W by
   rw [hW]
   exact HB.out.trans ⟨rfl, rfl, rfl, by rw [Lib.bytesWorld_size]; omega, fun j hj => Lib.bytesWorld_at_old w1 5 L j (Nat.lt_of_lt_of_le hj HB.out.size)⟩)
  have HBt := hid hB
  obtain ⟨g, hg⟩ : ∃ g, g = w1.heap.size := ⟨_, rfl⟩
  obtain ⟨cp, hcp⟩ : ∃ cp, cp = grownCap w1 L.size 0 5 := ⟨_, rfl⟩
  rw [<- hg, <- hcp]
  rw [<- hg] at HBt hB
  clear hW hB hg hcp HB kc
  go_loopw [6, 23] (fun s6 s23 wr => ∃ (j : Nat) (n : Int), j <= p /\ j <= L.size /\ s23 = .int .i64 j /\ s6 = .int .i64 n /\ 0 <= n /\ ((j = 0 -> n < 1) /\ (j = 1 -> n < 16) /\ (j = 2 -> n < 256) /\ (j = 3 -> n < 4096) /\ n < 65536) /\ fourB s i = runL (L.data.toList.drop j) n /\ wr = W) (fun _ s23 _ => L.size - (Lib.intOf s23).toNat)
  case atStart => exact ⟨0, 0, Nat.zero_le _, Nat.zero_le _, rfl, rfl, by omega, ⟨by omega, by omega, by omega, by omega, by omega⟩, Hg.out, rfl⟩
  case round =>
   obtain ⟨j, n, hjp, hjl, rfl, rfl, hn0, hnb, hrun, rfl⟩ := hrel
   have HRun := hid hrun
   have HNb := hid hnb
   have hn6 : n < 65536 := hnb.2.2.2.2
   clear hrun hnb
   by_cases hlt : (j : Int) < L.size
   ·have hjL : j < L.size := by omega
    have hc := HBt.out j hjL
    obtain ⟨x, hx⟩ : ∃ x, x = L.data.toList.getD j 0 := ⟨_, rfl⟩
    rw [<- hx] at hc
    obtain ⟨d, hd⟩ : ∃ d, d = lowV (x.toNat : Int) := ⟨_, rfl⟩
    have hdr := lowV_range (x.toNat : Int)
    rw [<- hd] at hdr
    obtain ⟨hd1, hd2⟩ := hdr
    have HStep := hid (show fourB s i = if d < 0 then -1 else runL (L.data.toList.drop (j + 1)) (16 * n + d) by
     rw [HRun.out, runL_step _ j n (by rw [<- HLs.out]; exact hjL), <- hx, <- hd])
    have HX := hid hx
    have HD := hid hd
    clear hx hd
    by_cases hneg : d < 0
    ·have Hf2 := hid (four_no (show fourB s i < 0 by rw [HStep.out, if_pos hneg]; decide))
     go_wp2_with fail
     refine (c_IndexHex x _).mono ?_
     rintro e w9 ⟨rfl, rfl⟩
     rw [<- HD.out]
     go_wp2_with fail
     go_ret2
     exact ⟨by rw [Hf2.out.1, Hf2.out.2]; rfl, HW.out⟩
    ·have hdd : decide (d < 0) = false := decide_eq_false hneg
     have hdp : 0 <= d := by omega
     have hjp2 : j < p := by
      rcases HQ.out with h | ⟨y, h1, h2⟩
      ·omega
      ·rcases Nat.lt_or_ge j p with h | h
       ·exact h
       ·exfalso
        obtain rfl : j = p := by omega
        have : L.data.toList.getD j 0 = y := by rw [List.getD, h1]; rfl
        rw [<- this, <- HX.out, <- HD.out] at h2
        exact hneg h2
     have hn4 : n < 4096 := by have := HNb.out; omega
     clear hneg hn6
     go_wp2_with fail
     refine (c_IndexHex x _).mono ?_
     rintro e w9 ⟨rfl, rfl⟩
     rw [<- HD.out]
     go_wp2_with fail
     go_roundw
     case rel => exact ⟨j + 1, 16 * n + d, by omega, by omega, by go_num, rfl, by omega, by have := HNb.out; omega, by rw [HStep.out, if_neg (by omega)], by first | rfl | exact True.intro⟩
     case measure => simp [Lib.intOf]; omega
   ·have hjL : j = L.size := by omega
    have Hf2 := hid (four_yes (show fourB s i = n by rw [HRun.out, hjL, HLs.out]; exact runL_end _ n) hn0)
    go_wp2_with fail
    go_ret2
    exact ⟨by rw [Hf2.out.1, Hf2.out.2]; rfl, HW.out⟩
def escI (b : Nat) : Int := if b = 98 then 0 else if b = 102 then 1 else if b = 110 then 2 else if b = 114 then 3 else if b = 116 then 4 else -1
theorem idx_esc : ∀ i : Fin 256, Lib.indexByte [98, 102, 110, 114, 116] (UInt8.ofNat i.val) = escI i.val := by decide
theorem c_IndexEsc (b : Nat) (hb : b < 256) (w : World) : Calls Tryz.prog 130 #[.string { data := #[98, 102, 110, 114, 116] }, .int .u8 b] w fun e w' => e = .returned (.int .i64 (escI b)) /\ w = w' := by
 have h := c_strings_IndexByte { data := #[98, 102, 110, 114, 116] } (UInt8.ofNat b) w
 have e1 : (UInt8.ofNat b).toNat = b := by rw [UInt8.toNat_ofNat']; exact Nat.mod_eq_of_lt hb
 rw [e1] at h
 exact h.mono (fun _ _ h => ⟨h.1.trans (congrArg (fun z => Ending.returned (Value.int .i64 z)) (idx_esc ⟨b, hb⟩)), h.2⟩)
theorem fourB_fits {s : ByteArray} {i : Nat} (h : 0 <= fourB s i) : i + 4 <= s.size := by
 unfold fourB at h
 split at h
 ·assumption
 ·omega
theorem c_impl_readEscape (s : ByteArray) (i : Nat) (w : World) (hs : s.size <= 1048576) (hi : i <= 1048577) (hV : CTab w) (hT : Tabs w) :
  Calls Tryz.prog 237 #[.string s, .int .i64 i] w fun e w' => e = .returned (.tuple #[.int .i64 (escB s i).1, .int .i64 (escB s i).2]) /\ Below w.heap.size w w' := by
 have HVT := hid (And.intro hV hT)
 clear hV hT
 by_cases hlt : (i : Int) < s.size
 ·have h0 : (0 : Int) <= i := by omega
  have h1 : decide ((s.size : Int) <= i) = false := decide_eq_false (by omega)
  have h2 : decide (s.size <= i) = false := decide_eq_false (by omega)
  have hii : i < s.size := by omega
  obtain ⟨b, hb⟩ : ∃ b : Nat, b = (s.get! i).toNat := ⟨_, rfl⟩
  have hx : (s[i]'hii).toNat = b := by rw [hb]; exact get_at s i hii
  have hb2 : (b : Int) < 256 := by have := (s.get! i).toNat_lt; omega
  have hby : byteI s i = b := by unfold byteI; rw [hb]
  clear hb
  have HE := hid (show escB s i = _ from if_pos hii)
  rw [hby] at HE
  have Hii := hid hii
  have HE0 := hid HE.out
  clear HE
  by_cases e34 : (b : Int) = 34
  ·have Hf := hid (show escB s i = ((b : Int), (i : Int) + 1) by rw [HE0.out, if_pos (by omega)])
   obtain rfl : b = 34 := by omega
   clear e34
   go_enter Tryz.func237, Tryz.ntmps237
   go_wp2_with fail
   go_ret2
   exact ⟨by rw [Hf.out]; rfl, Below.refl _ _⟩
  ·have f34 : ((b : Int) == 34) = false := beq_eq_false_iff_ne.2 e34
   by_cases e92 : (b : Int) = 92
   ·have Hf := hid (show escB s i = ((b : Int), (i : Int) + 1) by rw [HE0.out, if_pos (by omega)])
    obtain rfl : b = 92 := by omega
    clear e92
    go_enter Tryz.func237, Tryz.ntmps237
    go_wp2_with fail
    go_ret2
    exact ⟨by rw [Hf.out]; rfl, Below.refl _ _⟩
   ·have f92 : ((b : Int) == 92) = false := beq_eq_false_iff_ne.2 e92
    by_cases e47 : (b : Int) = 47
    ·have Hf := hid (show escB s i = ((b : Int), (i : Int) + 1) by rw [HE0.out, if_pos (by omega)])
     obtain rfl : b = 47 := by omega
     clear e47
     go_enter Tryz.func237, Tryz.ntmps237
     go_wp2_with fail
     go_ret2
     exact ⟨by rw [Hf.out]; rfl, Below.refl _ _⟩
    ·have f47 : ((b : Int) == 47) = false := beq_eq_false_iff_ne.2 e47
     by_cases e98 : (b : Int) = 98
     ·have Hf := hid (show escB s i = (8, (i : Int) + 1) by rw [HE0.out, if_neg (by omega), if_pos e98])
      obtain rfl : b = 98 := by omega
      clear e98
      have hk : (({ data := #[8, 12, 10, 13, 9] } : ByteArray)[0]'(by decide)).toNat = 8 := rfl
      go_enter Tryz.func237, Tryz.ntmps237
      go_wp2_with fail
      refine (c_IndexEsc 98 (by omega) _).mono ?_
      rintro e w9 ⟨rfl, rfl⟩
      rw [show escI 98 = 0 from rfl]
      go_wp2_with fail
      go_ret2
      exact ⟨by rw [Hf.out]; rfl, Below.refl _ _⟩
     ·have f98 : ((b : Int) == 98) = false := beq_eq_false_iff_ne.2 e98
      by_cases e102 : (b : Int) = 102
      ·have Hf := hid (show escB s i = (12, (i : Int) + 1) by rw [HE0.out, if_neg (by omega), if_neg (by omega), if_pos e102])
       obtain rfl : b = 102 := by omega
       clear e102
       have hk : (({ data := #[8, 12, 10, 13, 9] } : ByteArray)[1]'(by decide)).toNat = 12 := rfl
       go_enter Tryz.func237, Tryz.ntmps237
       go_wp2_with fail
       refine (c_IndexEsc 102 (by omega) _).mono ?_
       rintro e w9 ⟨rfl, rfl⟩
       rw [show escI 102 = 1 from rfl]
       go_wp2_with fail
       go_ret2
       exact ⟨by rw [Hf.out]; rfl, Below.refl _ _⟩
      ·have f102 : ((b : Int) == 102) = false := beq_eq_false_iff_ne.2 e102
       by_cases e110 : (b : Int) = 110
       ·have Hf := hid (show escB s i = (10, (i : Int) + 1) by rw [HE0.out, if_neg (by omega), if_neg (by omega), if_neg (by omega), if_pos e110])
        obtain rfl : b = 110 := by omega
        clear e110
        have hk : (({ data := #[8, 12, 10, 13, 9] } : ByteArray)[2]'(by decide)).toNat = 10 := rfl
        go_enter Tryz.func237, Tryz.ntmps237
        go_wp2_with fail
        refine (c_IndexEsc 110 (by omega) _).mono ?_
        rintro e w9 ⟨rfl, rfl⟩
        rw [show escI 110 = 2 from rfl]
        go_wp2_with fail
        go_ret2
        exact ⟨by rw [Hf.out]; rfl, Below.refl _ _⟩
       ·have f110 : ((b : Int) == 110) = false := beq_eq_false_iff_ne.2 e110
        by_cases e114 : (b : Int) = 114
        ·have Hf := hid (show escB s i = (13, (i : Int) + 1) by rw [HE0.out, if_neg (by omega), if_neg (by omega), if_neg (by omega), if_neg (by omega), if_pos e114])
         obtain rfl : b = 114 := by omega
         clear e114
         have hk : (({ data := #[8, 12, 10, 13, 9] } : ByteArray)[3]'(by decide)).toNat = 13 := rfl
         go_enter Tryz.func237, Tryz.ntmps237
         go_wp2_with fail
         refine (c_IndexEsc 114 (by omega) _).mono ?_
         rintro e w9 ⟨rfl, rfl⟩
         rw [show escI 114 = 3 from rfl]
         go_wp2_with fail
         go_ret2
         exact ⟨by rw [Hf.out]; rfl, Below.refl _ _⟩
        ·have f114 : ((b : Int) == 114) = false := beq_eq_false_iff_ne.2 e114
         by_cases e116 : (b : Int) = 116
         ·have Hf := hid (show escB s i = (9, (i : Int) + 1) by rw [HE0.out, if_neg (by omega), if_neg (by omega), if_neg (by omega), if_neg (by omega), if_neg (by omega), if_pos e116])
          obtain rfl : b = 116 := by omega
          clear e116
          have hk : (({ data := #[8, 12, 10, 13, 9] } : ByteArray)[4]'(by decide)).toNat = 9 := rfl
          go_enter Tryz.func237, Tryz.ntmps237
          go_wp2_with fail
          refine (c_IndexEsc 116 (by omega) _).mono ?_
          rintro e w9 ⟨rfl, rfl⟩
          rw [show escI 116 = 4 from rfl]
          go_wp2_with fail
          go_ret2
          exact ⟨by rw [Hf.out]; rfl, Below.refl _ _⟩
         ·have f116 : ((b : Int) == 116) = false := beq_eq_false_iff_ne.2 e116
          obtain ⟨p1, hp1⟩ : ∃ p, p = i + 1 := ⟨_, rfl⟩
          have q1 : (i : Int) + 1 = p1 := by omega
          have HP1 := hid hp1
          obtain ⟨p5, hp5⟩ : ∃ p, p = i + 5 := ⟨_, rfl⟩
          have q5 : (i : Int) + 5 = p5 := by omega
          have HP5 := hid hp5
          obtain ⟨p6, hp6⟩ : ∃ p, p = i + 6 := ⟨_, rfl⟩
          have q6 : (i : Int) + 6 = p6 := by omega
          have HP6 := hid hp6
          obtain ⟨p7, hp7⟩ : ∃ p, p = i + 7 := ⟨_, rfl⟩
          have q7 : (i : Int) + 7 = p7 := by omega
          have HP7 := hid hp7
          obtain ⟨p11, hp11⟩ : ∃ p, p = i + 11 := ⟨_, rfl⟩
          have q11 : (i : Int) + 11 = p11 := by omega
          have HP11 := hid hp11
          have hpb : (p11 : Int) <= 1048588 := by omega
          have hpc : (p7 : Int) <= 1048588 := by omega
          have hpd : (p1 : Int) <= 1048588 := by omega
          clear hp1 hp5 hp6 hp7 hp11
          have HIX := hid (show escI b = -1 by unfold escI; rw [if_neg (by omega), if_neg (by omega), if_neg (by omega), if_neg (by omega), if_neg (by omega)])
          by_cases e117 : (b : Int) = 117
          ·have HU := hid (show escB s i = _ by rw [HE0.out, if_neg (by omega), if_neg (by omega), if_neg (by omega), if_neg (by omega), if_neg (by omega), if_neg (by omega), if_pos e117])
           obtain rfl : b = 117 := by omega
           clear e117 HIX e34 e92 e47 e98 e102 e110 e114 e116 f34 f92 f47 f98 f102 f110 f114 f116
           obtain ⟨n, hn⟩ : ∃ n, n = fourB s p1 := ⟨_, rfl⟩
           have hnr := fourB_range s p1
           rw [<- hn] at hnr
           obtain ⟨hn1, hn2⟩ := hnr
           have HN := hid hn
           clear hn
           by_cases n0 : n < 0
           ·have Hf := hid (show escB s i = (0, -1) by rw [HU.out, <- HP1.out, <- HN.out]; exact if_pos (.inl n0))
            have H4 := hid (four_no (show fourB s p1 < 0 by rw [<- HN.out]; exact n0))
            go_enter Tryz.func237, Tryz.ntmps237
            go_wp2_with fail
            refine (c_IndexEsc 117 (by omega) _).mono ?_
            rintro e w9 ⟨rfl, rfl⟩
            rw [show escI 117 = -1 from rfl]
            go_wp2_with fail
            refine (c_impl_fourDigits s p1 _ hs (by omega) HVT.out.1 HVT.out.2).mono ?_
            rintro e w1 ⟨rfl, hb1⟩
            have HB1 := hid hb1
            clear hb1
            rw [H4.out.1, H4.out.2]
            go_wp2_with fail
            go_ret2
            exact ⟨by rw [Hf.out]; rfl, HB1.out⟩
           ·have d0 : decide (n < 0) = false := decide_eq_false n0
            have hn0 : 0 <= n := by omega
            have H4 := hid (four_yes HN.out.symm hn0)
            rcases hB : inB n 56320 57343 with _ | _
            ·rcases hC : inB n 55296 56319 with _ | _
             ·have Hf := hid (show escB s i = (n, (p5 : Int)) by rw [HU.out, <- HP1.out, <- HN.out]; rw [<- q5]; exact (if_neg (by rintro (h | h); exact n0 h; rw [hB] at h; exact absurd h (by decide))).trans (if_pos hC))
              clear n0
              go_enter Tryz.func237, Tryz.ntmps237
              go_wp2_with fail
              refine (c_IndexEsc 117 (by omega) _).mono ?_
              rintro e w9 ⟨rfl, rfl⟩
              rw [show escI 117 = -1 from rfl]
              go_wp2_with fail
              refine (c_impl_fourDigits s p1 _ hs (by omega) HVT.out.1 HVT.out.2).mono ?_
              rintro e w1 ⟨rfl, hb1⟩
              have HB1 := hid hb1
              clear hb1
              rw [H4.out.1, H4.out.2]
              go_wp2_with (first | (go_at_call 63; refine (c_impl_within _ _ _ _).mono ?_; rintro e w' ⟨rfl, rfl⟩))
              go_ret2
              exact ⟨by rw [Hf.out]; rfl, HB1.out⟩
             ·have HV := hid (show escB s i = (if s.size < p7 ∨ byteI s p5 ≠ 92 ∨ byteI s p6 ≠ 117 then (0, -1) else if inB (fourB s p7) 56320 57343 = true then (65536 + 1024 * (n - 55296) + fourB s p7 - 56320, (p11 : Int)) else (0, -1)) by rw [HU.out, <- HP1.out, <- HN.out]; rw [<- HP5.out, <- HP6.out, <- HP7.out, q11]; exact (if_neg (by rintro (h | h); exact n0 h; rw [hB] at h; exact absurd h (by decide))).trans (if_neg (by rw [hC]; decide)))
              clear n0
              have hnC : 55296 <= n /\ n <= 56319 := by unfold inB at hC; simpa using hC
              obtain ⟨hnC1, hnC2⟩ := hnC
              obtain ⟨m, hm⟩ : ∃ m, m = fourB s p7 := ⟨_, rfl⟩
              have hmr := fourB_range s p7
              rw [<- hm] at hmr
              obtain ⟨hm1, hm2⟩ := hmr
              have HM := hid hm
              clear hm
              by_cases m0 : m < 0
              ·have H7 := hid (four_no (show fourB s p7 < 0 by rw [<- HM.out]; exact m0))
               have Hf := hid (show escB s i = (0, -1) by rw [HV.out, <- HM.out]; split; rfl; exact if_neg (by unfold inB; rw [decide_eq_false (by omega)]; decide))
               go_enter Tryz.func237, Tryz.ntmps237
               go_wp2_with fail
               refine (c_IndexEsc 117 (by omega) _).mono ?_
               rintro e w9 ⟨rfl, rfl⟩
               rw [show escI 117 = -1 from rfl]
               go_wp2_with fail
               refine (c_impl_fourDigits s p1 _ hs (by omega) HVT.out.1 HVT.out.2).mono ?_
               rintro e w1 ⟨rfl, hb1⟩
               have HB1 := hid hb1
               clear hb1
               rw [H4.out.1, H4.out.2]
               go_wp2_with (first | (go_at_call 63; refine (c_impl_within _ _ _ _).mono ?_; rintro e w' ⟨rfl, rfl⟩))
               refine (c_impl_fourDigits s p7 _ hs (by omega) (HVT.out.1.below HB1.out) (HVT.out.2.below HB1.out)).mono ?_
               rintro e w2 ⟨rfl, hb2⟩
               have HB2 := hid (HB1.out.trans (hb2.mono HB1.out.size))
               clear hb2
               rw [H7.out.1, H7.out.2]
               go_wp2_with fail
               go_ret2
               exact ⟨by rw [Hf.out]; rfl, HB2.out⟩
              ·have hm0 : 0 <= m := by omega
               have H7 := hid (four_yes HM.out.symm hm0)
               have hfit := fourB_fits (show 0 <= fourB s p7 by rw [<- HM.out]; exact hm0)
               have g5 : p5 < s.size := by have := HP7.out; have := HP5.out; omega
               have g6 : p6 < s.size := by have := HP7.out; have := HP6.out; omega
               have g7 : ¬ s.size < p7 := by omega
               have gi5 : (p5 : Int) < s.size := by omega
               have gi6 : (p6 : Int) < s.size := by omega
               obtain ⟨b5, hb5⟩ : ∃ b : Nat, b = (s.get! p5).toNat := ⟨_, rfl⟩
               have hx5 : (s[p5]'g5).toNat = b5 := by rw [hb5]; exact get_at s p5 g5
               obtain ⟨b6, hb6⟩ : ∃ b : Nat, b = (s.get! p6).toNat := ⟨_, rfl⟩
               have hx6 : (s[p6]'g6).toNat = b6 := by rw [hb6]; exact get_at s p6 g6
               have h5b : (b5 : Int) < 256 := by have := (s.get! p5).toNat_lt; omega
               have h6b : (b6 : Int) < 256 := by have := (s.get! p6).toNat_lt; omega
               have HB5 := hid (show byteI s p5 = b5 by unfold byteI; rw [hb5])
               have HB6 := hid (show byteI s p6 = b6 by unfold byteI; rw [hb6])
               have HD := hid g7
               clear hb5 hb6 g7 hfit m0
               by_cases e5 : (b5 : Int) = 92
               ·obtain rfl : b5 = 92 := by omega
                clear e5
                by_cases e6 : (b6 : Int) = 117
                ·obtain rfl : b6 = 117 := by omega
                 clear e6
                 have HW := hid (show escB s i = (if inB m 56320 57343 = true then (65536 + 1024 * (n - 55296) + m - 56320, (p11 : Int)) else (0, -1)) by rw [HV.out, <- HM.out]; exact if_neg (by rintro (h | h | h); exact HD.out h; exact h HB5.out; exact h HB6.out))
                 rcases hG : inB m 56320 57343 with _ | _
                 ·have Hf := hid (show escB s i = (0, -1) by rw [HW.out]; exact if_neg (by rw [hG]; decide))
                  go_enter Tryz.func237, Tryz.ntmps237
                  go_wp2_with fail
                  refine (c_IndexEsc 117 (by omega) _).mono ?_
                  rintro e w9 ⟨rfl, rfl⟩
                  rw [show escI 117 = -1 from rfl]
                  go_wp2_with fail
                  refine (c_impl_fourDigits s p1 _ hs (by omega) HVT.out.1 HVT.out.2).mono ?_
                  rintro e w1 ⟨rfl, hb1⟩
                  have HB1 := hid hb1
                  clear hb1
                  rw [H4.out.1, H4.out.2]
                  go_wp2_with (first | (go_at_call 63; refine (c_impl_within _ _ _ _).mono ?_; rintro e w' ⟨rfl, rfl⟩))
                  refine (c_impl_fourDigits s p7 _ hs (by omega) (HVT.out.1.below HB1.out) (HVT.out.2.below HB1.out)).mono ?_
                  rintro e w2 ⟨rfl, hb2⟩
                  have HB2 := hid (HB1.out.trans (hb2.mono HB1.out.size))
                  clear hb2
                  rw [H7.out.1, H7.out.2]
                  go_wp2_with (first | (go_at_call 63; refine (c_impl_within _ _ _ _).mono ?_; rintro e w' ⟨rfl, rfl⟩))
                  go_ret2
                  exact ⟨by rw [Hf.out]; rfl, HB2.out⟩
                 ·have hmi : 56320 <= m /\ m <= 57343 := by unfold inB at hG; simpa using hG
                  have Hf := hid (show escB s i = (65536 + 1024 * (n - 55296) + (m - 56320), (p11 : Int)) by rw [HW.out, if_pos hG]; congr 1; omega)
                  obtain ⟨hmi1, hmi2⟩ := hmi
                  go_enter Tryz.func237, Tryz.ntmps237
                  go_wp2_with fail
                  refine (c_IndexEsc 117 (by omega) _).mono ?_
                  rintro e w9 ⟨rfl, rfl⟩
                  rw [show escI 117 = -1 from rfl]
                  go_wp2_with fail
                  refine (c_impl_fourDigits s p1 _ hs (by omega) HVT.out.1 HVT.out.2).mono ?_
                  rintro e w1 ⟨rfl, hb1⟩
                  have HB1 := hid hb1
                  clear hb1
                  rw [H4.out.1, H4.out.2]
                  go_wp2_with (first | (go_at_call 63; refine (c_impl_within _ _ _ _).mono ?_; rintro e w' ⟨rfl, rfl⟩))
                  refine (c_impl_fourDigits s p7 _ hs (by omega) (HVT.out.1.below HB1.out) (HVT.out.2.below HB1.out)).mono ?_
                  rintro e w2 ⟨rfl, hb2⟩
                  have HB2 := hid (HB1.out.trans (hb2.mono HB1.out.size))
                  clear hb2
                  rw [H7.out.1, H7.out.2]
                  go_wp2_with (first | (go_at_call 63; refine (c_impl_within _ _ _ _).mono ?_; rintro e w' ⟨rfl, rfl⟩))
                  go_ret2
                  exact ⟨by rw [Hf.out]; rfl, HB2.out⟩
                ·have f6 : ((b6 : Int) == 117) = false := beq_eq_false_iff_ne.2 e6
                 have n6 : ((b6 : Int) != 117) = true := bne_iff_ne.2 e6
                 have Hf := hid (show escB s i = (0, -1) by rw [HV.out]; exact if_pos (.inr (.inr (by rw [HB6.out]; exact e6))))
                 clear e6
                 go_enter Tryz.func237, Tryz.ntmps237
                 go_wp2_with fail
                 refine (c_IndexEsc 117 (by omega) _).mono ?_
                 rintro e w9 ⟨rfl, rfl⟩
                 rw [show escI 117 = -1 from rfl]
                 go_wp2_with fail
                 refine (c_impl_fourDigits s p1 _ hs (by omega) HVT.out.1 HVT.out.2).mono ?_
                 rintro e w1 ⟨rfl, hb1⟩
                 have HB1 := hid hb1
                 clear hb1
                 rw [H4.out.1, H4.out.2]
                 go_wp2_with (first | (go_at_call 63; refine (c_impl_within _ _ _ _).mono ?_; rintro e w' ⟨rfl, rfl⟩))
                 refine (c_impl_fourDigits s p7 _ hs (by omega) (HVT.out.1.below HB1.out) (HVT.out.2.below HB1.out)).mono ?_
                 rintro e w2 ⟨rfl, hb2⟩
                 have HB2 := hid (HB1.out.trans (hb2.mono HB1.out.size))
                 clear hb2
                 rw [H7.out.1, H7.out.2]
                 go_wp2_with fail
                 go_ret2
                 exact ⟨by rw [Hf.out]; rfl, HB2.out⟩
               ·have f5 : ((b5 : Int) == 92) = false := beq_eq_false_iff_ne.2 e5
                have n5 : ((b5 : Int) != 92) = true := bne_iff_ne.2 e5
                have Hf := hid (show escB s i = (0, -1) by rw [HV.out]; exact if_pos (.inr (.inl (by rw [HB5.out]; exact e5))))
                clear e5
                go_enter Tryz.func237, Tryz.ntmps237
                go_wp2_with fail
                refine (c_IndexEsc 117 (by omega) _).mono ?_
                rintro e w9 ⟨rfl, rfl⟩
                rw [show escI 117 = -1 from rfl]
                go_wp2_with fail
                refine (c_impl_fourDigits s p1 _ hs (by omega) HVT.out.1 HVT.out.2).mono ?_
                rintro e w1 ⟨rfl, hb1⟩
                have HB1 := hid hb1
                clear hb1
                rw [H4.out.1, H4.out.2]
                go_wp2_with (first | (go_at_call 63; refine (c_impl_within _ _ _ _).mono ?_; rintro e w' ⟨rfl, rfl⟩))
                refine (c_impl_fourDigits s p7 _ hs (by omega) (HVT.out.1.below HB1.out) (HVT.out.2.below HB1.out)).mono ?_
                rintro e w2 ⟨rfl, hb2⟩
                have HB2 := hid (HB1.out.trans (hb2.mono HB1.out.size))
                clear hb2
                rw [H7.out.1, H7.out.2]
                go_wp2_with fail
                go_ret2
                exact ⟨by rw [Hf.out]; rfl, HB2.out⟩
            ·have Hf := hid (show escB s i = (0, -1) by rw [HU.out, <- HP1.out, <- HN.out]; exact if_pos (.inr hB))
             clear n0
             go_enter Tryz.func237, Tryz.ntmps237
             go_wp2_with fail
             refine (c_IndexEsc 117 (by omega) _).mono ?_
             rintro e w9 ⟨rfl, rfl⟩
             rw [show escI 117 = -1 from rfl]
             go_wp2_with fail
             refine (c_impl_fourDigits s p1 _ hs (by omega) HVT.out.1 HVT.out.2).mono ?_
             rintro e w1 ⟨rfl, hb1⟩
             have HB1 := hid hb1
             clear hb1
             rw [H4.out.1, H4.out.2]
             go_wp2_with (first | (go_at_call 63; refine (c_impl_within _ _ _ _).mono ?_; rintro e w' ⟨rfl, rfl⟩))
             go_ret2
             exact ⟨by rw [Hf.out]; rfl, HB1.out⟩
          ·have Hf := hid (show escB s i = (0, -1) by rw [HE0.out, if_neg (by omega), if_neg (by omega), if_neg (by omega), if_neg (by omega), if_neg (by omega), if_neg (by omega), if_neg e117])
           have f117 : ((b : Int) == 117) = false := beq_eq_false_iff_ne.2 e117
           have n117 : ((b : Int) != 117) = true := bne_iff_ne.2 e117
           clear e117 e34 e92 e47 e98 e102 e110 e114 e116
           go_enter Tryz.func237, Tryz.ntmps237
           go_wp2_with fail
           refine (c_IndexEsc b (by omega) _).mono ?_
           rintro e w9 ⟨rfl, rfl⟩
           rw [show escI b = -1 from HIX.out]
           go_wp2_with fail
           refine (c_impl_fourDigits s p1 _ hs (by omega) HVT.out.1 HVT.out.2).mono ?_
           rintro e w1 ⟨rfl, hb1⟩
           have HB1 := hid hb1
           clear hb1
           go_wp2_with fail
           go_ret2
           exact ⟨by rw [Hf.out]; rfl, HB1.out⟩
 ·have Hf := hid (show escB s i = (0, -1) by unfold escB; rw [if_neg (by omega)])
  go_enter Tryz.func237, Tryz.ntmps237
  go_wp2_with fail
  go_ret2
  exact ⟨by rw [Hf.out]; rfl, Below.refl _ _⟩
end Go.Proofs.YtohcpifekcehjaaGreatDoor
