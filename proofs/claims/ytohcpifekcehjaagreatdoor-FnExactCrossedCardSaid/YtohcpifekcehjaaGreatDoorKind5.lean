/- Steps to FnExactIndentedOk and FnExactIndentedNormal and FnExactCrossed. No conditions. -/
import Derived.Test.YtohcpifekcehjaaGreatDoorKind4
import Derived.Test.YtohcpifekcehjaaGreatDoorKind1
import Derived.Test.YtohcpifekcehjaaGreatDoorKind2
import Derived.Deep.AppendLies
import Derived.OwnWalk
import Derived.Test.YtohcpifekcehjaaGreatDoorKind3
import Derived.Deep.CutRange
import Derived.Deep.RegionHeld3
set_option maxHeartbeats 16000000
set_option maxRecDepth 20000
namespace Go.Proofs.YtohcpifekcehjaaGreatDoor
open Go.RowKit Go.Lib
theorem fig_nat (x : Nat) (h : x < 16) : ((figU x).toNat : Int) = if x < 10 then 48 + (x : Int) else 87 + (x : Int) := by
 have h16 : x = 0 ∨ x = 1 ∨ x = 2 ∨ x = 3 ∨ x = 4 ∨ x = 5 ∨ x = 6 ∨ x = 7 ∨ x = 8 ∨ x = 9 ∨ x = 10 ∨ x = 11 ∨ x = 12 ∨ x = 13 ∨ x = 14 ∨ x = 15 := by omega
 rcases h16 with rfl | rfl | rfl | rfl | rfl | rfl | rfl | rfl | rfl | rfl | rfl | rfl | rfl | rfl | rfl | rfl <;> rfl
theorem c_figure16 (x : Nat) (w : World) (h : x < 16) : Calls Tryz.prog 218 #[.int .i64 (x : Nat)] w fun e w' => e = .returned (.int .u8 ((figU x).toNat : Nat)) /\ w = w' := by
 have hf := fig_nat x h
 by_cases h10 : x < 10
 ·rw [if_pos h10] at hf
  have HF := hid hf
  have d1 : decide ((x : Int) < 10) = true := decide_eq_true (by omega)
  have d2 : decide (x < 10) = true := decide_eq_true h10
  clear hf h10
  go_enter Tryz.func218, Tryz.ntmps218
  go_wp2_with fail
  go_ret
  exact ⟨by rw [HF.out]; go_num, rfl⟩
 ·rw [if_neg h10] at hf
  have HF := hid hf
  have d1 : decide ((x : Int) < 10) = false := decide_eq_false (by omega)
  have d2 : decide (x < 10) = false := decide_eq_false h10
  clear hf h10
  go_enter Tryz.func218, Tryz.ntmps218
  go_wp2_with fail
  go_ret
  exact ⟨by rw [HF.out]; go_num, rfl⟩
theorem text_low {r : Nat} (h : r < 128) : (textB r).data.toList = [UInt8.ofNat r] := by
 refine text_eq ?_
 unfold encN4
 rw [if_neg (by omega), if_pos h]
 simp [Nat.mod_eq_of_lt (show r < 256 by omega)]
theorem qR_plain {r : Nat} (h0 : ¬ (r = 34 ∨ r = 92)) (h1 : ¬ r < 32) : qR r = (textB r).data.toList := by
 unfold qR
 by_cases h : r < 128
 ·rw [if_pos h, text_low h]
  unfold qN
  rw [if_neg h0, if_neg (by omega), if_neg (by omega), if_neg (by omega), if_neg (by omega), if_neg (by omega), if_neg h1]
 ·rw [if_neg h]
theorem qR_low {r : Nat} (h : r < 128) : qR r = qN r := by unfold qR; rw [if_pos h]
theorem rune_bound {s : ByteArray} : ∀ (f i : Nat) (rs : List Nat), s.size - i <= f -> runesAt s i = some rs -> rs.length + i <= s.size ∨ rs = []
 | f, i, rs, hf, h => by
  by_cases hi : i < s.size
  ·by_cases hd : Utf8.decode s i = (65533, 1)
   ·rw [runesAt_bad hi hd] at h; cases h
   ·rw [runesAt_step hi hd] at h
    have hk := decode_fits s i hi
    rcases hr : runesAt s (i + (Utf8.decode s i).2) with _ | rs'
    ·rw [hr] at h; cases h
    ·rw [hr] at h
     obtain rfl := Option.some.inj h
     cases f with
     | zero => omega
     | succ f =>
      rcases rune_bound f (i + (Utf8.decode s i).2) rs' (by omega) hr with h1 | rfl
      ·exact .inl (by simp only [List.length_cons]; omega)
      ·exact .inl (by simp only [List.length_cons, List.length_nil]; omega)
  ·rw [runesAt_end hi] at h
   exact .inr (Option.some.inj h).symm
theorem rune_max {s : ByteArray} : ∀ (f i : Nat) (rs : List Nat), s.size - i <= f -> runesAt s i = some rs -> ∀ r ∈ rs, r <= 1114111
 | f, i, rs, hf, h => by
  by_cases hi : i < s.size
  ·by_cases hd : Utf8.decode s i = (65533, 1)
   ·rw [runesAt_bad hi hd] at h; cases h
   ·rw [runesAt_step hi hd] at h
    have hk := decode_fits s i hi
    rcases hr : runesAt s (i + (Utf8.decode s i).2) with _ | rs'
    ·rw [hr] at h; cases h
    ·rw [hr] at h
     obtain rfl := Option.some.inj h
     cases f with
     | zero => omega
     | succ f =>
      intro r hrr
      rcases List.mem_cons.1 hrr with rfl | hrr
      ·omega
      ·exact rune_max f (i + (Utf8.decode s i).2) rs' (by omega) hr r hrr
  ·rw [runesAt_end hi] at h
   obtain rfl := Option.some.inj h
   intro r hrr
   cases hrr
theorem take_flatR {rs : List Nat} {k r : Nat} (h : rs[k]? = some r) : (rs.take (k + 1)).flatMap qR = (rs.take k).flatMap qR ++ qR r := by
 rw [List.take_add_one, h]
 simp
theorem c_spec_Quoted (s : ByteArray) (w : World) (hs : s.size <= 1048576) :
  Calls Tryz.prog 161 #[.string s] w fun e w' => e = .returned (.string (quoteB s)) /\ Below w.heap.size w w' := by
 obtain ⟨i0, hi, hz0, hz1, hz2⟩ := info_parts (show (Tryz.prog.info? 5).map (fun i => (i.zero, i.size, i.bytes)) = some (some (.int .u8 0), 1, 1) from by kernel_rfl)
 have HU := hid (c_spec_RunesOf s w hs)
 obtain ⟨r, hr⟩ : ∃ r, r = quoteB s := ⟨_, rfl⟩
 rw [<- hr]
 rcases hu : runesAt s 0 with _ | rs
 ·have HR := hid (show r = ⟨#[]⟩ by rw [hr]; exact quoteB_none hu)
  have hub : utf8B s = false := by unfold utf8B; rw [hu]; rfl
  clear hr hu
  go_enter Tryz.func161, Tryz.ntmps161
  go_wp2_with fail
  refine HU.out.mono ?_
  rintro e w1 ⟨M, A, c, rfl, -, -, hb1⟩
  rw [hub]
  go_wp2_with fail
  go_ret
  exact ⟨by rw [HR.out]; rfl, hb1⟩
 ·have HR := hid (show r = ⟨(34 :: rs.flatMap qR ++ [34]).toArray⟩ by rw [hr]; exact quoteB_runes hu)
  have hub : utf8B s = true := by unfold utf8B; rw [hu]; rfl
  have hbd := rune_bound s.size 0 rs (by omega) hu
  have hlen : rs.length <= 1048576 := by
   rcases hbd with h | h
   ·omega
   ·rw [h]; exact Nat.zero_le _
  have HMx := hid (rune_max s.size 0 rs (by omega) hu)
  have HRS := hid hu
  clear hr hu hbd
  go_enter Tryz.func161, Tryz.ntmps161
  go_wp2_with fail
  refine HU.out.mono ?_
  rintro e w1 ⟨M0, A0, c0, rfl, hM0, hrow, hb1⟩
  obtain rfl := hM0 rs HRS.out
  rw [hub]
  have HRow := hid hrow
  have HB1 := hid hb1
  have hs1 := hb1.size
  clear hrow hb1 hM0
  go_wp2_with fail
  go_loopw [5, 6] (fun s5 v wr => ∃ (k : Nat) (M : List UInt8) (A : Option Addr) (n c : Nat), k <= M0.length /\ v = .int .i64 k /\ M = 34 :: (M0.take k).flatMap qR /\ n = M.length /\ n <= 6 * k + 1 /\ s5 = .slice A n c /\ BufB w1.heap.size wr M (.slice A n c) /\ Below w1.heap.size w1 wr) (fun _ v _ => M0.length - (Lib.intOf v).toNat)
  case atStart => exact ⟨0, [34], some ⟨w1.heap.size, 0, none⟩, 1, 1, Nat.zero_le _, rfl, rfl, rfl, by omega, rfl, own_lit (bs := [34]) (k := 1) rfl (by decide) rfl, bel⟩
  case round =>
   obtain ⟨k, M, A, n, c, hk, rfl, hM, hn, hn6, rfl, hbuf, hbr⟩ := hrel
   have HM := hid hM
   have HN := hid hn
   have HBf := hid hbuf
   have HBr := hid hbr
   have hws := hbr.size
   clear hM hn hbuf hbr
   by_cases hlt : k < M0.length
   ·have hk0 : (0 : Int) <= k := by omega
    have hk1 : (k : Int) < M0.length := by omega
    obtain ⟨x, hx⟩ := exists_at hlt
    obtain ⟨g, cap, cur, hv, -, hg, g1, g2, -, g4⟩ := RowE.row encZ_len (HRow.out.below HBr.out) (by rw [zs_len]; omega)
    rw [zs_len] at hv
    simp only [Value.slice.injEq] at hv
    obtain ⟨rfl, -, rfl⟩ := hv
    have hc0 : wr.cell? ⟨g, k, none⟩ = some (.int .i64 (x : Nat)) := by
     rw [cell_of_row _ g _ cur _ _ hg]
     have := g4 k (x : Int) (by unfold zs; rw [List.getElem?_map, hx]; rfl) 0 (by decide)
     simpa [encZ] using this
    have hgl := row_lt hg
    have hxm := HMx.out x (List.mem_of_getElem? hx)
    have HQ := hid (take_flatR hx)
    have hql := qR_len x
    obtain ⟨m, hm⟩ : ∃ m, m = (qR x).length := ⟨_, rfl⟩
    rw [<- hm] at hql
    have HMm := hid hm
    have hR : wr.ownsRow w1.heap.size 5 1 (.slice A n c) n (Lib.strCells ⟨M.toArray⟩) := by have h := HBf.out; unfold BufB at h; rw [<- HN.out] at h; exact h
    clear hm hg g1 g2 g4 hx
    go_upto_block 1 with fail
    go_cut [5] from 22 to 80 (fun s5 wx => ∃ (A' : Option Addr) (c' : Nat), s5 = .slice A' (n + m) c' /\ BufB w1.heap.size wx (M ++ qR x) (.slice A' (n + m) c') /\ Below w1.heap.size w1 wx)
    case first =>
     have hbuf : ∀ (bs : List UInt8) (A5 : Option Addr) (c5 q : Nat) (w5 : World), q = bs.length -> w5.ownsRow w1.heap.size 5 1 (.slice A5 (n + q) c5) (n + q) (Lib.strCells ⟨(M ++ bs).toArray⟩) -> BufB w1.heap.size w5 (M ++ bs) (.slice A5 (n + q) c5) := fun bs A5 c5 q w5 hq h => by
      unfold BufB
      rw [List.length_append, <- HN.out, <- hq]
      exact h
     have HBuf := hid hbuf
     clear hbuf
     by_cases e34 : x = 34 ∨ x = 92
     ·have HQn := hid (show qR x = [92, UInt8.ofNat x] by rw [qR_low (by omega)]; unfold qN; rw [if_pos e34])
      have hm2 : m = 2 := by rw [HMm.out, HQn.out]; rfl
      subst hm2
      have hxw : IntKind.u8.wrap (x : Int) = x := by rw [IntKind.wrap_u8]; omega
      obtain ⟨A', c', w2, hr2, hb2, hbb2⟩ := run_buf wr w1.heap.size n c 2 A M [92, UInt8.ofNat x] [.int .u8 92, .int .u8 (x : Int)] HN.out HBf.out rfl (by simp [Lib.strCells, Nat.mod_eq_of_lt (show x < 256 by omega)]) (by omega) (by decide) hws
      have HB2 := hid (And.intro hb2 (HBr.out.trans hbb2))
      clear hb2 hbb2 hR
      rcases e34 with rfl | rfl
      all_goals
       go_wp2_with (at_builtin; refine wpList_append_of rfl (.tmp 37) (.tmp 40) 28 rfl _ _ _ w2 rfl rfl hr2 ?_)
       go_meet
       exact ⟨A', c', rfl, by rw [HQn.out]; exact HB2.out.1, HB2.out.2⟩
     ·have f1 : ((x : Int) == 34) = false := beq_eq_false_iff_ne.2 (by omega)
      have f2 : ((x : Int) == 92) = false := beq_eq_false_iff_ne.2 (by omega)
      by_cases e8 : x = 8 ∨ x = 12 ∨ x = 10 ∨ x = 13 ∨ x = 9
      ·rcases e8 with rfl | rfl | rfl | rfl | rfl
       ·have HQn := hid (show qR 8 = [92, 98] from rfl)
        have hm2 : m = 2 := by rw [HMm.out, HQn.out]; rfl
        have hsz2 : (⟨#[92, 98]⟩ : ByteArray).size = 2 := rfl
        subst hm2
        clear e34
        go_wp2_with (at_builtin; refine wpList_append_own_string _ rfl (.tmp 45) (.const (.string ⟨#[92, 98]⟩)) 28 9 rfl w1.heap.size 5 i0 Tryz.underlying28 Tryz.underlying9 hi hz0 hz1 hz2 _ n _ rfl hR ⟨#[92, 98]⟩ rfl (by simp only [maxLen]; omega) (by omega) hws ?_; intro v5 w5 hR5 hg5 _; obtain ⟨A5, c5, rfl⟩ := own_form hR5; rw [strCells_list] at hR5)
        have HB5 := Below.grown HBr.out hg5 hws (fun q hq => (World.ownsRow.lt hR q hq).1)
        go_meet
        exact ⟨A5, c5, rfl, by rw [HQn.out]; exact HBuf.out [92, 98] A5 c5 2 w5 rfl hR5, HB5⟩
       ·have HQn := hid (show qR 12 = [92, 102] from rfl)
        have hm2 : m = 2 := by rw [HMm.out, HQn.out]; rfl
        have hsz2 : (⟨#[92, 102]⟩ : ByteArray).size = 2 := rfl
        subst hm2
        clear e34
        go_wp2_with (at_builtin; refine wpList_append_own_string _ rfl (.tmp 50) (.const (.string ⟨#[92, 102]⟩)) 28 9 rfl w1.heap.size 5 i0 Tryz.underlying28 Tryz.underlying9 hi hz0 hz1 hz2 _ n _ rfl hR ⟨#[92, 102]⟩ rfl (by simp only [maxLen]; omega) (by omega) hws ?_; intro v5 w5 hR5 hg5 _; obtain ⟨A5, c5, rfl⟩ := own_form hR5; rw [strCells_list] at hR5)
        have HB5 := Below.grown HBr.out hg5 hws (fun q hq => (World.ownsRow.lt hR q hq).1)
        go_meet
        exact ⟨A5, c5, rfl, by rw [HQn.out]; exact HBuf.out [92, 102] A5 c5 2 w5 rfl hR5, HB5⟩
       ·have HQn := hid (show qR 10 = [92, 110] from rfl)
        have hm2 : m = 2 := by rw [HMm.out, HQn.out]; rfl
        have hsz2 : (⟨#[92, 110]⟩ : ByteArray).size = 2 := rfl
        subst hm2
        clear e34
        go_wp2_with (at_builtin; refine wpList_append_own_string _ rfl (.tmp 55) (.const (.string ⟨#[92, 110]⟩)) 28 9 rfl w1.heap.size 5 i0 Tryz.underlying28 Tryz.underlying9 hi hz0 hz1 hz2 _ n _ rfl hR ⟨#[92, 110]⟩ rfl (by simp only [maxLen]; omega) (by omega) hws ?_; intro v5 w5 hR5 hg5 _; obtain ⟨A5, c5, rfl⟩ := own_form hR5; rw [strCells_list] at hR5)
        have HB5 := Below.grown HBr.out hg5 hws (fun q hq => (World.ownsRow.lt hR q hq).1)
        go_meet
        exact ⟨A5, c5, rfl, by rw [HQn.out]; exact HBuf.out [92, 110] A5 c5 2 w5 rfl hR5, HB5⟩
       ·have HQn := hid (show qR 13 = [92, 114] from rfl)
        have hm2 : m = 2 := by rw [HMm.out, HQn.out]; rfl
        have hsz2 : (⟨#[92, 114]⟩ : ByteArray).size = 2 := rfl
        subst hm2
        clear e34
        go_wp2_with (at_builtin; refine wpList_append_own_string _ rfl (.tmp 60) (.const (.string ⟨#[92, 114]⟩)) 28 9 rfl w1.heap.size 5 i0 Tryz.underlying28 Tryz.underlying9 hi hz0 hz1 hz2 _ n _ rfl hR ⟨#[92, 114]⟩ rfl (by simp only [maxLen]; omega) (by omega) hws ?_; intro v5 w5 hR5 hg5 _; obtain ⟨A5, c5, rfl⟩ := own_form hR5; rw [strCells_list] at hR5)
        have HB5 := Below.grown HBr.out hg5 hws (fun q hq => (World.ownsRow.lt hR q hq).1)
        go_meet
        exact ⟨A5, c5, rfl, by rw [HQn.out]; exact HBuf.out [92, 114] A5 c5 2 w5 rfl hR5, HB5⟩
       ·have HQn := hid (show qR 9 = [92, 116] from rfl)
        have hm2 : m = 2 := by rw [HMm.out, HQn.out]; rfl
        have hsz2 : (⟨#[92, 116]⟩ : ByteArray).size = 2 := rfl
        subst hm2
        clear e34
        go_wp2_with (at_builtin; refine wpList_append_own_string _ rfl (.tmp 65) (.const (.string ⟨#[92, 116]⟩)) 28 9 rfl w1.heap.size 5 i0 Tryz.underlying28 Tryz.underlying9 hi hz0 hz1 hz2 _ n _ rfl hR ⟨#[92, 116]⟩ rfl (by simp only [maxLen]; omega) (by omega) hws ?_; intro v5 w5 hR5 hg5 _; obtain ⟨A5, c5, rfl⟩ := own_form hR5; rw [strCells_list] at hR5)
        have HB5 := Below.grown HBr.out hg5 hws (fun q hq => (World.ownsRow.lt hR q hq).1)
        go_meet
        exact ⟨A5, c5, rfl, by rw [HQn.out]; exact HBuf.out [92, 116] A5 c5 2 w5 rfl hR5, HB5⟩
      ·have g1 : ((x : Int) == 8) = false := beq_eq_false_iff_ne.2 (by omega)
       have g2 : ((x : Int) == 12) = false := beq_eq_false_iff_ne.2 (by omega)
       have g3 : ((x : Int) == 10) = false := beq_eq_false_iff_ne.2 (by omega)
       have g4 : ((x : Int) == 13) = false := beq_eq_false_iff_ne.2 (by omega)
       have g5 : ((x : Int) == 9) = false := beq_eq_false_iff_ne.2 (by omega)
       by_cases e32 : x < 32
       ·have f3 : decide ((x : Int) < 32) = true := decide_eq_true (by omega)
        have f4 : decide (x < 32) = true := decide_eq_true e32
        obtain ⟨p, hp1⟩ : ∃ p : Nat, p = x / 16 := ⟨_, rfl⟩
        obtain ⟨q, hq1⟩ : ∃ q : Nat, q = x % 16 := ⟨_, rfl⟩
        have hp2 : (x : Int) / 16 = p := by omega
        have hp3 : (x : Int).tdiv 16 = p := by rw [Int.tdiv_eq_ediv_of_nonneg (by omega)]; omega
        have hq2 : (x : Int) % 16 = q := by omega
        have hq3 : (x : Int).tmod 16 = q := by rw [Int.tmod_eq_emod_of_nonneg (by omega)]; omega
        have hp4 : p < 16 := by omega
        have hq4 : q < 16 := by omega
        have HQn := hid (show qR x = [92, 117, 48, 48] ++ [figU p, figU q] by rw [qR_low (by omega)]; unfold qN; rw [if_neg e34, if_neg (by omega), if_neg (by omega), if_neg (by omega), if_neg (by omega), if_neg (by omega), if_pos e32, hp1, hq1]; rfl)
        have hm2 : m = 6 := by rw [HMm.out, HQn.out]; rfl
        have hsz2 : (⟨#[92, 117, 48, 48]⟩ : ByteArray).size = 4 := rfl
        subst hm2
        clear hp1 hq1 e34 e8 e32
        go_wp2_with (at_builtin; refine wpList_append_own_string _ rfl (.tmp 70) (.const (.string ⟨#[92, 117, 48, 48]⟩)) 28 9 rfl w1.heap.size 5 i0 Tryz.underlying28 Tryz.underlying9 hi hz0 hz1 hz2 _ n _ rfl hR ⟨#[92, 117, 48, 48]⟩ rfl (by simp only [maxLen]; omega) (by omega) hws ?_; intro v5 w5 hR5 hg5 _; obtain ⟨A5, c5, rfl⟩ := own_form hR5; rw [strCells_list] at hR5)
        have HB5 := hid (Below.grown HBr.out hg5 hws (fun q hq => (World.ownsRow.lt hR q hq).1))
        have hB5 := HBuf.out [92, 117, 48, 48] A5 c5 4 w5 rfl hR5
        refine (c_figure16 p _ hp4).mono ?_
        rintro e w6 ⟨rfl, rfl⟩
        go_wp2_with fail
        refine (c_figure16 q _ hq4).mono ?_
        rintro e w6 ⟨rfl, rfl⟩
        obtain ⟨A', c', w2, hr2, hb2, hbb2⟩ := run_buf w5 w1.heap.size (n + 4) c5 2 A5 (M ++ [92, 117, 48, 48]) [figU p, figU q] [.int .u8 ((figU p).toNat : Nat), .int .u8 ((figU q).toNat : Nat)] (by rw [List.length_append, <- HN.out]; rfl) hB5 rfl rfl (by omega) (by decide) HB5.out.size
        have HB2 := hid (And.intro hb2 (HB5.out.trans hbb2))
        clear hb2 hbb2 hR hR5 hg5 hB5
        go_wp2_with (at_builtin; refine wpList_append_of rfl (.tmp 72) (.tmp 79) 28 rfl _ _ _ w2 rfl rfl hr2 ?_)
        go_meet
        exact ⟨A', c', rfl, by rw [HQn.out, <- List.append_assoc]; exact HB2.out.1, HB2.out.2⟩
       ·have f3 : decide ((x : Int) < 32) = false := decide_eq_false (by omega)
        have f4 : decide (x < 32) = false := decide_eq_false e32
        have HQn := hid (qR_plain e34 e32)
        have hm2 : m = (textB x).size := by rw [HMm.out, HQn.out, Array.length_toList]; rfl
        have htz := textB_size x
        have HT := hid (fun (w' : World) => c_spec_RuneText (x : Int) w' (by omega))
        clear e34 e8 e32
        go_wp2_with fail
        refine (HT.out _).mono ?_
        rintro e w4 ⟨rfl, hb4⟩
        have hR4 := ownsRow_carry hR (fun q hq => hb4.block q (World.ownsRow.lt hR q hq).2)
        have HB4 := hid (HBr.out.trans (hb4.mono HBr.out.size))
        have hws4 := HB4.out.size
        clear hR
        have hR := hR4
        have hws3 := hws
        clear hws hR4 hb4
        have hws := hws4
        go_wp2_with (at_builtin; refine wpList_append_own_string _ rfl (.tmp 26) (.tmp 28) 28 9 rfl w1.heap.size 5 i0 Tryz.underlying28 Tryz.underlying9 hi hz0 hz1 hz2 _ n _ rfl hR (textB x) rfl (by simp only [maxLen]; omega) (by omega) hws ?_; intro v5 w5 hR5 hg5 _; obtain ⟨A5, c5, rfl⟩ := own_form hR5; rw [strCells_list] at hR5)
        have HB5 := Below.grown HB4.out hg5 hws (fun q hq => (World.ownsRow.lt hR q hq).1)
        go_meet
        subst hm2
        exact ⟨A5, c5, rfl, by rw [HQn.out]; exact HBuf.out _ A5 c5 _ w5 (by rw [Array.length_toList]; rfl) hR5, HB5⟩
    case rest =>
     obtain ⟨A', c', rfl, hbf, hbb⟩ := hcut
     have HB' := hid hbf
     have HX := hid (show M ++ qR x = 34 :: (M0.take (k + 1)).flatMap qR by rw [HM.out, HQ.out]; rfl)
     clear hbf hR hc0
     go_wp2_with fail
     go_roundw
     case rel => exact ⟨k + 1, M ++ qR x, A', n + m, c', by omega, by go_num, HX.out, by rw [List.length_append, HN.out, HMm.out], by omega, rfl, HB'.out, hbb⟩
     case measure => simp [Lib.intOf]; omega
   ·obtain rfl : k = M0.length := by omega
    have HX := hid (show r = ⟨(M ++ [34]).toArray⟩ by rw [HR.out, HM.out, List.take_of_length_le (Nat.le_refl _)])
    obtain ⟨A', c', w2, hr2, hb2, hbb2⟩ := run_buf wr w1.heap.size n c 1 A M [34] [.int .u8 34] HN.out HBf.out rfl rfl (by omega) (by decide) hws
    have hn1 : n + 1 = (M ++ [34]).length := by rw [List.length_append, <- HN.out]; rfl
    have hcv := own_string hn1 (show w2.ownsRow w1.heap.size 5 1 (.slice A' (n + 1) c') (n + 1) (Lib.strCells ⟨(M ++ [34]).toArray⟩) from hn1 ▸ hb2)
    clear hn1 hb2
    go_wp2_with (at_builtin; refine wpList_append_of rfl (.tmp 81) (.tmp 82) 28 rfl _ _ _ w2 rfl rfl hr2 ?_)
    go_ret
    exact ⟨by rw [HX.out]; rfl, HB1.out.trans ((HBr.out.trans hbb2).mono HB1.out.size)⟩
open Go.RowKit
def KidsAt (O : (Nat -> Prop) -> World -> TreeD -> List Value -> Prop) (F : Nat -> Nat -> Prop) (g : Nat) (w : World) (l : List TreeD) : Prop :=
 ∃ cur, w.heap[g]? = some (.cells cur 34 (0, 0)) /\ ∀ i d, l[i]? = some d -> ∃ es, es.length = 6 /\ (∀ j, j < 6 -> cur[i * 6 + j]? = es[j]?) /\ O (F i) w d es
def OwnK (O : (Nat -> Prop) -> World -> TreeD -> List Value -> Prop) (S : Nat -> Prop) (w : World) (l : List TreeD) (v : Value) : Prop :=
 ∃ A c, v = .slice A l.length c /\ l.length <= c /\ c <= 9223372036854775807 /\ (0 < l.length -> ∃ g F, A = some ⟨g, 0, none⟩ /\ S g /\ (∀ i b, F i b -> S b /\ b ≠ g) /\ (∀ i j b, F i b -> F j b -> i = j) /\ KidsAt O F g w l)
def OwnT : Nat -> (Nat -> Prop) -> World -> TreeD -> List Value -> Prop
 | 0, _, _, _, _ => False
 | n + 1, S, w, d, cs => ∃ (v4 v5 : Value) (S4 S5 : Nat -> Prop), cs = [.int .i64 d.kind, .bool d.flag, .int .i64 d.num, .string d.text, v4, v5] /\ I64 d.kind /\ I64 d.num /\ d.text.size <= 9223372036854775807 /\
   (∀ b, S4 b -> S b /\ ¬ S5 b) /\ (∀ b, S5 b -> S b) /\ OwnS S4 w d.keys v4 /\ OwnK (OwnT n) S5 w d.kids v5
theorem OwnT.out {n : Nat} {S : Nat -> Prop} {w : World} {d : TreeD} {cs : List Value} (h : OwnT (n + 1) S w d cs) : ∃ (v4 v5 : Value) (S4 S5 : Nat -> Prop), cs = [.int .i64 d.kind, .bool d.flag, .int .i64 d.num, .string d.text, v4, v5] /\ I64 d.kind /\ I64 d.num /\ d.text.size <= 9223372036854775807 /\
   (∀ b, S4 b -> S b /\ ¬ S5 b) /\ (∀ b, S5 b -> S b) /\ OwnS S4 w d.keys v4 /\ OwnK (OwnT n) S5 w d.kids v5 := h
theorem OwnT.into {n : Nat} {S : Nat -> Prop} {w : World} {d : TreeD} {cs : List Value} (h : ∃ (v4 v5 : Value) (S4 S5 : Nat -> Prop), cs = [.int .i64 d.kind, .bool d.flag, .int .i64 d.num, .string d.text, v4, v5] /\ I64 d.kind /\ I64 d.num /\ d.text.size <= 9223372036854775807 /\
   (∀ b, S4 b -> S b /\ ¬ S5 b) /\ (∀ b, S5 b -> S b) /\ OwnS S4 w d.keys v4 /\ OwnK (OwnT n) S5 w d.kids v5) : OwnT (n + 1) S w d cs := h
theorem OwnT.none {S : Nat -> Prop} {w : World} {d : TreeD} {cs : List Value} (h : OwnT 0 S w d cs) : False := h
theorem OwnT.any {n : Nat} {S : Nat -> Prop} {w : World} {d : TreeD} {cs : List Value} (h : OwnT n S w d cs) : ∃ m, n = m + 1 := by
 cases n with
 | zero => exact h.none.elim
 | succ m => exact ⟨m, rfl⟩
theorem OwnK.form {O : (Nat -> Prop) -> World -> TreeD -> List Value -> Prop} {S : Nat -> Prop} {w : World} {l : List TreeD} {v : Value} (h : OwnK O S w l v) : ∃ A c, v = .slice A l.length c := by
 obtain ⟨A, c, hv, _⟩ := h
 exact ⟨A, c, hv⟩
theorem OwnT.flat {n : Nat} {S : Nat -> Prop} {w : World} {d : TreeD} {cs : List Value} (h : OwnT n S w d cs) : ∃ A4 c4 A5 c5, cs = [.int .i64 d.kind, .bool d.flag, .int .i64 d.num, .string d.text, .slice A4 d.keys.length c4, .slice A5 d.kids.length c5] /\ I64 d.kind /\ I64 d.num /\ d.text.size <= 9223372036854775807 := by
 obtain ⟨m, rfl⟩ := h.any
 obtain ⟨v4, v5, S4, S5, rfl, a0, a2, a3, -, -, a4, a5⟩ := h.out
 obtain ⟨A4, c4, rfl⟩ := a4.form
 obtain ⟨A5, c5, rfl⟩ := a5.form
 exact ⟨A4, c4, A5, c5, rfl, a0, a2, a3⟩
theorem OwnK.carry {O O' : (Nat -> Prop) -> World -> TreeD -> List Value -> Prop} {S S' : Nat -> Prop} {w w' : World} {l : List TreeD} {v : Value} (h : OwnK O S w l v) (hs : ∀ b, S b -> w'.heap[b]? = w.heap[b]?) (hS : ∀ b, S b -> S' b)
  (hO : ∀ F d es, (∀ b, F b -> S b) -> O F w d es -> O' F w' d es) : OwnK O' S' w' l v := by
 obtain ⟨A, c, hv, h1, h2, h3⟩ := h
 refine ⟨A, c, hv, h1, h2, fun hp => ?_⟩
 obtain ⟨g, F, hA, hg, hF, hF2, cur, hr, hc⟩ := h3 hp
 refine ⟨g, F, hA, hS g hg, fun i b hb => ⟨hS b (hF i b hb).1, (hF i b hb).2⟩, hF2, cur, (hs g hg).trans hr, fun i d hd => ?_⟩
 obtain ⟨es, e1, e2, e3⟩ := hc i d hd
 exact ⟨es, e1, e2, hO (F i) d es (fun b hb => (hF i b hb).1) e3⟩
theorem OwnT.carry : ∀ {n : Nat} {S S' : Nat -> Prop} {w w' : World} {d : TreeD} {cs : List Value}, OwnT n S w d cs -> (∀ b, S b -> w'.heap[b]? = w.heap[b]?) -> (∀ b, S b -> S' b) -> OwnT n S' w' d cs
 | 0, _, _, _, _, _, _, h, _, _ => h.none.elim
 | n + 1, S, S', w, w', d, cs, h, hs, hS => by
  obtain ⟨v4, v5, S4, S5, e, a0, a2, a3, d4, d5, a4, a5⟩ := h.out
  exact OwnT.into ⟨v4, v5, S4, S5, e, a0, a2, a3, fun b hb => ⟨hS b (d4 b hb).1, (d4 b hb).2⟩, fun b hb => hS b (d5 b hb), a4.carry (fun b hb => hs b (d4 b hb).1) (fun _ h => h),
   a5.carry (fun b hb => hs b (d5 b hb)) (fun _ h => h) (fun F d es hF ho => OwnT.carry ho (fun b hb => hs b (d5 b (hF b hb))) (fun _ h => h))⟩
theorem OwnK.keep {n : Nat} {S S' : Nat -> Prop} {w w' : World} {l : List TreeD} {v : Value} (h : OwnK (OwnT n) S w l v) (hs : ∀ b, S b -> w'.heap[b]? = w.heap[b]?) (hS : ∀ b, S b -> S' b) : OwnK (OwnT n) S' w' l v :=
 h.carry hs hS (fun _ _ _ hF ho => ho.carry (fun b hb => hs b (hF b hb)) (fun _ h => h))
theorem OwnT.up : ∀ {n m : Nat} {S : Nat -> Prop} {w : World} {d : TreeD} {cs : List Value}, OwnT n S w d cs -> n <= m -> OwnT m S w d cs
 | 0, _, _, _, _, _, h, _ => h.none.elim
 | n + 1, 0, _, _, _, _, _, hm => absurd hm (by omega)
 | n + 1, m + 1, _, _, _, _, h, hm => by
  obtain ⟨v4, v5, S4, S5, e, a0, a2, a3, d4, d5, a4, a5⟩ := h.out
  exact OwnT.into ⟨v4, v5, S4, S5, e, a0, a2, a3, d4, d5, a4, a5.carry (fun _ _ => rfl) (fun _ h => h) (fun F d es hF ho => OwnT.up ho (by omega))⟩
theorem OwnT.toC : ∀ {n lo hi : Nat} {S : Nat -> Prop} {w : World} {d : TreeD} {cs : List Value}, OwnT n S w d cs -> (∀ b, S b -> lo <= b /\ b < hi) -> C_Tree n lo hi w d cs
 | 0, _, _, _, _, _, _, h, _ => h.none.elim
 | n + 1, lo, hi, S, w, d, cs, h, hS => by
  obtain ⟨v4, v5, S4, S5, e, a0, a2, a3, d4, d5, a4, a5⟩ := h.out
  refine C_Tree.into ⟨v4, v5, e, a0, a2, a3, a4.toC (fun b hb => hS b (d4 b hb).1), ?_⟩
  obtain ⟨A, c, rfl, h1, h2, h3⟩ := a5
  refine ⟨A, c, rfl, h1, h2, fun hp => ?_⟩
  obtain ⟨g, F, rfl, hg, hF, hF2, cur, hr, hc⟩ := h3 hp
  refine ⟨g, 0, rfl, (hS g (d5 g hg)).1, (hS g (d5 g hg)).2, fun i d hd => ?_⟩
  obtain ⟨es, e1, e2, e3⟩ := hc i d hd
  refine ⟨es, e1, fun j hj => ?_, OwnT.toC e3 (fun b hb => hS b (d5 b (hF i b hb).1))⟩
  rw [cell_of_row w g _ cur _ _ hr, Nat.zero_add]
  exact e2 j hj
theorem flat_get : ∀ (ess : List (List Value)) (i : Nat) (es : List Value) (j : Nat), (∀ es ∈ ess, es.length = 6) -> ess[i]? = some es -> j < 6 -> ess.flatten[i * 6 + j]? = es[j]?
 | [], i, es, j, _, h, _ => by simp at h
 | x :: ess, 0, es, j, hl, h, hj => by
  simp at h
  subst h
  rw [List.flatten_cons, List.getElem?_append_left (by rw [hl x (by simp)]; omega)]
  simp
 | x :: ess, i + 1, es, j, hl, h, hj => by
  simp at h
  have hx := hl x (by simp)
  rw [List.flatten_cons, List.getElem?_append_right (by omega), hx, show (i + 1) * 6 + j - 6 = i * 6 + j by omega]
  exact flat_get ess i es j (fun y hy => hl y (by simp [hy])) h hj
def GrowK (n base hi : Nat) (w : World) (l : List TreeD) (v : Value) : Prop :=
 ∃ (ess : List (List Value)) (F : Nat -> Nat -> Prop), ess.length = l.length /\ (∀ es ∈ ess, es.length = 6) /\ w.ownsRow base 34 6 v l.length ess.flatten /\ (∀ g, v.ownBlock = some g -> g < hi) /\
  (∀ i b, F i b -> base <= b /\ b < hi /\ v.ownBlock ≠ some b) /\ (∀ i j b, F i b -> F j b -> i = j) /\ ∀ i d es, l[i]? = some d -> ess[i]? = some es -> OwnT n (F i) w d es
theorem GrowK.own {n base hi : Nat} {w : World} {l : List TreeD} {v : Value} (h : GrowK n base hi w l v) : OwnK (OwnT n) (fun b => base <= b /\ b < hi) w l v := by
 obtain ⟨ess, F, e1, e2, ⟨hl, h1⟩, h4, h5, h6, h7⟩ := h
 rcases h1 with ⟨rfl, h0⟩ | ⟨g, cap, cur, rfl, hb, hg, hnc, hcm, hcs, ht⟩
 ·exact ⟨none, 0, by rw [h0], by omega, by omega, fun hp => by omega⟩
 ·refine ⟨_, cap, rfl, hnc, by unfold maxLen at hcm; omega, fun _ => ⟨g, F, rfl, ⟨hb, h4 g rfl⟩, fun i b hF => ⟨⟨(h5 i b hF).1, (h5 i b hF).2.1⟩, fun e => (h5 i b hF).2.2 (by rw [e]; rfl)⟩, h6, cur, hg, fun i d hd => ?_⟩⟩
  have hi : i < l.length := (List.getElem?_eq_some_iff.1 hd).1
  obtain ⟨es, hes⟩ := exists_at (l := ess) (k := i) (by omega)
  refine ⟨es, e2 es (List.mem_of_getElem? hes), fun j hj => ?_, h7 i d es hd hes⟩
  have hf := flat_get ess i es j e2 hes hj
  rw [<- ht, List.getElem?_take, if_pos (by omega)] at hf
  simpa using hf
theorem OwnT.one {n : Nat} {S : Nat -> Prop} {w : World} {d : TreeD} {es : List Value} (h : OwnT n S w d es) : ∀ u ∈ es, u.oneCell' = true := by
 obtain ⟨A4, c4, A5, c5, rfl, -⟩ := h.flat
 intro u hu
 simp at hu
 rcases hu with rfl | rfl | rfl | rfl | rfl | rfl <;> rfl
theorem OwnT.len {n : Nat} {S : Nat -> Prop} {w : World} {d : TreeD} {es : List Value} (h : OwnT n S w d es) : es.length = 6 := by
 obtain ⟨A4, c4, A5, c5, rfl, -⟩ := h.flat
 rfl
def mxL {D : Type} (f : D -> Nat) : List D -> Nat
 | [] => 0
 | d :: l => max (f d) (mxL f l)
theorem mxL_app {D : Type} (f : D -> Nat) : ∀ a b : List D, mxL f (a ++ b) = max (mxL f a) (mxL f b)
 | [], b => by simp [mxL]
 | d :: a, b => by
  simp only [List.cons_append, mxL]
  rw [mxL_app f a b]
  omega
theorem take_next {D : Type} {l : List D} {k : Nat} {d : D} (h : l[k]? = some d) : l.take (k + 1) = l.take k ++ [d] := by rw [List.take_add_one, h]; rfl
theorem mxL_next {D : Type} (f : D -> Nat) {l : List D} {k : Nat} {d : D} (h : l[k]? = some d) : mxL f (l.take (k + 1)) = max (mxL f (l.take k)) (f d) := by
 rw [take_next h, mxL_app]
 simp [mxL]
def sizeT : Nat -> TreeD -> Nat
 | 0, _ => 0
 | n + 1, d => 1 + szL (sizeT n) d.kids
def depthT : Nat -> TreeD -> Nat
 | 0, _ => 0
 | n + 1, d => mxL (depthT n) d.kids + 1
theorem sizeT_succ (n : Nat) (d : TreeD) : sizeT (n + 1) d = 1 + szL (sizeT n) d.kids := rfl
theorem depthT_succ (n : Nat) (d : TreeD) : depthT (n + 1) d = mxL (depthT n) d.kids + 1 := rfl
theorem depth_size : ∀ (n : Nat) (d : TreeD), depthT n d <= sizeT n d
 | 0, _ => Nat.le_refl _
 | n + 1, d => by
  have h : ∀ l : List TreeD, mxL (depthT n) l <= szL (sizeT n) l := by
   intro l
   induction l with
   | nil => exact Nat.le_refl _
   | cons t l ih =>
    have := depth_size n t
    simp only [mxL, szL]
    omega
  rw [depthT_succ, sizeT_succ]
  have := h d.kids
  omega
theorem size_kid {n k : Nat} {d t : TreeD} (h : d.kids[k]? = some t) : szL (sizeT n) (d.kids.take k) + sizeT n t + 1 <= sizeT (n + 1) d := by
 have h1 := szL_take_succ (sizeT n) d.kids k t h
 have h2 := szL_take_le (sizeT n) d.kids (k + 1)
 rw [sizeT_succ]
 omega
theorem depth_kid {n k : Nat} {d t : TreeD} (h : d.kids[k]? = some t) : mxL (depthT n) (d.kids.take k) + 1 <= depthT (n + 1) d /\ depthT n t + 1 <= depthT (n + 1) d := by
 have h1 := mxL_next (depthT n) h
 have h2 : mxL (depthT n) d.kids = max (mxL (depthT n) (d.kids.take (k + 1))) (mxL (depthT n) (d.kids.drop (k + 1))) := by rw [<- mxL_app, List.take_append_drop]
 rw [depthT_succ]
 omega
def T_DepthI (n : Nat) : Prop := ∀ (d : TreeD) (cs : List Value) (w : World) (lo : Nat), C_Tree n lo w.heap.size w d cs -> sizeT n d <= 1073741824 ->
  Calls Tryz.prog 150 #[.agg cs.toArray] w fun e w' => e = .returned (.int .i64 (depthT n d : Nat)) /\ Below w.heap.size w w'
theorem of_DepthI (n : Nat) (ih : T_DepthI n) : T_DepthI (n + 1) := by
 intro d cs w lo h hsz
 have hds := depth_size (n + 1) d
 obtain ⟨v4, v5, rfl, a0, a2, a3, a4, a5⟩ := C_Tree.out h
 obtain ⟨A4, c4, rfl⟩ := a4.form
 obtain ⟨A5, c5, rfl, hlc, hcc, hA⟩ := a5
 clear h a4
 go_enter Tryz.func150, Tryz.ntmps150
 go_wp2_with fail
 go_loopw [3, 9] (fun s v wr => ∃ k : Nat, k <= d.kids.length /\ v = .int .i64 k /\ s = .int .i64 (mxL (depthT n) (d.kids.take k) : Nat) /\ Below w.heap.size w wr) (fun _ v _ => d.kids.length - (intOf v).toNat)
 case atStart => exact ⟨0, Nat.zero_le _, rfl, rfl, bel⟩
 case round =>
  obtain ⟨k, hk, rfl, rfl, hbr⟩ := hrel
  by_cases hlt : k < d.kids.length
  ·skip
   obtain ⟨p, o, rfl, -, hbl, hcell⟩ := hA (by omega)
   obtain ⟨t, ht⟩ := exists_at hlt
   obtain ⟨es, -, hcs, hC⟩ := hcell k t ht
   obtain ⟨eA4, ec4, eA5, ec5, rfl, ea0, ea2, ea3⟩ := hC.flat
   have hc0 := (hbr.cell (p := ⟨p, o + k * 6 + 0, none⟩) (by simp; omega)).trans (hcs 0 (by omega))
   simp at hc0
   have hc1 := (hbr.cell (p := ⟨p, o + k * 6 + 1, none⟩) (by simp; omega)).trans (hcs 1 (by omega))
   simp at hc1
   have hc2 := (hbr.cell (p := ⟨p, o + k * 6 + 2, none⟩) (by simp; omega)).trans (hcs 2 (by omega))
   simp at hc2
   have hc3 := (hbr.cell (p := ⟨p, o + k * 6 + 3, none⟩) (by simp; omega)).trans (hcs 3 (by omega))
   simp at hc3
   have hc4 := (hbr.cell (p := ⟨p, o + k * 6 + 4, none⟩) (by simp; omega)).trans (hcs 4 (by omega))
   simp at hc4
   have hc5 := (hbr.cell (p := ⟨p, o + k * 6 + 5, none⟩) (by simp; omega)).trans (hcs 5 (by omega))
   simp at hc5
   have hbr1 := Nat.lt_of_lt_of_le hbl hbr.size
   have hk0 : (0 : Int) <= k := by omega
   have hk1 : (k : Int) < d.kids.length := by omega
   have hs1 := size_kid (n := n) ht
   have hd1 := depth_kid (n := n) ht
   have hts : sizeT n t <= 1073741824 := by omega
   have HC := Lib.hid hC
   have Hnx := Lib.hid (mxL_next (depthT n) ht)
   clear hcs hcell hA hC
   obtain ⟨x, hx⟩ : ∃ x : Nat, x = mxL (depthT n) (d.kids.take k) := ⟨_, rfl⟩
   have hxb : x <= 1073741824 := by omega
   rw [<- hx]
   have HX := Lib.hid hx
   obtain ⟨y, hy⟩ : ∃ y : Nat, y = depthT n t := ⟨_, rfl⟩
   have hyb : y + x <= 2147483648 := by have := depth_size n t; omega
   have HY := Lib.hid hy
   clear hx hy hs1 hd1
   go_wp2_with (go_at_call 150; refine (ih t _ _ _ (HC.out.now bel) hts).mono ?_; rintro e w9 ⟨rfl, hb9⟩; rw [<- HY.out])
   go_roundw
   case rel => exact ⟨k + 1, by omega, by go_num, by (have h1 := Hnx.out; rw [<- HX.out, <- HY.out] at h1; rw [h1]; simp; omega), bel⟩
   case measure => simp [intOf]; omega
  ·obtain rfl : k = d.kids.length := by omega
   have Hf := Lib.hid (show depthT (n + 1) d = mxL (depthT n) (d.kids.take d.kids.length) + 1 by rw [depthT_succ, List.take_of_length_le (Nat.le_refl _)])
   obtain ⟨x, hx⟩ : ∃ x : Nat, x = mxL (depthT n) (d.kids.take d.kids.length) := ⟨_, rfl⟩
   rw [<- hx] at Hf
   rw [<- hx]
   have hxb : x <= 1073741824 := by have := Hf.out; omega
   clear hA hx
   go_wp2_with fail
   go_ret
   exact ⟨by rw [Hf.out]; go_num, bel⟩
theorem all_DepthI : ∀ n, T_DepthI n
 | 0 => fun _ _ _ _ h _ => (C_Tree.none h).elim
 | n + 1 => of_DepthI n (all_DepthI n)
def T_SizeI (n : Nat) : Prop := ∀ (d : TreeD) (cs : List Value) (w : World) (lo : Nat), C_Tree n lo w.heap.size w d cs -> sizeT n d <= 1073741824 ->
  Calls Tryz.prog 151 #[.agg cs.toArray] w fun e w' => e = .returned (.int .i64 (sizeT n d : Nat)) /\ Below w.heap.size w w'
theorem of_SizeI (n : Nat) (ih : T_SizeI n) : T_SizeI (n + 1) := by
 intro d cs w lo h hsz
 have hds := depth_size (n + 1) d
 obtain ⟨v4, v5, rfl, a0, a2, a3, a4, a5⟩ := C_Tree.out h
 obtain ⟨A4, c4, rfl⟩ := a4.form
 obtain ⟨A5, c5, rfl, hlc, hcc, hA⟩ := a5
 clear h a4
 go_enter Tryz.func151, Tryz.ntmps151
 go_wp2_with fail
 go_loopw [3, 9] (fun s v wr => ∃ k : Nat, k <= d.kids.length /\ v = .int .i64 k /\ s = .int .i64 (1 + szL (sizeT n) (d.kids.take k) : Nat) /\ Below w.heap.size w wr) (fun _ v _ => d.kids.length - (intOf v).toNat)
 case atStart => exact ⟨0, Nat.zero_le _, rfl, rfl, bel⟩
 case round =>
  obtain ⟨k, hk, rfl, rfl, hbr⟩ := hrel
  by_cases hlt : k < d.kids.length
  ·skip
   obtain ⟨p, o, rfl, -, hbl, hcell⟩ := hA (by omega)
   obtain ⟨t, ht⟩ := exists_at hlt
   obtain ⟨es, -, hcs, hC⟩ := hcell k t ht
   obtain ⟨eA4, ec4, eA5, ec5, rfl, ea0, ea2, ea3⟩ := hC.flat
   have hc0 := (hbr.cell (p := ⟨p, o + k * 6 + 0, none⟩) (by simp; omega)).trans (hcs 0 (by omega))
   simp at hc0
   have hc1 := (hbr.cell (p := ⟨p, o + k * 6 + 1, none⟩) (by simp; omega)).trans (hcs 1 (by omega))
   simp at hc1
   have hc2 := (hbr.cell (p := ⟨p, o + k * 6 + 2, none⟩) (by simp; omega)).trans (hcs 2 (by omega))
   simp at hc2
   have hc3 := (hbr.cell (p := ⟨p, o + k * 6 + 3, none⟩) (by simp; omega)).trans (hcs 3 (by omega))
   simp at hc3
   have hc4 := (hbr.cell (p := ⟨p, o + k * 6 + 4, none⟩) (by simp; omega)).trans (hcs 4 (by omega))
   simp at hc4
   have hc5 := (hbr.cell (p := ⟨p, o + k * 6 + 5, none⟩) (by simp; omega)).trans (hcs 5 (by omega))
   simp at hc5
   have hbr1 := Nat.lt_of_lt_of_le hbl hbr.size
   have hk0 : (0 : Int) <= k := by omega
   have hk1 : (k : Int) < d.kids.length := by omega
   have hs1 := size_kid (n := n) ht
   have hd1 := depth_kid (n := n) ht
   have hts : sizeT n t <= 1073741824 := by omega
   have HC := Lib.hid hC
   have Hnx := Lib.hid (szL_take_succ (sizeT n) d.kids k t ht)
   clear hcs hcell hA hC
   obtain ⟨x, hx⟩ : ∃ x : Nat, x = 1 + szL (sizeT n) (d.kids.take k) := ⟨_, rfl⟩
   have hxb : x <= 1073741824 := by omega
   rw [<- hx]
   have HX := Lib.hid hx
   obtain ⟨y, hy⟩ : ∃ y : Nat, y = sizeT n t := ⟨_, rfl⟩
   have hyb : y + x <= 2147483648 := by have := depth_size n t; omega
   have HY := Lib.hid hy
   clear hx hy hs1 hd1
   go_wp2_with (go_at_call 151; refine (ih t _ _ _ (HC.out.now bel) hts).mono ?_; rintro e w9 ⟨rfl, hb9⟩; rw [<- HY.out])
   go_roundw
   case rel => exact ⟨k + 1, by omega, by go_num, by (have h1 := Hnx.out; have h2 := HX.out; have h3 := HY.out; go_num), bel⟩
   case measure => simp [intOf]; omega
  ·obtain rfl : k = d.kids.length := by omega
   have Hf := Lib.hid (show sizeT (n + 1) d = 1 + szL (sizeT n) (d.kids.take d.kids.length) by rw [sizeT_succ, List.take_of_length_le (Nat.le_refl _)])
   obtain ⟨x, hx⟩ : ∃ x : Nat, x = 1 + szL (sizeT n) (d.kids.take d.kids.length) := ⟨_, rfl⟩
   rw [<- hx] at Hf
   rw [<- hx]
   have hxb : x <= 1073741824 := by have := Hf.out; omega
   clear hA hx
   go_wp2_with fail
   go_ret
   exact ⟨by rw [Hf.out]; rfl, bel⟩
theorem all_SizeI : ∀ n, T_SizeI n
 | 0 => fun _ _ _ _ h _ => (C_Tree.none h).elim
 | n + 1 => of_SizeI n (all_SizeI n)
def T_DepthS (n : Nat) : Prop := ∀ (d : TreeD) (cs : List Value) (w : World) (lo : Nat), C_Tree n lo w.heap.size w d cs -> sizeT n d <= 1073741824 ->
  Calls Tryz.prog 57 #[.agg cs.toArray] w fun e w' => e = .returned (.int .i64 (depthT n d : Nat)) /\ Below w.heap.size w w'
theorem of_DepthS (n : Nat) (ih : T_DepthS n) : T_DepthS (n + 1) := by
 intro d cs w lo h hsz
 have hds := depth_size (n + 1) d
 obtain ⟨v4, v5, rfl, a0, a2, a3, a4, a5⟩ := C_Tree.out h
 obtain ⟨A4, c4, rfl⟩ := a4.form
 obtain ⟨A5, c5, rfl, hlc, hcc, hA⟩ := a5
 clear h a4
 go_enter Tryz.func57, Tryz.ntmps57
 go_wp2_with fail
 go_loopw [3, 4] (fun s v wr => ∃ k : Nat, k <= d.kids.length /\ v = .int .i64 k /\ s = .int .i64 (mxL (depthT n) (d.kids.take k) : Nat) /\ wr.heap[w.heap.size]? = some (.cells #[.int .i64 d.kind, .bool d.flag, .int .i64 d.num, .string d.text, .slice A4 d.keys.length c4, .slice A5 d.kids.length c5] 34 (0, 0)) /\ Below w.heap.size w wr) (fun _ v _ => d.kids.length - (intOf v).toNat)
 case atStart => exact ⟨0, Nat.zero_le _, rfl, rfl, heap_at rfl, bel⟩
 case round =>
  obtain ⟨k, hk, rfl, rfl, hT, hbr⟩ := hrel
  have HT := Lib.hid hT
  clear hT
  obtain ⟨x0, x1, x2, x3, x4, x5, xf⟩ := row6 HT.out
  have hl1 := row_lt HT.out
  by_cases hlt : k < d.kids.length
  ·skip
   obtain ⟨p, o, rfl, -, hbl, hcell⟩ := hA (by omega)
   obtain ⟨t, ht⟩ := exists_at hlt
   obtain ⟨es, -, hcs, hC⟩ := hcell k t ht
   obtain ⟨eA4, ec4, eA5, ec5, rfl, ea0, ea2, ea3⟩ := hC.flat
   have hc0 := (hbr.cell (p := ⟨p, o + k * 6 + 0, none⟩) (by simp; omega)).trans (hcs 0 (by omega))
   simp at hc0
   have hc1 := (hbr.cell (p := ⟨p, o + k * 6 + 1, none⟩) (by simp; omega)).trans (hcs 1 (by omega))
   simp at hc1
   have hc2 := (hbr.cell (p := ⟨p, o + k * 6 + 2, none⟩) (by simp; omega)).trans (hcs 2 (by omega))
   simp at hc2
   have hc3 := (hbr.cell (p := ⟨p, o + k * 6 + 3, none⟩) (by simp; omega)).trans (hcs 3 (by omega))
   simp at hc3
   have hc4 := (hbr.cell (p := ⟨p, o + k * 6 + 4, none⟩) (by simp; omega)).trans (hcs 4 (by omega))
   simp at hc4
   have hc5 := (hbr.cell (p := ⟨p, o + k * 6 + 5, none⟩) (by simp; omega)).trans (hcs 5 (by omega))
   simp at hc5
   have hbr1 := Nat.lt_of_lt_of_le hbl hbr.size
   have hk0 : (0 : Int) <= k := by omega
   have hk1 : (k : Int) < d.kids.length := by omega
   have hs1 := size_kid (n := n) ht
   have hd1 := depth_kid (n := n) ht
   have hts : sizeT n t <= 1073741824 := by omega
   have HC := Lib.hid hC
   have Hnx := Lib.hid (mxL_next (depthT n) ht)
   clear hcs hcell hA hC
   obtain ⟨x, hx⟩ : ∃ x : Nat, x = mxL (depthT n) (d.kids.take k) := ⟨_, rfl⟩
   have hxb : x <= 1073741824 := by omega
   rw [<- hx]
   have HX := Lib.hid hx
   obtain ⟨y, hy⟩ : ∃ y : Nat, y = depthT n t := ⟨_, rfl⟩
   have hyb : y + x <= 2147483648 := by have := depth_size n t; omega
   have HY := Lib.hid hy
   clear hx hy hs1 hd1
   have hyx : decide (x < y) = true ∨ decide (x < y) = false := by rcases decide (x < y) with _ | _ <;> simp
   rcases hyx with hyx | hyx
   ·have hyi : (x : Int) < y := by have := of_decide_eq_true hyx; omega
    have hn : max x y = y := by have := of_decide_eq_true hyx; omega
    clear hyx
    go_wp2_with (go_at_call 57; refine (ih t _ _ _ (HC.out.now bel) hts).mono ?_; rintro e w9 ⟨rfl, hb9⟩; rw [<- HY.out])
    go_roundw
    case rel => exact ⟨k + 1, by omega, by go_num, by (have h1 := Hnx.out; rw [<- HX.out, <- HY.out, hn] at h1; rw [h1]), (hb9.block _ (by first | omega | (simp; omega))).trans HT.out, bel⟩
    case measure => simp [intOf]; omega
   ·have hyi : decide ((x : Int) < y) = false := decide_eq_false (by have := of_decide_eq_false hyx; omega)
    have hn : max x y = x := by have := of_decide_eq_false hyx; omega
    clear hyx
    go_wp2_with (go_at_call 57; refine (ih t _ _ _ (HC.out.now bel) hts).mono ?_; rintro e w9 ⟨rfl, hb9⟩; rw [<- HY.out])
    go_roundw
    case rel => exact ⟨k + 1, by omega, by go_num, by (have h1 := Hnx.out; rw [<- HX.out, <- HY.out, hn] at h1; rw [h1]), (hb9.block _ (by first | omega | (simp; omega))).trans HT.out, bel⟩
    case measure => simp [intOf]; omega
  ·obtain rfl : k = d.kids.length := by omega
   have Hf := Lib.hid (show depthT (n + 1) d = mxL (depthT n) (d.kids.take d.kids.length) + 1 by rw [depthT_succ, List.take_of_length_le (Nat.le_refl _)])
   obtain ⟨x, hx⟩ : ∃ x : Nat, x = mxL (depthT n) (d.kids.take d.kids.length) := ⟨_, rfl⟩
   rw [<- hx] at Hf
   rw [<- hx]
   have hxb : x <= 1073741824 := by have := Hf.out; omega
   clear hA hx
   go_wp2_with fail
   go_ret
   exact ⟨by rw [Hf.out]; go_num, bel⟩
theorem all_DepthS : ∀ n, T_DepthS n
 | 0 => fun _ _ _ _ h _ => (C_Tree.none h).elim
 | n + 1 => of_DepthS n (all_DepthS n)
def T_SizeS (n : Nat) : Prop := ∀ (d : TreeD) (cs : List Value) (w : World) (lo : Nat), C_Tree n lo w.heap.size w d cs -> sizeT n d <= 1073741824 ->
  Calls Tryz.prog 58 #[.agg cs.toArray] w fun e w' => e = .returned (.int .i64 (sizeT n d : Nat)) /\ Below w.heap.size w w'
theorem of_SizeS (n : Nat) (ih : T_SizeS n) : T_SizeS (n + 1) := by
 intro d cs w lo h hsz
 have hds := depth_size (n + 1) d
 obtain ⟨v4, v5, rfl, a0, a2, a3, a4, a5⟩ := C_Tree.out h
 obtain ⟨A4, c4, rfl⟩ := a4.form
 obtain ⟨A5, c5, rfl, hlc, hcc, hA⟩ := a5
 clear h a4
 go_enter Tryz.func58, Tryz.ntmps58
 go_wp2_with fail
 go_loopw [3, 4] (fun s v wr => ∃ k : Nat, k <= d.kids.length /\ v = .int .i64 k /\ s = .int .i64 (1 + szL (sizeT n) (d.kids.take k) : Nat) /\ wr.heap[w.heap.size]? = some (.cells #[.int .i64 d.kind, .bool d.flag, .int .i64 d.num, .string d.text, .slice A4 d.keys.length c4, .slice A5 d.kids.length c5] 34 (0, 0)) /\ Below w.heap.size w wr) (fun _ v _ => d.kids.length - (intOf v).toNat)
 case atStart => exact ⟨0, Nat.zero_le _, rfl, rfl, heap_at rfl, bel⟩
 case round =>
  obtain ⟨k, hk, rfl, rfl, hT, hbr⟩ := hrel
  have HT := Lib.hid hT
  clear hT
  obtain ⟨x0, x1, x2, x3, x4, x5, xf⟩ := row6 HT.out
  have hl1 := row_lt HT.out
  by_cases hlt : k < d.kids.length
  ·skip
   obtain ⟨p, o, rfl, -, hbl, hcell⟩ := hA (by omega)
   obtain ⟨t, ht⟩ := exists_at hlt
   obtain ⟨es, -, hcs, hC⟩ := hcell k t ht
   obtain ⟨eA4, ec4, eA5, ec5, rfl, ea0, ea2, ea3⟩ := hC.flat
   have hc0 := (hbr.cell (p := ⟨p, o + k * 6 + 0, none⟩) (by simp; omega)).trans (hcs 0 (by omega))
   simp at hc0
   have hc1 := (hbr.cell (p := ⟨p, o + k * 6 + 1, none⟩) (by simp; omega)).trans (hcs 1 (by omega))
   simp at hc1
   have hc2 := (hbr.cell (p := ⟨p, o + k * 6 + 2, none⟩) (by simp; omega)).trans (hcs 2 (by omega))
   simp at hc2
   have hc3 := (hbr.cell (p := ⟨p, o + k * 6 + 3, none⟩) (by simp; omega)).trans (hcs 3 (by omega))
   simp at hc3
   have hc4 := (hbr.cell (p := ⟨p, o + k * 6 + 4, none⟩) (by simp; omega)).trans (hcs 4 (by omega))
   simp at hc4
   have hc5 := (hbr.cell (p := ⟨p, o + k * 6 + 5, none⟩) (by simp; omega)).trans (hcs 5 (by omega))
   simp at hc5
   have hbr1 := Nat.lt_of_lt_of_le hbl hbr.size
   have hk0 : (0 : Int) <= k := by omega
   have hk1 : (k : Int) < d.kids.length := by omega
   have hs1 := size_kid (n := n) ht
   have hd1 := depth_kid (n := n) ht
   have hts : sizeT n t <= 1073741824 := by omega
   have HC := Lib.hid hC
   have Hnx := Lib.hid (szL_take_succ (sizeT n) d.kids k t ht)
   clear hcs hcell hA hC
   obtain ⟨x, hx⟩ : ∃ x : Nat, x = 1 + szL (sizeT n) (d.kids.take k) := ⟨_, rfl⟩
   have hxb : x <= 1073741824 := by omega
   rw [<- hx]
   have HX := Lib.hid hx
   obtain ⟨y, hy⟩ : ∃ y : Nat, y = sizeT n t := ⟨_, rfl⟩
   have hyb : y + x <= 2147483648 := by have := depth_size n t; omega
   have HY := Lib.hid hy
   clear hx hy hs1 hd1
   go_wp2_with (go_at_call 58; refine (ih t _ _ _ (HC.out.now bel) hts).mono ?_; rintro e w9 ⟨rfl, hb9⟩; rw [<- HY.out])
   go_roundw
   case rel => exact ⟨k + 1, by omega, by go_num, by (have h1 := Hnx.out; have h2 := HX.out; have h3 := HY.out; go_num), (hb9.block _ (by first | omega | (simp; omega))).trans HT.out, bel⟩
   case measure => simp [intOf]; omega
  ·obtain rfl : k = d.kids.length := by omega
   have Hf := Lib.hid (show sizeT (n + 1) d = 1 + szL (sizeT n) (d.kids.take d.kids.length) by rw [sizeT_succ, List.take_of_length_le (Nat.le_refl _)])
   obtain ⟨x, hx⟩ : ∃ x : Nat, x = 1 + szL (sizeT n) (d.kids.take d.kids.length) := ⟨_, rfl⟩
   rw [<- hx] at Hf
   rw [<- hx]
   have hxb : x <= 1073741824 := by have := Hf.out; omega
   clear hA hx
   go_wp2_with fail
   go_ret
   exact ⟨by rw [Hf.out]; rfl, bel⟩
theorem all_SizeS : ∀ n, T_SizeS n
 | 0 => fun _ _ _ _ h _ => (C_Tree.none h).elim
 | n + 1 => of_SizeS n (all_SizeS n)
def allR (n : Nat) (p : Nat -> Bool) : Bool := (List.range n).all p
theorem allR_succ (n : Nat) (p : Nat -> Bool) : allR (n + 1) p = (allR n p && p n) := by
 unfold allR; rw [List.range_succ, List.all_append]; simp
theorem allR_bad (n k : Nat) (p : Nat -> Bool) (hk : k < n) (h : p k = false) : allR n p = false := by
 unfold allR; rw [List.all_eq_false]; exact ⟨k, by simpa using hk, by simp [h]⟩
def strB (s : ByteArray) : Bool := decide (s.size <= 400) && utf8B s
def badH (d : TreeD) : Bool := !inB d.kind 1 6 || (d.flag && d.kind != 2) || (d.num != 0 && d.kind != 3) || (!d.text.toList.isEmpty && d.kind != 4) || (decide (0 < d.keys.length) && d.kind != 6) || (decide (0 < d.kids.length) && decide (d.kind < 5))
def keyOk (ks : List ByteArray) (i : Nat) : Bool := match ks[i]? with
 | none => true
 | some k => strB k && (match i with
  | 0 => true
  | j + 1 => match ks[j]? with
   | none => true
   | some p => lessS p k)
def lensOk (d : TreeD) : Bool := !(d.kind == 6 && decide (d.keys.length ≠ d.kids.length))
def kidAt (f : TreeD -> Bool) (l : List TreeD) (i : Nat) : Bool := match l[i]? with | none => true | some t => f t
def shapeT : Nat -> TreeD -> Bool
 | 0, _ => false
 | n + 1, d => !badH d && strB d.text && lensOk d && allR d.keys.length (keyOk d.keys) && allR d.kids.length (kidAt (shapeT n) d.kids)
theorem shapeT_succ (n : Nat) (d : TreeD) : shapeT (n + 1) d = (!badH d && strB d.text && lensOk d && allR d.keys.length (keyOk d.keys) && allR d.kids.length (kidAt (shapeT n) d.kids)) := rfl
theorem keyOk_none {ks : List ByteArray} {i : Nat} {k : ByteArray} (h : ks[i]? = some k) (hs : strB k = false) : keyOk ks i = false := by unfold keyOk; rw [h]; simp only; rw [hs]; rfl
theorem keyOk_zero {ks : List ByteArray} {k : ByteArray} (h : ks[0]? = some k) : keyOk ks 0 = strB k := by unfold keyOk; rw [h]; simp only; rw [Bool.and_true]
theorem keyOk_succ {ks : List ByteArray} {j : Nat} {p k : ByteArray} (h : ks[j + 1]? = some k) (hp : ks[j]? = some p) : keyOk ks (j + 1) = (strB k && lessS p k) := by unfold keyOk; rw [h]; simp only; rw [hp]
theorem kidAt_eq {f : TreeD -> Bool} {l : List TreeD} {i : Nat} {t : TreeD} (h : l[i]? = some t) : kidAt f l i = f t := by unfold kidAt; rw [h]
theorem c_impl_stringOk (s : ByteArray) (w : World) (hT : Tabs w) (hs : s.size <= 9223372036854775807) :
  Calls Tryz.prog 215 #[.string s] w fun e w' => e = .returned (.bool (strB s)) /\ Below w.heap.size w w' := by
 by_cases h : s.size <= 400
 ·have Hf := Lib.hid (show strB s = utf8B s by unfold strB; rw [decide_eq_true h, Bool.true_and])
  have d1 : decide ((s.size : Int) <= 400) = true := decide_eq_true (by omega)
  have HC := Lib.hid (fun (w' : World) (hb : Below w.heap.size w w') => c_impl_Utf8Ok s w' hs (hT.below hb))
  clear h hT
  go_enter Tryz.func215, Tryz.ntmps215
  go_wp2_with (go_at_call 222; refine (HC.out _ bel).mono ?_; rintro e w1 ⟨rfl, hb⟩; (first | (have hcu2 := Cum.join hcu hb; (try clear hcu); (try clear hc); (try clear hfz); (try clear hsz); (try clear hs0); (try clear hs1); (try clear hs2); (try clear hs3); (try clear hs4); ) | have hcu2 := Cum.mk hb); have hcu := hcu2; clear hcu2; obtain ⟨hc, hfz⟩ := bcell hcu.h; have hsz := hcu.h.size; (try simp at hsz); (try have hs0 := lt_of_succ_le hsz); (try (have hs1 := lt_pred hsz; (try (have hs2 := lt_pred hs1; (try (have hs3 := lt_pred hs2; (try have hs4 := lt_pred hs3))))))))
  go_ret
  exact ⟨ret_bool Hf.out.symm, bel⟩
 ·have Hf := Lib.hid (show strB s = false by unfold strB; rw [decide_eq_false h, Bool.false_and])
  have d1 : decide ((s.size : Int) <= 400) = false := decide_eq_false (by omega)
  clear h hT
  go_enter Tryz.func215, Tryz.ntmps215
  go_wp2_with fail
  go_ret
  exact ⟨ret_bool Hf.out.symm, bel⟩
theorem c_spec_l08Text (s : ByteArray) (w : World) :
  Calls Tryz.prog 116 #[.string s] w fun e w' => e = .returned (.bool (strB s)) /\ Below w.heap.size w w' := by
 by_cases h : s.size <= 400
 ·have Hf := Lib.hid (show strB s = utf8B s by unfold strB; rw [decide_eq_true h, Bool.true_and])
  have d1 : decide ((s.size : Int) <= 400) = true := decide_eq_true (by omega)
  have HC := Lib.hid (fun (w' : World) => c_spec_Utf8Ok s w' (by omega))
  clear h
  go_enter Tryz.func116, Tryz.ntmps116
  go_wp2_with (go_at_call 195; refine (HC.out _).mono ?_; rintro e w1 ⟨rfl, hb⟩; (first | (have hcu2 := Cum.join hcu hb; (try clear hcu); (try clear hc); (try clear hfz); (try clear hsz); (try clear hs0); (try clear hs1); (try clear hs2); (try clear hs3); (try clear hs4); ) | have hcu2 := Cum.mk hb); have hcu := hcu2; clear hcu2; obtain ⟨hc, hfz⟩ := bcell hcu.h; have hsz := hcu.h.size; (try simp at hsz); (try have hs0 := lt_of_succ_le hsz); (try (have hs1 := lt_pred hsz; (try (have hs2 := lt_pred hs1; (try (have hs3 := lt_pred hs2; (try have hs4 := lt_pred hs3))))))))
  go_ret
  exact ⟨ret_bool Hf.out.symm, bel⟩
 ·have Hf := Lib.hid (show strB s = false by unfold strB; rw [decide_eq_false h, Bool.false_and])
  have d1 : decide ((s.size : Int) <= 400) = false := decide_eq_false (by omega)
  clear h
  go_enter Tryz.func116, Tryz.ntmps116
  go_wp2_with fail
  go_ret
  exact ⟨ret_bool Hf.out.symm, bel⟩
def T_nodI (n : Nat) : Prop := ∀ (d : TreeD) (cs : List Value) (w : World) (lo : Nat), C_Tree n lo w.heap.size w d cs -> Tabs w ->
  Calls Tryz.prog 152 #[.agg cs.toArray] w fun e w' => e = .returned (.bool (shapeT n d)) /\ Below w.heap.size w w'
theorem of_nodI (n : Nat) (ih : T_nodI n) : T_nodI (n + 1) := by
 intro d cs w lo h hTab
 have HT0 := Lib.hid hTab
 clear hTab
 obtain ⟨v4, v5, rfl, a0, a2, a3, a4, a5⟩ := C_Tree.out h
 obtain ⟨A4, c4, rfl, hlk, hck, hK⟩ := a4
 obtain ⟨A5, c5, rfl, hlc, hcc, hA⟩ := a5
 have Hf := Lib.hid (shapeT_succ n d)
 clear h
 obtain ⟨dk, df, dn, dt, dks, dkd⟩ := d
 simp only at a0 a2 a3 hlk hK hlc hA ⊢
 obtain ⟨z, hz⟩ : ∃ z, z = shapeT (n + 1) ⟨dk, df, dn, dt, dks, dkd⟩ := ⟨_, rfl⟩
 rw [<- hz] at Hf ⊢
 simp only at Hf
 clear hz
 obtain ⟨W0, hW0⟩ : ∃ W, W = w.alloc (.cells #[.int .i64 dk, .bool df, .int .i64 dn, .string dt, .slice A4 dks.length c4, .slice A5 dkd.length c5] 34) := ⟨_, rfl⟩
 have hB0 : Below w.heap.size w W0 := by rw [hW0]; exact bel
 have HR0 := Lib.hid (show W0.heap[w.heap.size]? = some (.cells #[.int .i64 dk, .bool df, .int .i64 dn, .string dt, .slice A4 dks.length c4, .slice A5 dkd.length c5] 34 (0, 0)) by rw [hW0]; exact heap_at rfl)
 have HW0 := Lib.hid hW0
 clear hW0
 go_enter Tryz.func152, Tryz.ntmps152
 go_upto_region 1 with fail
 go_cut [61] from 7 to 61 (fun s61 wx => s61 = .bool (badH ⟨dk, df, dn, dt, dks, dkd⟩) /\ wx = w.alloc (.cells #[.int .i64 dk, .bool df, .int .i64 dn, .string dt, .slice A4 dks.length c4, .slice A5 dkd.length c5] 34))
 case first =>
  clear Hf hK hA HR0 HW0 hB0
  go_wp2_with (go_at_call 63; refine (c_impl_within _ _ _ _).mono ?_; rintro e w1 ⟨rfl, rfl⟩)
  all_goals
   (try simp only [Bool.not_eq_true] at *)
   (try subst_vars)
   go_meet
   refine ⟨?_, rfl⟩
   congr 1
  all_goals (unfold badH; simp_all; done)
 case rest =>
 obtain ⟨rfl, rfl⟩ := hcut
 rw [<- HW0.out]
 obtain ⟨q1, hq1⟩ : ∃ q, q = badH ⟨dk, df, dn, dt, dks, dkd⟩ := ⟨_, rfl⟩
 rw [<- hq1] at Hf ⊢
 clear hq1
 rcases q1 with _ | _
 rotate_left
 ·have HX := Lib.hid (show z = false by rw [Hf.out]; rfl)
  go_wp2_with fail
  go_ret
  exact ⟨ret_bool HX.out.symm, bel⟩
 obtain ⟨x0, x1, x2, x3, x4, x5, xf⟩ := row6 HR0.out
 have l0 := row_lt HR0.out
 go_upto_region 3 with fail
 go_cut [79] from 62 to 79 (fun s79 wx => s79 = .bool (!(strB dt && lensOk ⟨dk, df, dn, dt, dks, dkd⟩)) /\ Below W0.heap.size W0 wx)
 case first =>
  clear Hf hK hA
  rcases hst : strB dt with _ | _
  ·go_wp2_with (go_at_call 215; refine (c_impl_stringOk _ _ (HT0.out.below hB0) (by omega)).mono ?_; rintro e w9 ⟨rfl, hb9⟩)
   go_meet
   exact ⟨by rw [hst]; rfl, hb9⟩
  ·by_cases hk6 : dk = 6
   ·by_cases hln : dks.length = dkd.length
    ·have d1 : (dk == 6) = true := by simp [hk6]
     have d2 : ((dks.length : Int) != dkd.length) = false := by simp [hln]
     have HV := Lib.hid (show lensOk ⟨dk, df, dn, dt, dks, dkd⟩ = true by unfold lensOk; simp [hk6, hln])
     clear hk6 hln
     go_wp2_with (go_at_call 215; refine (c_impl_stringOk _ _ (HT0.out.below hB0) (by omega)).mono ?_; rintro e w9 ⟨rfl, hb9⟩; obtain ⟨m0, m1, m2, m3, m4, m5, mf⟩ := row6 ((hb9.block _ l0).trans HR0.out); have lm := Nat.lt_of_lt_of_le l0 hb9.size)
     go_meet
     exact ⟨by rw [hst, HV.out]; rfl, hb9⟩
    ·have d1 : (dk == 6) = true := by simp [hk6]
     have d2 : ((dks.length : Int) != dkd.length) = true := bne_iff_ne.2 (by omega)
     have HV := Lib.hid (show lensOk ⟨dk, df, dn, dt, dks, dkd⟩ = false by unfold lensOk; simp [hk6, hln])
     clear hk6 hln
     go_wp2_with (go_at_call 215; refine (c_impl_stringOk _ _ (HT0.out.below hB0) (by omega)).mono ?_; rintro e w9 ⟨rfl, hb9⟩; obtain ⟨m0, m1, m2, m3, m4, m5, mf⟩ := row6 ((hb9.block _ l0).trans HR0.out); have lm := Nat.lt_of_lt_of_le l0 hb9.size)
     go_meet
     exact ⟨by rw [hst, HV.out]; rfl, hb9⟩
   ·have d1 : (dk == 6) = false := beq_eq_false_iff_ne.2 hk6
    have HV := Lib.hid (show lensOk ⟨dk, df, dn, dt, dks, dkd⟩ = true by unfold lensOk; simp [hk6])
    clear hk6
    go_wp2_with (go_at_call 215; refine (c_impl_stringOk _ _ (HT0.out.below hB0) (by omega)).mono ?_; rintro e w9 ⟨rfl, hb9⟩; obtain ⟨m0, m1, m2, m3, m4, m5, mf⟩ := row6 ((hb9.block _ l0).trans HR0.out); have lm := Nat.lt_of_lt_of_le l0 hb9.size)
    go_meet
    exact ⟨by rw [hst, HV.out]; rfl, hb9⟩
 case rest =>
 obtain ⟨rfl, hb1⟩ := hcut
 have HR1 := Lib.hid ((hb1.block _ l0).trans HR0.out)
 have hB1 := hB0.trans (hb1.mono hB0.size)
 have hE := Lib.hid (show z = (strB dt && lensOk ⟨dk, df, dn, dt, dks, dkd⟩ && allR dks.length (keyOk dks) && allR dkd.length (kidAt (shapeT n) dkd)) by rw [Hf.out]; rfl)
 obtain ⟨q2, hq2⟩ : ∃ q, q = (strB dt && lensOk ⟨dk, df, dn, dt, dks, dkd⟩) := ⟨_, rfl⟩
 rw [<- hq2] at hE ⊢
 clear hq2 Hf HR0 HW0 hB0 hb1 x0 x1 x2 x3 x4 x5 xf l0
 rcases q2 with _ | _
 ·have HX := Lib.hid (show z = false by rw [hE.out]; rfl)
  go_wp2_with fail
  go_ret
  exact ⟨ret_bool HX.out.symm, bel⟩
 obtain ⟨x0, x1, x2, x3, x4, x5, xf⟩ := row6 HR1.out
 have l0 := row_lt HR1.out
 go_wp2_with fail
 go_loopw [83] (fun v wr => ∃ k : Nat, k <= dks.length /\ v = .int .i64 k /\ allR k (keyOk dks) = true /\ wr.heap[w.heap.size]? = some (.cells #[.int .i64 dk, .bool df, .int .i64 dn, .string dt, .slice A4 dks.length c4, .slice A5 dkd.length c5] 34 (0, 0)) /\ Below w.heap.size w wr) (fun v _ => dks.length - (intOf v).toNat)
 case atStart => exact ⟨0, Nat.zero_le _, rfl, rfl, HR1.out, hB1⟩
 case round =>
  clear x0 x1 x2 x3 x4 x5 xf l0 HR1 hB1
  obtain ⟨k, hk, rfl, hall, hT, hbr⟩ := hrel
  have HT := Lib.hid hT
  have Hall := Lib.hid hall
  clear hT hall
  obtain ⟨x0, x1, x2, x3, x4, x5, xf⟩ := row6 HT.out
  have l0 := row_lt HT.out
  by_cases hlt : k < dks.length
  ·obtain ⟨p, o, rfl, -, hbl, hcell⟩ := hK (by omega)
   obtain ⟨s, hs⟩ := exists_at hlt
   obtain ⟨es, -, hcs, rfl, hss⟩ := hcell k s hs
   have hc0 := (hbr.cell (p := ⟨p, o + k * 1 + 0, none⟩) hbl).trans (hcs 0 (by omega))
   simp at hc0
   have hbr1 := Nat.lt_of_lt_of_le hbl hbr.size
   have hk0 : (0 : Int) <= k := by omega
   have hk1 : (k : Int) < dks.length := by omega
   have HS := Lib.hid hs
   have HCl := Lib.hid hcell
   clear hcs hcell hs hK hA
   go_upto_region 8 with fail
   go_cut [104] from 88 to 104 (fun s wx => s = .bool (!keyOk dks k) /\ Below wr.heap.size wr wx)
   case first =>
    rcases hst : strB s with _ | _
    ·have HV := Lib.hid (keyOk_none HS.out hst)
     go_wp2_with (go_at_call 215; refine (c_impl_stringOk _ _ (HT0.out.below hbr) (by omega)).mono ?_; rintro e w9 ⟨rfl, hb9⟩)
     go_meet
     exact ⟨by rw [HV.out]; rfl, hb9⟩
    ·rcases k with _ | j
     ·have HV := Lib.hid ((keyOk_zero HS.out).trans hst)
      go_wp2_with (go_at_call 215; refine (c_impl_stringOk _ _ (HT0.out.below hbr) (by omega)).mono ?_; rintro e w9 ⟨rfl, hb9⟩)
      go_meet
      exact ⟨by rw [HV.out]; rfl, hb9⟩
     ·obtain ⟨r, hr⟩ := exists_at (show j < dks.length by omega)
      obtain ⟨es, -, hcs, rfl, hrs⟩ := HCl.out j r hr
      have hd0 := (hbr.cell (p := ⟨p, o + j * 1 + 0, none⟩) hbl).trans (hcs 0 (by omega))
      simp at hd0
      have hj0 : (0 : Int) < ((j + 1 : Nat) : Int) := by omega
      obtain ⟨y, hy⟩ : ∃ y : Nat, y = j + 1 := ⟨_, rfl⟩
      have HV := Lib.hid ((keyOk_succ HS.out hr).trans (by rw [hst, Bool.true_and]))
      have HY := Lib.hid hy
      have hji : (y : Int) - 1 = (j : Int) := by omega
      have hj1 : (0 : Int) <= j := by omega
      have hj2 : (j : Int) < dks.length := by omega
      rw [<- hy] at hc0 hk0 hk1 hj0 HV ⊢
      clear hcs hr hy hk hlt
      rcases hls : lessS r s with _ | _
      ·have g1 : Op.bytesLess r.toList s.toList = false := hls
       have HV2 := Lib.hid (HV.out.trans hls)
       clear hls HV
       go_wp2_with (go_at_call 215; refine (c_impl_stringOk _ _ (HT0.out.below hbr) (by omega)).mono ?_; rintro e w9 ⟨rfl, hb9⟩; obtain ⟨m0, m1, m2, m3, m4, m5, mf⟩ := row6 ((hb9.block _ l0).trans HT.out); have lm := Nat.lt_of_lt_of_le l0 hb9.size; have e0 := (hb9.cell (p := ⟨p, o + j, none⟩) hbr1).trans hd0; have le := Nat.lt_of_lt_of_le hbr1 hb9.size)
       all_goals
        have hy := HY.out
        subst hy
        go_meet
        exact ⟨by rw [HV2.out]; simp_all, hb9⟩
      ·have g1 : Op.bytesLess r.toList s.toList = true := hls
       have HV2 := Lib.hid (HV.out.trans hls)
       clear hls HV
       go_wp2_with (go_at_call 215; refine (c_impl_stringOk _ _ (HT0.out.below hbr) (by omega)).mono ?_; rintro e w9 ⟨rfl, hb9⟩; obtain ⟨m0, m1, m2, m3, m4, m5, mf⟩ := row6 ((hb9.block _ l0).trans HT.out); have lm := Nat.lt_of_lt_of_le l0 hb9.size; have e0 := (hb9.cell (p := ⟨p, o + j, none⟩) hbr1).trans hd0; have le := Nat.lt_of_lt_of_le hbr1 hb9.size)
       all_goals
        have hy := HY.out
        subst hy
        go_meet
        exact ⟨by rw [HV2.out]; simp_all, hb9⟩
   case rest =>
    obtain ⟨rfl, hb9⟩ := hcut
    have HT9 := Lib.hid ((hb9.block _ l0).trans HT.out)
    have hbr9 := hbr.trans (hb9.mono hbr.size)
    obtain ⟨q3, hq3⟩ : ∃ q, q = keyOk dks k := ⟨_, rfl⟩
    rw [<- hq3]
    rcases q3 with _ | _
    ·have HX := Lib.hid (show z = false by rw [hE.out, allR_bad _ k _ hlt hq3.symm]; rfl)
     clear hE hq3
     go_wp2_with fail
     go_ret
     exact ⟨ret_bool HX.out.symm, bel⟩
    ·have Hn := Lib.hid (show allR (k + 1) (keyOk dks) = true by rw [allR_succ, Hall.out, <- hq3]; rfl)
     clear hq3 hbr hb9 hc0 x0 x1 x2 x3 x4 x5 xf
     go_wp2_with fail
     go_roundw
     case rel => exact ⟨k + 1, by omega, by go_num, Hn.out, HT9.out, hbr9⟩
     case measure => simp [intOf]; omega
  ·obtain rfl : k = dks.length := by omega
   have hE2 := Lib.hid (show z = allR dkd.length (kidAt (shapeT n) dkd) by rw [hE.out, Hall.out]; rfl)
   have hke : decide (dks.length < dks.length) = false := decide_eq_false (Nat.lt_irrefl _)
   clear hK hE Hall
   go_wp2_with fail
   go_loopw [109] (fun v wr => ∃ k : Nat, k <= dkd.length /\ v = .int .i64 k /\ allR k (kidAt (shapeT n) dkd) = true /\ Below w.heap.size w wr) (fun v _ => dkd.length - (intOf v).toNat)
   case atStart => exact ⟨0, Nat.zero_le _, rfl, rfl, hbr⟩
   case round =>
    have hb0 := hbr
    clear hbr hb0 HT x0 x1 x2 x3 x4 x5 xf l0
    obtain ⟨k, hk, rfl, hall, hbr⟩ := hrel
    have Hall := Lib.hid hall
    clear hall
    by_cases hlt : k < dkd.length
    ·obtain ⟨p, o, rfl, -, hbl, hcell⟩ := hA (by omega)
     obtain ⟨t, ht⟩ := exists_at hlt
     obtain ⟨es, -, hcs, hC⟩ := hcell k t ht
     obtain ⟨eA4, ec4, eA5, ec5, rfl, ea0, ea2, ea3⟩ := hC.flat
     have hc0 := (hbr.cell (p := ⟨p, o + k * 6 + 0, none⟩) (by simp; omega)).trans (hcs 0 (by omega))
     simp at hc0
     have hc1 := (hbr.cell (p := ⟨p, o + k * 6 + 1, none⟩) (by simp; omega)).trans (hcs 1 (by omega))
     simp at hc1
     have hc2 := (hbr.cell (p := ⟨p, o + k * 6 + 2, none⟩) (by simp; omega)).trans (hcs 2 (by omega))
     simp at hc2
     have hc3 := (hbr.cell (p := ⟨p, o + k * 6 + 3, none⟩) (by simp; omega)).trans (hcs 3 (by omega))
     simp at hc3
     have hc4 := (hbr.cell (p := ⟨p, o + k * 6 + 4, none⟩) (by simp; omega)).trans (hcs 4 (by omega))
     simp at hc4
     have hc5 := (hbr.cell (p := ⟨p, o + k * 6 + 5, none⟩) (by simp; omega)).trans (hcs 5 (by omega))
     simp at hc5
     have hbr1 := Nat.lt_of_lt_of_le hbl hbr.size
     have hk0 : (0 : Int) <= k := by omega
     have hk1 : (k : Int) < dkd.length := by omega
     have HC := Lib.hid hC
     have HKi := Lib.hid (kidAt_eq (f := shapeT n) ht)
     clear hcs hcell hA hC ht
     rcases q0 : shapeT n t with _ | _
     ·have HX := Lib.hid (show z = false by rw [hE2.out]; exact allR_bad _ k _ hlt (by rw [HKi.out, q0]))
      go_wp2_with (go_at_call 152; refine (ih t _ _ _ (HC.out.now bel) (HT0.out.below bel)).mono ?_; rintro e w9 ⟨rfl, hb9⟩)
      go_ret
      exact ⟨ret_bool HX.out.symm, bel⟩
     ·have Hn := Lib.hid (show allR (k + 1) (kidAt (shapeT n) dkd) = true by rw [allR_succ, Hall.out, HKi.out, q0]; rfl)
      go_wp2_with (go_at_call 152; refine (ih t _ _ _ (HC.out.now bel) (HT0.out.below bel)).mono ?_; rintro e w9 ⟨rfl, hb9⟩)
      go_roundw
      case rel => ((repeat apply Exists.intro); exact ⟨⟨k + 1, by omega, by go_num, Hn.out, bel⟩, rfl⟩)
      case measure => simp [intOf]; omega
    ·obtain rfl : k = dkd.length := by omega
     have HX := Lib.hid (show z = true by rw [hE2.out]; exact Hall.out)
     clear hA
     go_wp2_with fail
     go_ret
     exact ⟨ret_bool HX.out.symm, bel⟩
theorem all_nodI : ∀ n, T_nodI n
 | 0 => fun _ _ _ _ h _ => (C_Tree.none h).elim
 | n + 1 => of_nodI n (all_nodI n)
def T_nodS (n : Nat) : Prop := ∀ (d : TreeD) (cs : List Value) (w : World) (lo : Nat), C_Tree n lo w.heap.size w d cs ->
  Calls Tryz.prog 59 #[.agg cs.toArray] w fun e w' => e = .returned (.bool (shapeT n d)) /\ Below w.heap.size w w'
theorem of_nodS (n : Nat) (ih : T_nodS n) : T_nodS (n + 1) := by
 intro d cs w lo h
 obtain ⟨v4, v5, rfl, a0, a2, a3, a4, a5⟩ := C_Tree.out h
 obtain ⟨A4, c4, rfl, hlk, hck, hK⟩ := a4
 obtain ⟨A5, c5, rfl, hlc, hcc, hA⟩ := a5
 have Hf := Lib.hid (shapeT_succ n d)
 clear h
 obtain ⟨dk, df, dn, dt, dks, dkd⟩ := d
 simp only at a0 a2 a3 hlk hK hlc hA ⊢
 obtain ⟨z, hz⟩ : ∃ z, z = shapeT (n + 1) ⟨dk, df, dn, dt, dks, dkd⟩ := ⟨_, rfl⟩
 rw [<- hz] at Hf ⊢
 simp only at Hf
 clear hz
 obtain ⟨W0, hW0⟩ : ∃ W, W = w.alloc (.cells #[.int .i64 dk, .bool df, .int .i64 dn, .string dt, .slice A4 dks.length c4, .slice A5 dkd.length c5] 34) := ⟨_, rfl⟩
 have hB0 : Below w.heap.size w W0 := by rw [hW0]; exact bel
 have HR0 := Lib.hid (show W0.heap[w.heap.size]? = some (.cells #[.int .i64 dk, .bool df, .int .i64 dn, .string dt, .slice A4 dks.length c4, .slice A5 dkd.length c5] 34 (0, 0)) by rw [hW0]; exact heap_at rfl)
 have HW0 := Lib.hid hW0
 clear hW0
 go_enter Tryz.func59, Tryz.ntmps59
 go_upto_region 1 with fail
 obtain ⟨x0, x1, x2, x3, x4, x5, xf⟩ := row6 HR0.out
 have l0 := row_lt HR0.out
 go_cut [65] from 5 to 65 (fun s65 wx => s65 = .bool (!(!badH ⟨dk, df, dn, dt, dks, dkd⟩ && strB dt)) /\ Below W0.heap.size W0 wx)
 case first =>
  rw [<- HW0.out]
  clear Hf hK hA HW0
  have hbb : Below W0.heap.size W0 W0 := Below.refl _ _
  go_wp2_with (first | (go_at_call 115; refine (c_spec_l01In _ _ _ _).mono ?_; rintro e w1 ⟨rfl, rfl⟩) | (go_at_call 116; refine (c_spec_l08Text _ _).mono ?_; rintro e w9 ⟨rfl, hb9⟩))
  all_goals
   (try simp only [Bool.not_eq_true] at *)
   (try subst_vars)
   go_meet
   refine ⟨?_, by first | exact hb9 | exact Below.refl _ _⟩
   congr 1
  all_goals (unfold badH; simp_all; done)
 case rest =>
 obtain ⟨rfl, hb1⟩ := hcut
 have HR1 := Lib.hid ((hb1.block _ l0).trans HR0.out)
 have hB1 := hB0.trans (hb1.mono hB0.size)
 obtain ⟨q1, hq1⟩ : ∃ q, q = (!badH ⟨dk, df, dn, dt, dks, dkd⟩ && strB dt) := ⟨_, rfl⟩
 have hE0 := Lib.hid (show z = ((!badH ⟨dk, df, dn, dt, dks, dkd⟩ && strB dt) && lensOk ⟨dk, df, dn, dt, dks, dkd⟩ && allR dks.length (keyOk dks) && allR dkd.length (kidAt (shapeT n) dkd)) from Hf.out)
 rw [<- hq1] at hE0 ⊢
 clear hq1 Hf HR0 HW0 hB0 hb1 x0 x1 x2 x3 x4 x5 xf l0
 rcases q1 with _ | _
 ·have HX := Lib.hid (show z = false by rw [hE0.out]; rfl)
  go_wp2_with fail
  go_ret
  exact ⟨ret_bool HX.out.symm, bel⟩
 obtain ⟨x0, x1, x2, x3, x4, x5, xf⟩ := row6 HR1.out
 have l0 := row_lt HR1.out
 have hE1 := Lib.hid (show z = (lensOk ⟨dk, df, dn, dt, dks, dkd⟩ && allR dks.length (keyOk dks) && allR dkd.length (kidAt (shapeT n) dkd)) by rw [hE0.out]; rfl)
 clear hE0
 go_upto_region 3 with fail
 go_cut [77] from 66 to 77 (fun s77 wx => s77 = .bool (!lensOk ⟨dk, df, dn, dt, dks, dkd⟩) /\ wx = wc)
 case first =>
  clear hE1 hK hA
  by_cases hk6 : dk = 6
  ·by_cases hln : dks.length = dkd.length
   ·have d1 : (dk == 6) = true := by simp [hk6]
    have d2 : ((dks.length : Int) != dkd.length) = false := by simp [hln]
    have HV := Lib.hid (show lensOk ⟨dk, df, dn, dt, dks, dkd⟩ = true by unfold lensOk; simp [hk6, hln])
    clear hk6 hln
    go_wp2_with fail
    go_meet
    exact ⟨by rw [HV.out]; rfl, rfl⟩
   ·have d1 : (dk == 6) = true := by simp [hk6]
    have d2 : ((dks.length : Int) != dkd.length) = true := bne_iff_ne.2 (by omega)
    have HV := Lib.hid (show lensOk ⟨dk, df, dn, dt, dks, dkd⟩ = false by unfold lensOk; simp [hk6, hln])
    clear hk6 hln
    go_wp2_with fail
    go_meet
    exact ⟨by rw [HV.out]; rfl, rfl⟩
  ·have d1 : (dk == 6) = false := beq_eq_false_iff_ne.2 hk6
   have HV := Lib.hid (show lensOk ⟨dk, df, dn, dt, dks, dkd⟩ = true by unfold lensOk; simp [hk6])
   clear hk6
   go_wp2_with fail
   go_meet
   exact ⟨by rw [HV.out]; rfl, rfl⟩
 case rest =>
 obtain ⟨rfl, hwc⟩ := hcut
 subst hwc
 obtain ⟨q2, hq2⟩ : ∃ q, q = lensOk ⟨dk, df, dn, dt, dks, dkd⟩ := ⟨_, rfl⟩
 rw [<- hq2] at hE1 ⊢
 clear hq2
 rcases q2 with _ | _
 ·have HX := Lib.hid (show z = false by rw [hE1.out]; rfl)
  go_wp2_with fail
  go_ret
  exact ⟨ret_bool HX.out.symm, bel⟩
 have hE := Lib.hid (show z = (allR dks.length (keyOk dks) && allR dkd.length (kidAt (shapeT n) dkd)) by rw [hE1.out]; rfl)
 clear hE1
 go_wp2_with fail
 go_loopw [3] (fun v wr => ∃ k : Nat, k <= dks.length /\ v = .int .i64 k /\ allR k (keyOk dks) = true /\ wr.heap[w.heap.size]? = some (.cells #[.int .i64 dk, .bool df, .int .i64 dn, .string dt, .slice A4 dks.length c4, .slice A5 dkd.length c5] 34 (0, 0)) /\ Below w.heap.size w wr) (fun v _ => dks.length - (intOf v).toNat)
 case atStart => exact ⟨0, Nat.zero_le _, rfl, rfl, HR1.out, hB1⟩
 case round =>
  clear x0 x1 x2 x3 x4 x5 xf l0 HR1 hB1
  obtain ⟨k, hk, rfl, hall, hT, hbr⟩ := hrel
  have HT := Lib.hid hT
  have Hall := Lib.hid hall
  clear hT hall
  obtain ⟨x0, x1, x2, x3, x4, x5, xf⟩ := row6 HT.out
  have l0 := row_lt HT.out
  by_cases hlt : k < dks.length
  ·obtain ⟨p, o, rfl, -, hbl, hcell⟩ := hK (by omega)
   obtain ⟨s, hs⟩ := exists_at hlt
   obtain ⟨es, -, hcs, rfl, hss⟩ := hcell k s hs
   have hc0 := (hbr.cell (p := ⟨p, o + k * 1 + 0, none⟩) hbl).trans (hcs 0 (by omega))
   simp at hc0
   have hbr1 := Nat.lt_of_lt_of_le hbl hbr.size
   have hk0 : (0 : Int) <= k := by omega
   have hk1 : (k : Int) < dks.length := by omega
   have HS := Lib.hid hs
   have HCl := Lib.hid hcell
   clear hcs hcell hs hK hA
   go_upto_region 8 with fail
   go_cut [109] from 85 to 109 (fun s wx => s = .bool (!keyOk dks k) /\ Below wr.heap.size wr wx)
   case first =>
    rcases hst : strB s with _ | _
    ·have HV := Lib.hid (keyOk_none HS.out hst)
     refine wp_region_det 25 (by kernel_rfl) (by kernel_rfl) (by decide) ?_
     iterate 25 ((try simp only [Bool.not_true]); apply Exists.intro; refine And.intro ?_ ?_; (focus (intro W hW; (try simp only [Act.put, List.setIfInBounds_toArray, List.set_cons_zero, List.set_cons_succ]); first | (exact wpList_skip rfl ⟨rfl, rfl, Below.refl _ _⟩) | (obtain ⟨hcW, hfW⟩ := bcell hW; have hsW := hW.size; (try simp at hsW); (try have hsW0 := lt_of_succ_le hsW); (try (have hsW1 := lt_pred hsW; (try (have hsW2 := lt_pred hsW1)))); go_wp2_with (first | (go_at_call 116; refine (c_spec_l08Text _ _).mono ?_; rintro e w9 ⟨rfl, hb9⟩)); exact ⟨rfl, rfl, bel⟩))))
     intro wq hbwq
     (try simp only [Act.put, List.setIfInBounds_toArray, List.set_cons_zero, List.set_cons_succ])
     (try simp only [List.drop_succ_cons, List.drop_nil])
     have hb := hbwq
     go_wp2_with fail
     go_meet
     exact ⟨by rw [HV.out]; rfl, hb⟩
    ·by_cases hk00 : k = 0
     ·have HV := Lib.hid (show keyOk dks k = true by rw [<- hst]; have h := HS.out; subst hk00; exact keyOk_zero h)
      have d0 : decide (0 < k) = false := decide_eq_false (by omega)
      have dI : decide ((0 : Int) < k) = false := decide_eq_false (by omega)
      clear hk00
      refine wp_region_det 25 (by kernel_rfl) (by kernel_rfl) (by decide) ?_
      iterate 25 ((try simp only [Bool.not_true]); apply Exists.intro; refine And.intro ?_ ?_; (focus (intro W hW; (try simp only [Act.put, List.setIfInBounds_toArray, List.set_cons_zero, List.set_cons_succ]); first | (exact wpList_skip rfl ⟨rfl, rfl, Below.refl _ _⟩) | (obtain ⟨hcW, hfW⟩ := bcell hW; have hsW := hW.size; (try simp at hsW); (try have hsW0 := lt_of_succ_le hsW); (try (have hsW1 := lt_pred hsW; (try (have hsW2 := lt_pred hsW1)))); go_wp2_with (first | (go_at_call 116; refine (c_spec_l08Text _ _).mono ?_; rintro e w9 ⟨rfl, hb9⟩)); exact ⟨rfl, rfl, bel⟩))))
      intro wq hbwq
      (try simp only [Act.put, List.setIfInBounds_toArray, List.set_cons_zero, List.set_cons_succ])
      (try simp only [List.drop_succ_cons, List.drop_nil])
      have hb := hbwq
      go_wp2_with fail
      go_meet
      exact ⟨by rw [HV.out]; rfl, hb⟩
     ·obtain ⟨j, hj⟩ : ∃ j, k = j + 1 := ⟨k - 1, by omega⟩
      obtain ⟨r, hr⟩ := exists_at (show j < dks.length by omega)
      obtain ⟨es, -, hcs, rfl, hrs⟩ := HCl.out j r hr
      have hd0 := (hbr.cell (p := ⟨p, o + j * 1 + 0, none⟩) hbl).trans (hcs 0 (by omega))
      simp at hd0
      have d0 : decide (0 < k) = true := decide_eq_true (by omega)
      have dI : decide ((0 : Int) < k) = true := decide_eq_true (by omega)
      have HV := Lib.hid (show keyOk dks k = lessS r s by have h := HS.out; subst hj; rw [keyOk_succ h hr, hst, Bool.true_and])
      have hji : (k : Int) - 1 = (j : Int) := by omega
      have hj1 : (0 : Int) <= j := by omega
      have hj2 : (j : Int) < dks.length := by omega
      clear hcs hr hk hlt hj hk00
      rcases hls : lessS r s with _ | _
      ·have g1 : Op.bytesLess r.toList s.toList = false := hls
       have HV2 := Lib.hid (HV.out.trans hls)
       clear hls HV
       refine wp_region_det 25 (by kernel_rfl) (by kernel_rfl) (by decide) ?_
       iterate 25 ((try simp only [Bool.not_true]); apply Exists.intro; refine And.intro ?_ ?_; (focus (intro W hW; (try simp only [Act.put, List.setIfInBounds_toArray, List.set_cons_zero, List.set_cons_succ]); first | (exact wpList_skip rfl ⟨rfl, rfl, Below.refl _ _⟩) | (obtain ⟨hcW, hfW⟩ := bcell hW; have hsW := hW.size; (try simp at hsW); (try have hsW0 := lt_of_succ_le hsW); (try (have hsW1 := lt_pred hsW; (try (have hsW2 := lt_pred hsW1)))); go_wp2_with (first | (go_at_call 116; refine (c_spec_l08Text _ _).mono ?_; rintro e w9 ⟨rfl, hb9⟩)); exact ⟨rfl, rfl, bel⟩))))
       intro wq hbwq
       (try simp only [Act.put, List.setIfInBounds_toArray, List.set_cons_zero, List.set_cons_succ])
       (try simp only [List.drop_succ_cons, List.drop_nil])
       have hb := hbwq
       go_wp2_with fail
       go_meet
       exact ⟨by rw [HV2.out]; simp_all, hb⟩
      ·have g1 : Op.bytesLess r.toList s.toList = true := hls
       have HV2 := Lib.hid (HV.out.trans hls)
       clear hls HV
       refine wp_region_det 25 (by kernel_rfl) (by kernel_rfl) (by decide) ?_
       iterate 25 ((try simp only [Bool.not_true]); apply Exists.intro; refine And.intro ?_ ?_; (focus (intro W hW; (try simp only [Act.put, List.setIfInBounds_toArray, List.set_cons_zero, List.set_cons_succ]); first | (exact wpList_skip rfl ⟨rfl, rfl, Below.refl _ _⟩) | (obtain ⟨hcW, hfW⟩ := bcell hW; have hsW := hW.size; (try simp at hsW); (try have hsW0 := lt_of_succ_le hsW); (try (have hsW1 := lt_pred hsW; (try (have hsW2 := lt_pred hsW1)))); go_wp2_with (first | (go_at_call 116; refine (c_spec_l08Text _ _).mono ?_; rintro e w9 ⟨rfl, hb9⟩)); exact ⟨rfl, rfl, bel⟩))))
       intro wq hbwq
       (try simp only [Act.put, List.setIfInBounds_toArray, List.set_cons_zero, List.set_cons_succ])
       (try simp only [List.drop_succ_cons, List.drop_nil])
       have hb := hbwq
       go_wp2_with fail
       go_meet
       exact ⟨by rw [HV2.out]; simp_all, hb⟩
   case rest =>
    obtain ⟨rfl, hb9⟩ := hcut
    have HT9 := Lib.hid ((hb9.block _ l0).trans HT.out)
    have hbr9 := hbr.trans (hb9.mono hbr.size)
    obtain ⟨q3, hq3⟩ : ∃ q, q = keyOk dks k := ⟨_, rfl⟩
    rw [<- hq3]
    rcases q3 with _ | _
    ·have HX := Lib.hid (show z = false by rw [hE.out, allR_bad _ k _ hlt hq3.symm]; rfl)
     clear hE hq3
     go_wp2_with fail
     go_ret
     exact ⟨ret_bool HX.out.symm, bel⟩
    ·have Hn := Lib.hid (show allR (k + 1) (keyOk dks) = true by rw [allR_succ, Hall.out, <- hq3]; rfl)
     clear hq3 hbr hb9 hc0 x0 x1 x2 x3 x4 x5 xf
     go_wp2_with fail
     go_roundw
     case rel => exact ⟨k + 1, by omega, by go_num, Hn.out, HT9.out, hbr9⟩
     case measure => simp [intOf]; omega
  ·obtain rfl : k = dks.length := by omega
   have hE2 := Lib.hid (show z = allR dkd.length (kidAt (shapeT n) dkd) by rw [hE.out, Hall.out]; rfl)
   have hke : decide (dks.length < dks.length) = false := decide_eq_false (Nat.lt_irrefl _)
   clear hK hE Hall
   go_wp2_with fail
   go_loopw [4] (fun v wr => ∃ k : Nat, k <= dkd.length /\ v = .int .i64 k /\ allR k (kidAt (shapeT n) dkd) = true /\ wr.heap[w.heap.size]? = some (.cells #[.int .i64 dk, .bool df, .int .i64 dn, .string dt, .slice A4 dks.length c4, .slice A5 dkd.length c5] 34 (0, 0)) /\ Below w.heap.size w wr) (fun v _ => dkd.length - (intOf v).toNat)
   case atStart => exact ⟨0, Nat.zero_le _, rfl, rfl, HT.out, hbr⟩
   case round =>
    have hb0 := hbr
    clear hbr hb0 HT x0 x1 x2 x3 x4 x5 xf l0
    obtain ⟨k, hk, rfl, hall, hT, hbr⟩ := hrel
    have HT := Lib.hid hT
    have Hall := Lib.hid hall
    clear hall hT
    obtain ⟨x0, x1, x2, x3, x4, x5, xf⟩ := row6 HT.out
    have l0 := row_lt HT.out
    by_cases hlt : k < dkd.length
    ·obtain ⟨p, o, rfl, -, hbl, hcell⟩ := hA (by omega)
     obtain ⟨t, ht⟩ := exists_at hlt
     obtain ⟨es, -, hcs, hC⟩ := hcell k t ht
     obtain ⟨eA4, ec4, eA5, ec5, rfl, ea0, ea2, ea3⟩ := hC.flat
     have hc0 := (hbr.cell (p := ⟨p, o + k * 6 + 0, none⟩) (by simp; omega)).trans (hcs 0 (by omega))
     simp at hc0
     have hc1 := (hbr.cell (p := ⟨p, o + k * 6 + 1, none⟩) (by simp; omega)).trans (hcs 1 (by omega))
     simp at hc1
     have hc2 := (hbr.cell (p := ⟨p, o + k * 6 + 2, none⟩) (by simp; omega)).trans (hcs 2 (by omega))
     simp at hc2
     have hc3 := (hbr.cell (p := ⟨p, o + k * 6 + 3, none⟩) (by simp; omega)).trans (hcs 3 (by omega))
     simp at hc3
     have hc4 := (hbr.cell (p := ⟨p, o + k * 6 + 4, none⟩) (by simp; omega)).trans (hcs 4 (by omega))
     simp at hc4
     have hc5 := (hbr.cell (p := ⟨p, o + k * 6 + 5, none⟩) (by simp; omega)).trans (hcs 5 (by omega))
     simp at hc5
     have hbr1 := Nat.lt_of_lt_of_le hbl hbr.size
     have hk0 : (0 : Int) <= k := by omega
     have hk1 : (k : Int) < dkd.length := by omega
     have HC := Lib.hid hC
     have HKi := Lib.hid (kidAt_eq (f := shapeT n) ht)
     clear hcs hcell hA hC ht
     rcases q0 : shapeT n t with _ | _
     ·have HX := Lib.hid (show z = false by rw [hE2.out]; exact allR_bad _ k _ hlt (by rw [HKi.out, q0]))
      go_wp2_with (go_at_call 59; refine (ih t _ _ _ (HC.out.now bel)).mono ?_; rintro e w9 ⟨rfl, hb9⟩)
      go_ret
      exact ⟨ret_bool HX.out.symm, bel⟩
     ·have Hn := Lib.hid (show allR (k + 1) (kidAt (shapeT n) dkd) = true by rw [allR_succ, Hall.out, HKi.out, q0]; rfl)
      go_wp2_with (go_at_call 59; refine (ih t _ _ _ (HC.out.now bel)).mono ?_; rintro e w9 ⟨rfl, hb9⟩)
      have HT9 := Lib.hid ((hb9.block _ l0).trans HT.out)
      go_roundw
      case rel => ((repeat apply Exists.intro); exact ⟨⟨k + 1, by omega, by go_num, Hn.out, HT9.out, bel⟩, rfl⟩)
      case measure => simp [intOf]; omega
    ·obtain rfl : k = dkd.length := by omega
     have HX := Lib.hid (show z = true by rw [hE2.out]; exact Hall.out)
     clear hA
     go_wp2_with fail
     go_ret
     exact ⟨ret_bool HX.out.symm, bel⟩
theorem all_nodS : ∀ n, T_nodS n
 | 0 => fun _ _ _ _ h => (C_Tree.none h).elim
 | n + 1 => of_nodS n (all_nodS n)
end Go.Proofs.YtohcpifekcehjaaGreatDoor
