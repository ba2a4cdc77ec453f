/- Written by wip/tools/pack.py: the texts that FnBraced needs, without what it does not need. No conditions. -/
import Derived.Test.YtffelpdefjkeaaaGreatDoorKFnBraced5
import Derived.Test.YtffelpdefjkeaaaGreatDoorKFnBraced7
import Derived.Deep.CutRange
import Derived.Deep.CutBlock
import Derived.Deep.RegionLaw
import Derived.Test.YtffelpdefjkeaaaGreatDoorKFnBraced1
import Derived.Test.YtffelpdefjkeaaaGreatDoorKFnBraced6
import Derived.Test.YtffelpdefjkeaaaGreatDoorKFnBraced3
import Derived.Deep.AppendLies
import Derived.OwnWalk
namespace Go.Proofs.YtffelpdefjkeaaaGreatDoor
open Go.RowKit Go.Lib
/-- A slice of the call's own holds the bytes M. -/
def BufB (base : Nat) (w : World) (M : List UInt8) (v : Value) : Prop := w.ownsRow base 5 1 v M.length (Lib.strCells ⟨M.toArray⟩)
theorem BufB.below {base : Nat} {w w' : World} {M : List UInt8} {v : Value} (h : BufB base w M v) (hb : Below w.heap.size w w') : BufB base w' M v := ownsRow_carry h (fun q hq => hb.block q (World.ownsRow.lt h q hq).2)
theorem cells_one (l : List UInt8) : ∀ x ∈ Lib.strCells ⟨l.toArray⟩, x.oneCell' = true := by
  intro x hx
  unfold Lib.strCells at hx
  rw [List.mem_map] at hx
  obtain ⟨b, -, rfl⟩ := hx
  rfl
theorem cells_len (l : List UInt8) : (Lib.strCells ⟨l.toArray⟩).length = l.length := by unfold Lib.strCells; rw [List.length_map]
theorem own_lit {w : World} {bs : List UInt8} {k : Nat} (hk : k = bs.length) (hm : k ≤ 1048576) {cs : List Value} (hcs : cs = Lib.strCells ⟨bs.toArray⟩) :
    (w.alloc (.cells cs.toArray 5)).ownsRow w.heap.size 5 1 (.slice (some ⟨w.heap.size, 0, none⟩) k k) k (Lib.strCells ⟨bs.toArray⟩) := by
  have hl := cells_len bs
  subst hcs hk
  exact ⟨by rw [hl, Nat.mul_one], .inr ⟨w.heap.size, bs.length, (Lib.strCells ⟨bs.toArray⟩).toArray, rfl, Nat.le_refl _, heap_alloc_new w _, Nat.le_refl _, by unfold maxLen; omega, by rw [List.size_toArray, hl]; omega, by rw [List.take_of_length_le (by simp [hl])]⟩⟩
theorem run_buf (wx : World) (base n c k : Nat) (A : Option Addr) (M bs : List UInt8) (cs : List Value) (hn : n = M.length) (h : BufB base wx M (.slice A n c)) (hk : k = bs.length) (hcs : cs = Lib.strCells ⟨bs.toArray⟩) (hsz : n + k ≤ 1073741824) (hk2 : k ≤ 1048576) (hbase : base ≤ wx.heap.size) :
    ∃ (A' : Option Addr) (c' : Nat) (w' : World), (Builtin.append_ #[37, 37] 37 #[.slice A n c, .slice (some ⟨wx.heap.size, 0, none⟩) k k]).run Tryz.prog (wx.alloc (.cells cs.toArray 5)) = .ok (.slice A' (n + k) c') w' ∧ BufB base w' (M ++ bs) (.slice A' (n + k) c') ∧ Below base wx w' := by
  obtain ⟨i0, hi, hz0, hz1, hz2⟩ := info_parts (show (Tryz.prog.info? 5).map (fun i => (i.zero, i.size, i.bytes)) = some (some (.int .u8 0), 1, 1) from by kernel_rfl)
  unfold BufB at h
  rw [← hn] at h
  have hb : Below wx.heap.size wx (wx.alloc (.cells cs.toArray 5)) := bel
  have h' := ownsRow_carry h (fun q hq => hb.block q (World.ownsRow.lt h q hq).2)
  obtain ⟨v', w', hr, h2, h3, h5⟩ := run_append_row (P := Tryz.prog) (wx.alloc (.cells cs.toArray 5)) 37 37 base 5 i0 (.int .u8 0) 1 1 Tryz.underlying37 hi hz0 hz1 hz2 rfl (by decide) (.slice A n c) n _ h' wx.heap.size k _ _ (own_lit hk hk2 hcs) (cells_one bs) (by unfold maxLen; omega) (by omega) (by simp; omega)
  obtain ⟨A', c', rfl⟩ := own_form h2
  refine ⟨A', c', w', hr, ?_, Below.grown (hb.mono hbase) h3 (by simp; omega) (fun q hq => (World.ownsRow.lt h q hq).1)⟩
  unfold BufB
  rw [List.length_append, ← hn, ← hk]
  rw [strCells_list] at h2
  exact h2
end Go.Proofs.YtffelpdefjkeaaaGreatDoor
namespace Go.Proofs.YtffelpdefjkeaaaGreatDoor
open Go.RowKit Go.Lib
def escK (b : Nat) : Int := if b = 8 then 0 else if b = 12 then 1 else if b = 10 then 2 else if b = 13 then 3 else if b = 9 then 4 else -1
set_option maxRecDepth 1000000 in
theorem idx_escK : ∀ i : Fin 256, Lib.indexByte [8, 12, 10, 13, 9] (UInt8.ofNat i.val) = escK i.val := by decide
theorem c_IndexEscK (b : Nat) (hb : b < 256) (w : World) : Calls Tryz.prog 65 #[.string { data := #[8, 12, 10, 13, 9] }, .int .u8 b] w fun e w' => e = .returned (.int .i64 (escK b)) ∧ w = w' := by
  have h := c_strings_IndexByte { data := #[8, 12, 10, 13, 9] } (UInt8.ofNat b) w
  have e1 : (UInt8.ofNat b).toNat = b := by rw [UInt8.toNat_ofNat']; exact Nat.mod_eq_of_lt hb
  rw [e1] at h
  exact h.mono (fun _ _ h => ⟨h.1.trans (congrArg (fun z => Ending.returned (Value.int .i64 z)) (idx_escK ⟨b, hb⟩)), h.2⟩)
theorem hexd : ∀ (x : Nat) (h : x < 16), (({ data := #[48, 49, 50, 51, 52, 53, 54, 55, 56, 57, 97, 98, 99, 100, 101, 102] } : ByteArray)[x]'h).toNat = (figU x).toNat := by
  intro x h
  have h16 : x = 0 ∨ x = 1 ∨ x = 2 ∨ x = 3 ∨ x = 4 ∨ x = 5 ∨ x = 6 ∨ x = 7 ∨ x = 8 ∨ x = 9 ∨ x = 10 ∨ x = 11 ∨ x = 12 ∨ x = 13 ∨ x = 14 ∨ x = 15 := by omega
  rcases h16 with rfl | rfl | rfl | rfl | rfl | rfl | rfl | rfl | rfl | rfl | rfl | rfl | rfl | rfl | rfl | rfl <;> rfl
theorem take_flat {s : ByteArray} {k : Nat} {c : UInt8} (h : s.data.toList[k]? = some c) : (s.data.toList.take (k + 1)).flatMap qB = (s.data.toList.take k).flatMap qB ++ qB c := by
  rw [List.take_add_one, h]
  simp
set_option maxHeartbeats 8000000 in
set_option maxRecDepth 20000 in
theorem c_impl_Quoted (s : ByteArray) (w : World) (hs : s.size ≤ 1048576) (hT : Tabs w) :
    Calls Tryz.prog 85 #[.string s] w fun e w' => e = .returned (.string (quoteB s)) ∧ Below w.heap.size w w' := by
  have HU := Lib.hid (c_impl_Utf8Ok s w (by omega) hT)
  obtain ⟨r, hr⟩ : ∃ r, r = quoteB s := ⟨_, rfl⟩
  rw [← hr]
  clear hT
  rcases hu : utf8B s with _ | _
  · have HR := Lib.hid (show r = ⟨#[]⟩ by rw [hr]; unfold quoteB; rw [hu]; rfl)
    clear hr
    go_enter Tryz.func85, Tryz.ntmps85
    go_wp2_with (go_at_call 117; refine HU.out.mono ?_; rintro e w1 ⟨rfl, hb⟩; (first | (have hcu2 := Cum.join hcu hb; (try clear hcu); (try clear hc); (try clear hfz); (try clear hsz); (try clear hs0); (try clear hs1); (try clear hs2); (try clear hs3); (try clear hs4); ) | have hcu2 := Cum.mk hb); have hcu := hcu2; clear hcu2; obtain ⟨hc, hfz⟩ := bcell hcu.h; have hsz := hcu.h.size; (try simp at hsz); (try have hs0 := lt_of_succ_le hsz); (try (have hs1 := lt_pred hsz; (try (have hs2 := lt_pred hs1; (try (have hs3 := lt_pred hs2; (try have hs4 := lt_pred hs3))))))))
    go_ret
    exact ⟨by rw [HR.out]; rfl, bel⟩
  · have HR := Lib.hid (show r = ⟨(34 :: s.data.toList.flatMap qB ++ [34]).toArray⟩ by rw [hr]; unfold quoteB; rw [hu]; rfl)
    clear hr
    go_enter Tryz.func85, Tryz.ntmps85
    go_wp2_with fail
    refine HU.out.mono ?_
    rintro e w1 ⟨rfl, hb1⟩
    have HB1 := Lib.hid hb1
    clear hb1
    go_wp2_with fail
    go_loopw [3, 13] (fun s3 v wr => ∃ (k : Nat) (M : List UInt8) (A : Option Addr) (n c : Nat), k ≤ s.size ∧ v = .int .i64 k ∧ M = 34 :: (s.data.toList.take k).flatMap qB ∧ n = M.length ∧ n ≤ 6 * k + 1 ∧ s3 = .slice A n c ∧ BufB w.heap.size wr M (.slice A n c) ∧ Below w.heap.size w wr) (fun _ v _ => s.size - (Lib.intOf v).toNat)
    case atStart => exact ⟨0, [34], some ⟨w1.heap.size, 0, none⟩, 1, 1, Nat.zero_le _, rfl, rfl, rfl, by omega, rfl, own_less (own_lit (bs := [34]) (k := 1) rfl (by decide) rfl) HB1.out.size, HB1.out.trans (Below.mono bel HB1.out.size)⟩
    case round =>
      obtain ⟨k, M, A, n, c, hk, rfl, hM, hn, hn6, rfl, hbuf, hbr⟩ := hrel
      have HM := Lib.hid hM
      have HN := Lib.hid hn
      have HBf := Lib.hid hbuf
      have HBr := Lib.hid hbr
      have hws := hbr.size
      clear hM hn hbuf hbr
      by_cases hlt : k < s.size
      · have hk0 : (0 : Int) ≤ k := by omega
        have hk1 : (k : Int) < s.size := by omega
        obtain ⟨b, hb⟩ : ∃ b : Nat, b = (s.get! k).toNat := ⟨_, rfl⟩
        have hx : (s[k]'hlt).toNat = b := by rw [hb]; exact get_at s k hlt
        have hb256 : b < 256 := by rw [← hx]; exact UInt8.toNat_lt _
        have HQ := Lib.hid (show (s.data.toList.take (k + 1)).flatMap qB = (s.data.toList.take k).flatMap qB ++ qN b by
          rw [take_flat (c := s[k]'hlt) (by rw [Array.getElem?_toList]; exact Array.getElem?_eq_getElem hlt), ← hx]; rfl)
        have hql := qN_len b
        clear hb
        obtain ⟨m, hm⟩ : ∃ m, m = (qN b).length := ⟨_, rfl⟩
        rw [← hm] at hql
        have HMm := Lib.hid hm
        clear hm
        go_upto_block 1 with fail
        go_cut [3] from 15 to 55 (fun s3 wx => ∃ (A' : Option Addr) (c' : Nat), s3 = .slice A' (n + m) c' ∧ BufB w.heap.size wx (M ++ qN b) (.slice A' (n + m) c') ∧ Below w.heap.size w wx)
        case first =>
          by_cases e34 : b = 34 ∨ b = 92
          · have f1 : ((b : Int) == 34) = true ∨ ((b : Int) == 34) = false ∧ ((b : Int) == 92) = true := by
              rcases e34 with rfl | rfl
              · exact .inl rfl
              · exact .inr ⟨rfl, rfl⟩
            rcases f1 with f1 | ⟨f1, f2⟩
            all_goals
              obtain ⟨A', c', w2, hr2, hb2, hbb2⟩ := run_buf wr w.heap.size n c 2 A M ([92, UInt8.ofNat b]) [.int .u8 92, .int .u8 (b : Int)] HN.out HBf.out rfl (by simp [Lib.strCells, Nat.mod_eq_of_lt hb256]) (by omega) (by decide) hws
              have HB2 := Lib.hid (And.intro hb2 (HBr.out.trans hbb2))
              have HQn := Lib.hid (show qN b = [92, UInt8.ofNat b] from by unfold qN; rw [if_pos e34])
              have hm2 : m = 2 := by rw [HMm.out, HQn.out]; rfl
              subst hm2
              clear hb2 hbb2
              go_wp2_with (first | (go_at_call 65; refine (c_IndexEscK b hb256 _).mono ?_; rintro e w9 ⟨rfl, rfl⟩) | (at_builtin; refine wpList_append_of rfl (.tmp 32) (.tmp 34) 37 rfl _ _ _ w2 rfl rfl hr2 ?_))
              go_meet
              exact ⟨A', c', rfl, by rw [HQn.out]; exact HB2.out.1, HB2.out.2⟩
          · have f1 : ((b : Int) == 34) = false := beq_eq_false_iff_ne.2 (by omega)
            have f2 : ((b : Int) == 92) = false := beq_eq_false_iff_ne.2 (by omega)
            by_cases e8 : b = 8 ∨ b = 12 ∨ b = 10 ∨ b = 13 ∨ b = 9
            · skip
              rcases e8 with rfl | rfl | rfl | rfl | rfl
              · obtain ⟨A', c', w2, hr2, hb2, hbb2⟩ := run_buf wr w.heap.size n c 2 A M ([92, 98]) [.int .u8 92, .int .u8 98] HN.out HBf.out rfl rfl (by omega) (by decide) hws
                have HB2 := Lib.hid (And.intro hb2 (HBr.out.trans hbb2))
                have HQn := Lib.hid (show qN 8 = [92, 98] from rfl)
                have hm2 : m = 2 := by rw [HMm.out, HQn.out]; rfl
                subst hm2
                have HK := Lib.hid (show escK 8 = 0 from rfl)
                clear hb2 hbb2 e34
                go_wp2_with (first | (go_at_call 65; refine (c_IndexEscK 8 hb256 _).mono ?_; rintro e w9 ⟨rfl, rfl⟩; rw [HK.out]) | (at_builtin; refine wpList_append_of rfl (.tmp 39) (.tmp 42) 37 rfl _ _ _ w2 rfl rfl hr2 ?_))
                go_meet
                exact ⟨A', c', rfl, by rw [HQn.out]; exact HB2.out.1, HB2.out.2⟩
              · obtain ⟨A', c', w2, hr2, hb2, hbb2⟩ := run_buf wr w.heap.size n c 2 A M ([92, 102]) [.int .u8 92, .int .u8 102] HN.out HBf.out rfl rfl (by omega) (by decide) hws
                have HB2 := Lib.hid (And.intro hb2 (HBr.out.trans hbb2))
                have HQn := Lib.hid (show qN 12 = [92, 102] from rfl)
                have hm2 : m = 2 := by rw [HMm.out, HQn.out]; rfl
                subst hm2
                have HK := Lib.hid (show escK 12 = 1 from rfl)
                clear hb2 hbb2 e34
                go_wp2_with (first | (go_at_call 65; refine (c_IndexEscK 12 hb256 _).mono ?_; rintro e w9 ⟨rfl, rfl⟩; rw [HK.out]) | (at_builtin; refine wpList_append_of rfl (.tmp 39) (.tmp 42) 37 rfl _ _ _ w2 rfl rfl hr2 ?_))
                go_meet
                exact ⟨A', c', rfl, by rw [HQn.out]; exact HB2.out.1, HB2.out.2⟩
              · obtain ⟨A', c', w2, hr2, hb2, hbb2⟩ := run_buf wr w.heap.size n c 2 A M ([92, 110]) [.int .u8 92, .int .u8 110] HN.out HBf.out rfl rfl (by omega) (by decide) hws
                have HB2 := Lib.hid (And.intro hb2 (HBr.out.trans hbb2))
                have HQn := Lib.hid (show qN 10 = [92, 110] from rfl)
                have hm2 : m = 2 := by rw [HMm.out, HQn.out]; rfl
                subst hm2
                have HK := Lib.hid (show escK 10 = 2 from rfl)
                clear hb2 hbb2 e34
                go_wp2_with (first | (go_at_call 65; refine (c_IndexEscK 10 hb256 _).mono ?_; rintro e w9 ⟨rfl, rfl⟩; rw [HK.out]) | (at_builtin; refine wpList_append_of rfl (.tmp 39) (.tmp 42) 37 rfl _ _ _ w2 rfl rfl hr2 ?_))
                go_meet
                exact ⟨A', c', rfl, by rw [HQn.out]; exact HB2.out.1, HB2.out.2⟩
              · obtain ⟨A', c', w2, hr2, hb2, hbb2⟩ := run_buf wr w.heap.size n c 2 A M ([92, 114]) [.int .u8 92, .int .u8 114] HN.out HBf.out rfl rfl (by omega) (by decide) hws
                have HB2 := Lib.hid (And.intro hb2 (HBr.out.trans hbb2))
                have HQn := Lib.hid (show qN 13 = [92, 114] from rfl)
                have hm2 : m = 2 := by rw [HMm.out, HQn.out]; rfl
                subst hm2
                have HK := Lib.hid (show escK 13 = 3 from rfl)
                clear hb2 hbb2 e34
                go_wp2_with (first | (go_at_call 65; refine (c_IndexEscK 13 hb256 _).mono ?_; rintro e w9 ⟨rfl, rfl⟩; rw [HK.out]) | (at_builtin; refine wpList_append_of rfl (.tmp 39) (.tmp 42) 37 rfl _ _ _ w2 rfl rfl hr2 ?_))
                go_meet
                exact ⟨A', c', rfl, by rw [HQn.out]; exact HB2.out.1, HB2.out.2⟩
              · obtain ⟨A', c', w2, hr2, hb2, hbb2⟩ := run_buf wr w.heap.size n c 2 A M ([92, 116]) [.int .u8 92, .int .u8 116] HN.out HBf.out rfl rfl (by omega) (by decide) hws
                have HB2 := Lib.hid (And.intro hb2 (HBr.out.trans hbb2))
                have HQn := Lib.hid (show qN 9 = [92, 116] from rfl)
                have hm2 : m = 2 := by rw [HMm.out, HQn.out]; rfl
                subst hm2
                have HK := Lib.hid (show escK 9 = 4 from rfl)
                clear hb2 hbb2 e34
                go_wp2_with (first | (go_at_call 65; refine (c_IndexEscK 9 hb256 _).mono ?_; rintro e w9 ⟨rfl, rfl⟩; rw [HK.out]) | (at_builtin; refine wpList_append_of rfl (.tmp 39) (.tmp 42) 37 rfl _ _ _ w2 rfl rfl hr2 ?_))
                go_meet
                exact ⟨A', c', rfl, by rw [HQn.out]; exact HB2.out.1, HB2.out.2⟩
            · have HK := Lib.hid (show escK b = -1 by unfold escK; rw [if_neg (by omega), if_neg (by omega), if_neg (by omega), if_neg (by omega), if_neg (by omega)])
              by_cases e32 : b < 32
              · have f3 : decide ((b : Int) < 32) = true := decide_eq_true (by omega)
                obtain ⟨x, hx1⟩ : ∃ x : Nat, x = b / 16 := ⟨_, rfl⟩
                obtain ⟨y, hy1⟩ : ∃ y : Nat, y = b % 16 := ⟨_, rfl⟩
                have hx2 : (b : Int) / 16 = x := by omega
                have hy2 : (b : Int) % 16 = y := by omega
                have hy4 : (b : Int).tmod 16 = y := by rw [Int.tmod_eq_emod_of_nonneg (by omega)]; omega
                have hx3 : x < 16 := by omega
                have hy3 : y < 16 := by omega
                have hz1 : (0 : Int) ≤ x := by omega
                have hz2 : (0 : Int) ≤ y := by omega
                have hz3 : (x : Int) < 16 := by omega
                have hz4 : (y : Int) < 16 := by omega
                have hwx : IntKind.u8.wrap (x : Int) = x := by rw [IntKind.wrap_u8]; omega
                have hwy : IntKind.u8.wrap (y : Int) = y := by rw [IntKind.wrap_u8]; omega
                have hsx : x < ({ data := #[48, 49, 50, 51, 52, 53, 54, 55, 56, 57, 97, 98, 99, 100, 101, 102] } : ByteArray).size := hx3
                have hsy : y < ({ data := #[48, 49, 50, 51, 52, 53, 54, 55, 56, 57, 97, 98, 99, 100, 101, 102] } : ByteArray).size := hy3
                obtain ⟨A', c', w2, hr2, hb2, hbb2⟩ := run_buf wr.drew w.heap.size n c 6 A M [92, 117, 48, 48, figU x, figU y] [.int .u8 92, .int .u8 117, .int .u8 48, .int .u8 48, .int .u8 ((({ data := #[48, 49, 50, 51, 52, 53, 54, 55, 56, 57, 97, 98, 99, 100, 101, 102] } : ByteArray)[x]'(hsx)).toNat : Nat), .int .u8 ((({ data := #[48, 49, 50, 51, 52, 53, 54, 55, 56, 57, 97, 98, 99, 100, 101, 102] } : ByteArray)[y]'(hsy)).toNat : Nat)] HN.out (HBf.out.below (Below.refl _ _).drew) rfl (by rw [hexd x hx3, hexd y hy3]; rfl) (by omega) (by decide) hws
                have HB2 := Lib.hid (And.intro hb2 ((HBr.out.trans (Below.mono (Below.refl _ _).drew HBr.out.size)).trans hbb2))
                have HQn := Lib.hid (show qN b = [92, 117, 48, 48, figU x, figU y] by unfold qN; rw [if_neg e34, if_neg (by omega), if_neg (by omega), if_neg (by omega), if_neg (by omega), if_neg (by omega), if_pos e32, hx1, hy1])
                have hm2 : m = 6 := by rw [HMm.out, HQn.out]; rfl
                subst hm2
                clear hx1 hy1 hb2 hbb2
                go_wp2_with (first | (go_at_call 65; refine (c_IndexEscK _ hb256 _).mono ?_; rintro e w9 ⟨rfl, rfl⟩; rw [HK.out]))
                go_region_law (first | (refine step_append_of rfl (.tmp 47) (.tmp 54) 37 rfl _ _ _ w2 rfl rfl hr2 ?_))
                all_goals
                  (try go_wp2_with fail)
                  go_meet
                  exact ⟨A', c', rfl, by rw [HQn.out]; exact HB2.out.1, HB2.out.2⟩
              · have f3 : decide ((b : Int) < 32) = false := decide_eq_false (by omega)
                obtain ⟨A', c', w2, hr2, hb2, hbb2⟩ := run_buf wr w.heap.size n c 1 A M ([UInt8.ofNat b]) [.int .u8 (b : Int)] HN.out HBf.out rfl (by simp [Lib.strCells, Nat.mod_eq_of_lt hb256]) (by omega) (by decide) hws
                have HB2 := Lib.hid (And.intro hb2 (HBr.out.trans hbb2))
                have HQn := Lib.hid (show qN b = [UInt8.ofNat b] from by unfold qN; rw [if_neg e34, if_neg (by omega), if_neg (by omega), if_neg (by omega), if_neg (by omega), if_neg (by omega), if_neg e32])
                have hm2 : m = 1 := by rw [HMm.out, HQn.out]; rfl
                subst hm2
                clear hb2 hbb2
                go_wp2_with (first | (go_at_call 65; refine (c_IndexEscK b hb256 _).mono ?_; rintro e w9 ⟨rfl, rfl⟩; rw [HK.out]) | (at_builtin; refine wpList_append_of rfl (.tmp 21) (.tmp 23) 37 rfl _ _ _ w2 rfl rfl hr2 ?_))
                go_meet
                exact ⟨A', c', rfl, by rw [HQn.out]; exact HB2.out.1, HB2.out.2⟩
        case rest =>
          obtain ⟨A', c', rfl, hbf, hbb⟩ := hcut
          have HB' := Lib.hid hbf
          have HX := Lib.hid (show M ++ qN b = 34 :: (s.data.toList.take (k + 1)).flatMap qB by rw [HM.out, HQ.out]; rfl)
          clear hbf hx
          go_wp2_with fail
          go_roundw
          case rel => exact ⟨k + 1, M ++ qN b, A', n + m, c', by omega, by go_num, HX.out, by rw [List.length_append, HN.out, HMm.out], by omega, rfl, HB'.out, hbb⟩
          case measure => simp [Lib.intOf]; omega
      · obtain rfl : k = s.size := by omega
        have HX := Lib.hid (show r = ⟨(M ++ [34]).toArray⟩ by rw [HR.out, HM.out, List.take_of_length_le (by rw [Array.length_toList]; exact Nat.le_refl _)])
        obtain ⟨A', c', w2, hr2, hb2, hbb2⟩ := run_buf wr w.heap.size n c 1 A M [34] [.int .u8 34] HN.out HBf.out rfl rfl (by omega) (by decide) hws
        have hn1 : n + 1 = (M ++ [34]).length := by rw [List.length_append, ← HN.out]; rfl
        have hcv := own_string hn1 (show w2.ownsRow w.heap.size 5 1 (.slice A' (n + 1) c') (n + 1) (Lib.strCells ⟨(M ++ [34]).toArray⟩) from hn1 ▸ hb2)
        have HN1 := Lib.hid hn1
        clear hn1 hb2
        go_wp2_with (at_builtin; refine wpList_append_of rfl (.tmp 57) (.tmp 58) 37 rfl _ _ _ w2 rfl rfl hr2 ?_)
        go_ret
        exact ⟨by rw [HX.out]; rfl, HBr.out.trans hbb2⟩
end Go.Proofs.YtffelpdefjkeaaaGreatDoor
namespace Go.Proofs.YtffelpdefjkeaaaGreatDoor
open Go.RowKit
theorem Cum.up {a b x w : World} {n : Nat} (_h : Cum a b) (_k : Below n x w) (h : Below a.heap.size a w) : Cum a w := ⟨h⟩
end Go.Proofs.YtffelpdefjkeaaaGreatDoor
namespace Go.Proofs.YtffelpdefjkeaaaGreatDoor
open Go.RowKit
/-- The row g holds the trees l; tree i lies, as O says, in the blocks F i. -/
def KidsAt (O : (Nat → Prop) → World → TreeD → List Value → Prop) (F : Nat → Nat → Prop) (g : Nat) (w : World) (l : List TreeD) : Prop :=
  ∃ cur, w.heap[g]? = some (.cells cur 27 (0, 0)) ∧ ∀ i d, l[i]? = some d → ∃ es, es.length = 6 ∧ (∀ j, j < 6 → cur[i * 6 + j]? = es[j]?) ∧ O (F i) w d es
/-- v is a slice of the trees l, in a row of a block of S; what each holds lies in blocks of S of its own. -/
def OwnK (O : (Nat → Prop) → World → TreeD → List Value → Prop) (S : Nat → Prop) (w : World) (l : List TreeD) (v : Value) : Prop :=
  ∃ A c, v = .slice A l.length c ∧ l.length ≤ c ∧ c ≤ 9223372036854775807 ∧ (0 < l.length → ∃ g F, A = some ⟨g, 0, none⟩ ∧ S g ∧ (∀ i b, F i b → S b ∧ b ≠ g) ∧ (∀ i j b, F i b → F j b → i = j) ∧ KidsAt O F g w l)
/-- The cells cs hold the tree d, of height at most n; all that it points to lies in blocks of S, no two parts in one. -/
def OwnT : Nat → (Nat → Prop) → World → TreeD → List Value → Prop
  | 0, _, _, _, _ => False
  | n + 1, S, w, d, cs => ∃ (v4 v5 : Value) (S4 S5 : Nat → Prop), cs = [.int .i64 d.kind, .bool d.flag, .int .i64 d.num, .string d.text, v4, v5] ∧ I64 d.kind ∧ I64 d.num ∧ d.text.size ≤ 9223372036854775807 ∧
      (∀ b, S4 b → S b ∧ ¬ S5 b) ∧ (∀ b, S5 b → S b) ∧ OwnS S4 w d.keys v4 ∧ OwnK (OwnT n) S5 w d.kids v5
theorem OwnT.out {n : Nat} {S : Nat → Prop} {w : World} {d : TreeD} {cs : List Value} (h : OwnT (n + 1) S w d cs) : ∃ (v4 v5 : Value) (S4 S5 : Nat → Prop), cs = [.int .i64 d.kind, .bool d.flag, .int .i64 d.num, .string d.text, v4, v5] ∧ I64 d.kind ∧ I64 d.num ∧ d.text.size ≤ 9223372036854775807 ∧
      (∀ b, S4 b → S b ∧ ¬ S5 b) ∧ (∀ b, S5 b → S b) ∧ OwnS S4 w d.keys v4 ∧ OwnK (OwnT n) S5 w d.kids v5 := h
theorem OwnT.into {n : Nat} {S : Nat → Prop} {w : World} {d : TreeD} {cs : List Value} (h : ∃ (v4 v5 : Value) (S4 S5 : Nat → Prop), cs = [.int .i64 d.kind, .bool d.flag, .int .i64 d.num, .string d.text, v4, v5] ∧ I64 d.kind ∧ I64 d.num ∧ d.text.size ≤ 9223372036854775807 ∧
      (∀ b, S4 b → S b ∧ ¬ S5 b) ∧ (∀ b, S5 b → S b) ∧ OwnS S4 w d.keys v4 ∧ OwnK (OwnT n) S5 w d.kids v5) : OwnT (n + 1) S w d cs := h
theorem OwnT.none {S : Nat → Prop} {w : World} {d : TreeD} {cs : List Value} (h : OwnT 0 S w d cs) : False := h
theorem OwnT.any {n : Nat} {S : Nat → Prop} {w : World} {d : TreeD} {cs : List Value} (h : OwnT n S w d cs) : ∃ m, n = m + 1 := by
  cases n with
  | zero => exact h.none.elim
  | succ m => exact ⟨m, rfl⟩
theorem OwnK.form {O : (Nat → Prop) → World → TreeD → List Value → Prop} {S : Nat → Prop} {w : World} {l : List TreeD} {v : Value} (h : OwnK O S w l v) : ∃ A c, v = .slice A l.length c := by
  obtain ⟨A, c, hv, _⟩ := h
  exact ⟨A, c, hv⟩
theorem OwnT.flat {n : Nat} {S : Nat → Prop} {w : World} {d : TreeD} {cs : List Value} (h : OwnT n S w d cs) : ∃ A4 c4 A5 c5, cs = [.int .i64 d.kind, .bool d.flag, .int .i64 d.num, .string d.text, .slice A4 d.keys.length c4, .slice A5 d.kids.length c5] ∧ I64 d.kind ∧ I64 d.num ∧ d.text.size ≤ 9223372036854775807 := by
  obtain ⟨m, rfl⟩ := h.any
  obtain ⟨v4, v5, S4, S5, rfl, a0, a2, a3, -, -, a4, a5⟩ := h.out
  obtain ⟨A4, c4, rfl⟩ := a4.form
  obtain ⟨A5, c5, rfl⟩ := a5.form
  exact ⟨A4, c4, A5, c5, rfl, a0, a2, a3⟩
theorem OwnK.carry {O O' : (Nat → Prop) → World → TreeD → List Value → Prop} {S S' : Nat → Prop} {w w' : World} {l : List TreeD} {v : Value} (h : OwnK O S w l v) (hs : ∀ b, S b → w'.heap[b]? = w.heap[b]?) (hS : ∀ b, S b → S' b)
    (hO : ∀ F d es, (∀ b, F b → S b) → O F w d es → O' F w' d es) : OwnK O' S' w' l v := by
  obtain ⟨A, c, hv, h1, h2, h3⟩ := h
  refine ⟨A, c, hv, h1, h2, fun hp => ?_⟩
  obtain ⟨g, F, hA, hg, hF, hF2, cur, hr, hc⟩ := h3 hp
  refine ⟨g, F, hA, hS g hg, fun i b hb => ⟨hS b (hF i b hb).1, (hF i b hb).2⟩, hF2, cur, (hs g hg).trans hr, fun i d hd => ?_⟩
  obtain ⟨es, e1, e2, e3⟩ := hc i d hd
  exact ⟨es, e1, e2, hO (F i) d es (fun b hb => (hF i b hb).1) e3⟩
theorem OwnT.carry : ∀ {n : Nat} {S S' : Nat → Prop} {w w' : World} {d : TreeD} {cs : List Value}, OwnT n S w d cs → (∀ b, S b → w'.heap[b]? = w.heap[b]?) → (∀ b, S b → S' b) → OwnT n S' w' d cs
  | 0, _, _, _, _, _, _, h, _, _ => h.none.elim
  | n + 1, S, S', w, w', d, cs, h, hs, hS => by
    obtain ⟨v4, v5, S4, S5, e, a0, a2, a3, d4, d5, a4, a5⟩ := h.out
    exact OwnT.into ⟨v4, v5, S4, S5, e, a0, a2, a3, fun b hb => ⟨hS b (d4 b hb).1, (d4 b hb).2⟩, fun b hb => hS b (d5 b hb), a4.carry (fun b hb => hs b (d4 b hb).1) (fun _ h => h),
      a5.carry (fun b hb => hs b (d5 b hb)) (fun _ h => h) (fun F d es hF ho => OwnT.carry ho (fun b hb => hs b (d5 b (hF b hb))) (fun _ h => h))⟩
theorem OwnK.keep {n : Nat} {S S' : Nat → Prop} {w w' : World} {l : List TreeD} {v : Value} (h : OwnK (OwnT n) S w l v) (hs : ∀ b, S b → w'.heap[b]? = w.heap[b]?) (hS : ∀ b, S b → S' b) : OwnK (OwnT n) S' w' l v :=
  h.carry hs hS (fun _ _ _ hF ho => ho.carry (fun b hb => hs b (hF b hb)) (fun _ h => h))
theorem OwnT.up : ∀ {n m : Nat} {S : Nat → Prop} {w : World} {d : TreeD} {cs : List Value}, OwnT n S w d cs → n ≤ m → OwnT m S w d cs
  | 0, _, _, _, _, _, h, _ => h.none.elim
  | n + 1, 0, _, _, _, _, _, hm => absurd hm (by omega)
  | n + 1, m + 1, _, _, _, _, h, hm => by
    obtain ⟨v4, v5, S4, S5, e, a0, a2, a3, d4, d5, a4, a5⟩ := h.out
    exact OwnT.into ⟨v4, v5, S4, S5, e, a0, a2, a3, d4, d5, a4, a5.carry (fun _ _ => rfl) (fun _ h => h) (fun F d es hF ho => OwnT.up ho (by omega))⟩
theorem OwnT.toC : ∀ {n lo hi : Nat} {S : Nat → Prop} {w : World} {d : TreeD} {cs : List Value}, OwnT n S w d cs → (∀ b, S b → lo ≤ b ∧ b < hi) → C_Tree n lo hi w d cs
  | 0, _, _, _, _, _, _, h, _ => h.none.elim
  | n + 1, lo, hi, S, w, d, cs, h, hS => by
    obtain ⟨v4, v5, S4, S5, e, a0, a2, a3, d4, d5, a4, a5⟩ := h.out
    refine C_Tree.into ⟨v4, v5, e, a0, a2, a3, a4.toC (fun b hb => hS b (d4 b hb).1), ?_⟩
    obtain ⟨A, c, rfl, h1, h2, h3⟩ := a5
    refine ⟨A, c, rfl, h1, h2, fun hp => ?_⟩
    obtain ⟨g, F, rfl, hg, hF, hF2, cur, hr, hc⟩ := h3 hp
    refine ⟨g, 0, rfl, (hS g (d5 g hg)).1, (hS g (d5 g hg)).2, fun i d hd => ?_⟩
    obtain ⟨es, e1, e2, e3⟩ := hc i d hd
    refine ⟨es, e1, fun j hj => ?_, OwnT.toC e3 (fun b hb => hS b (d5 b (hF i b hb).1))⟩
    rw [cell_of_row w g _ cur _ _ hr, Nat.zero_add]
    exact e2 j hj
theorem OwnK.toC {n lo hi : Nat} {S : Nat → Prop} {w : World} {l : List TreeD} {v : Value} (h : OwnK (OwnT n) S w l v) (hS : ∀ b, S b → lo ≤ b ∧ b < hi) : Sl_Tree n lo hi w l v := by
  obtain ⟨A, c, rfl, h1, h2, h3⟩ := h
  refine ⟨A, c, rfl, h1, h2, fun hp => ?_⟩
  obtain ⟨g, F, rfl, hg, hF, hF2, cur, hr, hc⟩ := h3 hp
  refine ⟨g, 0, rfl, (hS g hg).1, (hS g hg).2, fun i d hd => ?_⟩
  obtain ⟨es, e1, e2, e3⟩ := hc i d hd
  refine ⟨es, e1, fun j hj => ?_, OwnT.toC e3 (fun b hb => hS b (hF i b hb).1)⟩
  rw [cell_of_row w g _ cur _ _ hr, Nat.zero_add]
  exact e2 j hj
def cntT : Nat → TreeD → Nat
  | 0, _ => 0
  | n + 1, d => d.keys.length + szL (fun t => 4 + cntT n t) d.kids
def cntL (n : Nat) (l : List TreeD) : Nat := szL (fun t => 4 + cntT n t) l
theorem cntT_succ (n : Nat) (d : TreeD) : cntT (n + 1) d = d.keys.length + cntL n d.kids := rfl
/-- The tree t, a member of a list, bears the marks from k on; M says so of what lies below it. -/
def MkE (M : Int → TreeD → Prop) (k : Int) (t : TreeD) : Prop := t.kind = k ∧ t.flag = ((k + 1) % 3 == 0) ∧ t.num = k + 1 + 1 ∧ t.text = mkI (k + 1 + 1 + 1) ∧ M (k + 1 + 1 + 1 + 1) t
def MkT : Nat → Int → TreeD → Prop
  | 0, _, _ => False
  | n + 1, k, d => MkSs k d.keys ∧ ∀ (i : Nat) (t : TreeD), d.kids[i]? = some t → MkE (MkT n) (k + d.keys.length + cntL n (d.kids.take i)) t
def MkLs (n : Nat) (k : Int) (l : List TreeD) : Prop := ∀ (i : Nat) (t : TreeD), l[i]? = some t → MkE (MkT n) (k + cntL n (l.take i)) t
theorem MkT.into {n : Nat} {k : Int} {d : TreeD} (h1 : MkSs k d.keys) (h2 : MkLs n (k + d.keys.length) d.kids) : MkT (n + 1) k d := ⟨h1, h2⟩
theorem MkT.out {n : Nat} {k : Int} {d : TreeD} (h : MkT (n + 1) k d) : MkSs k d.keys ∧ MkLs n (k + d.keys.length) d.kids := h
end Go.Proofs.YtffelpdefjkeaaaGreatDoor
namespace Go.Proofs.YtffelpdefjkeaaaGreatDoor
open Go.RowKit
/-- v is a slice of the strings l, in a row that the call has made behind block base; it may be appended to. -/
def GrowS (base hi : Nat) (w : World) (l : List ByteArray) (v : Value) : Prop := w.ownsRow base 9 1 v l.length (l.map Value.string) ∧ (∀ g, v.ownBlock = some g → g < hi) ∧ ∀ s ∈ l, s.size ≤ 9223372036854775807
theorem GrowS.nil (base hi : Nat) (w : World) : GrowS base hi w [] (.slice none 0 0) := ⟨World.ownsRow_nil _ _ _ _, fun g h => (by cases h), fun s h => (by cases h)⟩
theorem GrowS.carry {base hi hi' : Nat} {w w' : World} {l : List ByteArray} {v : Value} (h : GrowS base hi w l v) (hh : hi ≤ hi') (hb : ∀ g, base ≤ g → g < hi → w'.heap[g]? = w.heap[g]?) : GrowS base hi' w' l v :=
  ⟨ownsRow_carry h.1 (fun g hg => hb g (h.1.lt g hg).1 (h.2.1 g hg)), fun g hg => Nat.lt_of_lt_of_le (h.2.1 g hg) hh, h.2.2⟩
theorem GrowS.form {base hi : Nat} {w : World} {l : List ByteArray} {v : Value} (h : GrowS base hi w l v) : ∃ A c, v = .slice A l.length c := by
  rcases h.1.2 with ⟨rfl, h0⟩ | ⟨g, cap, cur, rfl, _⟩
  · exact ⟨_, _, by rw [h0]⟩
  · exact ⟨_, _, rfl⟩
theorem GrowS.own {base hi : Nat} {w : World} {l : List ByteArray} {v : Value} (h : GrowS base hi w l v) : OwnS (fun b => base ≤ b ∧ b < hi) w l v := by
  obtain ⟨⟨hl, h1⟩, h2, h3⟩ := h
  rcases h1 with ⟨rfl, h0⟩ | ⟨g, cap, cur, rfl, hb, hg, hnc, hcm, hcs, ht⟩
  · exact ⟨none, 0, by rw [h0], by omega, by omega, fun hp => by omega⟩
  · refine ⟨_, cap, rfl, hnc, by unfold maxLen at hcm; omega, fun _ => ⟨g, cur, rfl, ⟨hb, h2 g rfl⟩, hg, fun i s hs => ?_⟩⟩
    refine ⟨?_, h3 s (List.mem_of_getElem? hs)⟩
    have hi : i < l.length := (List.getElem?_eq_some_iff.1 hs).1
    have : (cur.toList.take (l.length * 1))[i]? = some (.string s) := by rw [ht, List.getElem?_map, hs]; rfl
    rw [List.getElem?_take, if_pos (by omega)] at this
    simpa using this
/-- One string more. -/
theorem GrowS.push {base hi : Nat} {w w' : World} {l : List ByteArray} {v : Value} {s : ByteArray} {g cap : Nat} (h : GrowS base hi w l v) (m : Nat) (hm : l.length = m) (hs : s.size ≤ 9223372036854775807)
    (ho : w'.ownsRow base 9 1 (.slice (some ⟨g, 0, none⟩) (m + 1) cap) (m + 1) (l.map Value.string ++ [.string s])) (hg : g < w'.heap.size) : GrowS base w'.heap.size w' (l ++ [s]) (.slice (some ⟨g, 0, none⟩) (m + 1) cap) := by
  subst hm
  refine ⟨by simpa using ho, fun g' hg' => ?_, fun x hx => ?_⟩
  · simp [Value.ownBlock] at hg'; omega
  · rcases List.mem_append.1 hx with hx | hx
    · exact h.2.2 x hx
    · simp at hx; subst hx; exact hs
theorem flat_get : ∀ (ess : List (List Value)) (i : Nat) (es : List Value) (j : Nat), (∀ es ∈ ess, es.length = 6) → ess[i]? = some es → j < 6 → ess.flatten[i * 6 + j]? = es[j]?
  | [], i, es, j, _, h, _ => by simp at h
  | x :: ess, 0, es, j, hl, h, hj => by
    simp at h
    subst h
    rw [List.flatten_cons, List.getElem?_append_left (by rw [hl x (by simp)]; omega)]
    simp
  | x :: ess, i + 1, es, j, hl, h, hj => by
    simp at h
    have hx := hl x (by simp)
    rw [List.flatten_cons, List.getElem?_append_right (by omega), hx, show (i + 1) * 6 + j - 6 = i * 6 + j by omega]
    exact flat_get ess i es j (fun y hy => hl y (by simp [hy])) h hj
/-- v is a slice of the trees l, in a row that the call has made between the blocks base and hi; what they point to lies there too. -/
def GrowK (n base hi : Nat) (w : World) (l : List TreeD) (v : Value) : Prop :=
  ∃ (ess : List (List Value)) (F : Nat → Nat → Prop), ess.length = l.length ∧ (∀ es ∈ ess, es.length = 6) ∧ w.ownsRow base 27 6 v l.length ess.flatten ∧ (∀ g, v.ownBlock = some g → g < hi) ∧
    (∀ i b, F i b → base ≤ b ∧ b < hi ∧ v.ownBlock ≠ some b) ∧ (∀ i j b, F i b → F j b → i = j) ∧ ∀ i d es, l[i]? = some d → ess[i]? = some es → OwnT n (F i) w d es
theorem GrowK.nil (n base hi : Nat) (w : World) : GrowK n base hi w [] (.slice none 0 0) :=
  ⟨[], fun _ _ => False, rfl, fun _ h => (by cases h), World.ownsRow_nil _ _ _ _, fun g h => (by cases h), fun _ _ h => h.elim, fun _ _ _ h => h.elim, fun i d es h => (by simp at h)⟩
theorem GrowK.form {n base hi : Nat} {w : World} {l : List TreeD} {v : Value} (h : GrowK n base hi w l v) : ∃ A c, v = .slice A l.length c := by
  obtain ⟨ess, F, -, -, h1, -⟩ := h
  rcases h1.2 with ⟨rfl, h0⟩ | ⟨g, cap, cur, rfl, _⟩
  · exact ⟨_, _, by rw [h0]⟩
  · exact ⟨_, _, rfl⟩
theorem GrowK.carry {n base hi hi' : Nat} {w w' : World} {l : List TreeD} {v : Value} (h : GrowK n base hi w l v) (hh : hi ≤ hi') (hb : ∀ g, base ≤ g → g < hi → w'.heap[g]? = w.heap[g]?) : GrowK n base hi' w' l v := by
  obtain ⟨ess, F, h1, h2, h3, h4, h5, h6, h7⟩ := h
  exact ⟨ess, F, h1, h2, ownsRow_carry h3 (fun g hg => hb g (h3.lt g hg).1 (h4 g hg)), fun g hg => Nat.lt_of_lt_of_le (h4 g hg) hh, fun i b hF => ⟨(h5 i b hF).1, Nat.lt_of_lt_of_le (h5 i b hF).2.1 hh, (h5 i b hF).2.2⟩, h6,
    fun i d es hd he => (h7 i d es hd he).carry (fun b hF => hb b (h5 i b hF).1 (h5 i b hF).2.1) (fun _ h => h)⟩
theorem GrowK.own {n base hi : Nat} {w : World} {l : List TreeD} {v : Value} (h : GrowK n base hi w l v) : OwnK (OwnT n) (fun b => base ≤ b ∧ b < hi) w l v := by
  obtain ⟨ess, F, e1, e2, ⟨hl, h1⟩, h4, h5, h6, h7⟩ := h
  rcases h1 with ⟨rfl, h0⟩ | ⟨g, cap, cur, rfl, hb, hg, hnc, hcm, hcs, ht⟩
  · exact ⟨none, 0, by rw [h0], by omega, by omega, fun hp => by omega⟩
  · refine ⟨_, cap, rfl, hnc, by unfold maxLen at hcm; omega, fun _ => ⟨g, F, rfl, ⟨hb, h4 g rfl⟩, fun i b hF => ⟨⟨(h5 i b hF).1, (h5 i b hF).2.1⟩, fun e => (h5 i b hF).2.2 (by rw [e]; rfl)⟩, h6, cur, hg, fun i d hd => ?_⟩⟩
    have hi : i < l.length := (List.getElem?_eq_some_iff.1 hd).1
    obtain ⟨es, hes⟩ := exists_at (l := ess) (k := i) (by omega)
    refine ⟨es, e2 es (List.mem_of_getElem? hes), fun j hj => ?_, h7 i d es hd hes⟩
    have hf := flat_get ess i es j e2 hes hj
    rw [← ht, List.getElem?_take, if_pos (by omega)] at hf
    simpa using hf
theorem OwnT.one {n : Nat} {S : Nat → Prop} {w : World} {d : TreeD} {es : List Value} (h : OwnT n S w d es) : ∀ u ∈ es, u.oneCell' = true := by
  obtain ⟨A4, c4, A5, c5, rfl, -⟩ := h.flat
  intro u hu
  simp at hu
  rcases hu with rfl | rfl | rfl | rfl | rfl | rfl <;> rfl
theorem OwnT.len {n : Nat} {S : Nat → Prop} {w : World} {d : TreeD} {es : List Value} (h : OwnT n S w d es) : es.length = 6 := by
  obtain ⟨A4, c4, A5, c5, rfl, -⟩ := h.flat
  rfl
/-- One tree more. -/
theorem GrowK.push {n base hi : Nat} {w w' : World} {l : List TreeD} {v : Value} {d : TreeD} {es : List Value} {S : Nat → Prop} {g cap : Nat} (m : Nat) (hm : l.length = m) (hhi : hi ≤ w.heap.size) (hd : OwnT n S w d es) (hS : ∀ b, S b → hi ≤ b ∧ b < w.heap.size) (hbh : base ≤ hi)
    (ess : List (List Value)) (F : Nat → Nat → Prop) (e1 : ess.length = l.length) (e2 : ∀ es ∈ ess, es.length = 6) (h4 : ∀ g, v.ownBlock = some g → g < hi) (h5 : ∀ i b, F i b → base ≤ b ∧ b < hi ∧ v.ownBlock ≠ some b) (h6 : ∀ i j b, F i b → F j b → i = j) (h7 : ∀ i d es, l[i]? = some d → ess[i]? = some es → OwnT n (F i) w d es)
    (ho : w'.ownsRow base 27 6 (.slice (some ⟨g, 0, none⟩) (m + 1) cap) (m + 1) (ess.flatten ++ es)) (hgr : w.grownBy w' v.ownBlock) (hat : v.ownBlock = some g ∨ w.heap.size ≤ g) (hg : g < w'.heap.size) :
    GrowK n base w'.heap.size w' (l ++ [d]) (.slice (some ⟨g, 0, none⟩) (m + 1) cap) := by
  subst hm
  have hkeep : ∀ b, b < w.heap.size → v.ownBlock ≠ some b → w'.heap[b]? = w.heap[b]? := fun b h1 h2 => hgr.block b h1 (fun e => h2 e.symm)
  refine ⟨ess ++ [es], fun i b => (i < l.length ∧ F i b) ∨ (i = l.length ∧ S b), by simp [e1], ?_, by simpa using ho, ?_, ?_, ?_, ?_⟩
  · intro x hx
    rcases List.mem_append.1 hx with hx | hx
    · exact e2 x hx
    · simp at hx; subst hx; exact hd.len
  · intro g' hg'
    simp [Value.ownBlock] at hg'
    omega
  · rintro i b (⟨hi, hF⟩ | ⟨hi, hF⟩)
    · obtain ⟨f1, f2, f3⟩ := h5 i b hF
      refine ⟨f1, by have := hgr.size; omega, fun e => ?_⟩
      simp [Value.ownBlock] at e
      rcases hat with hat | hat
      · rw [hat, e] at f3; exact f3 rfl
      · omega
    · obtain ⟨f1, f2⟩ := hS b hF
      refine ⟨by omega, by have := hgr.size; omega, fun e => ?_⟩
      simp [Value.ownBlock] at e
      rcases hat with hat | hat
      · have := h4 g hat; omega
      · omega
  · rintro i j b (⟨hi, hF⟩ | ⟨hi, hF⟩) (⟨hj, hG⟩ | ⟨hj, hG⟩)
    · exact h6 i j b hF hG
    · have := (h5 i b hF).2.1; have := (hS b hG).1; omega
    · have := (h5 j b hG).2.1; have := (hS b hF).1; omega
    · omega
  · intro i d' es' hd' hes'
    by_cases hlt : i < l.length
    · rw [List.getElem?_append_left hlt] at hd'
      rw [List.getElem?_append_left (by omega)] at hes'
      refine (h7 i d' es' hd' hes').carry (fun b hF => hkeep b ?_ (h5 i b hF).2.2) (fun b hF => .inl ⟨hlt, hF⟩)
      have := (h5 i b hF).2.1
      omega
    · have hil : i = l.length := by
        have := (List.getElem?_eq_some_iff.1 hd').1
        simp at this
        omega
      subst hil
      rw [List.getElem?_append_right (by omega)] at hd'
      rw [List.getElem?_append_right (by omega)] at hes'
      simp at hd'
      simp [e1] at hes'
      subst hd' hes'
      refine hd.carry (fun b hF => hkeep b (hS b hF).2 (fun e => ?_)) (fun b hF => .inr ⟨rfl, hF⟩)
      have := h4 b e
      have := (hS b hF).1
      omega
end Go.Proofs.YtffelpdefjkeaaaGreatDoor
namespace Go.Proofs.YtffelpdefjkeaaaGreatDoor
open Go.RowKit
def mxL {D : Type} (f : D → Nat) : List D → Nat
  | [] => 0
  | d :: l => max (f d) (mxL f l)
theorem mxL_app {D : Type} (f : D → Nat) : ∀ a b : List D, mxL f (a ++ b) = max (mxL f a) (mxL f b)
  | [], b => by simp [mxL]
  | d :: a, b => by
    simp only [List.cons_append, mxL]
    rw [mxL_app f a b]
    omega
theorem take_next {D : Type} {l : List D} {k : Nat} {d : D} (h : l[k]? = some d) : l.take (k + 1) = l.take k ++ [d] := by rw [List.take_add_one, h]; rfl
theorem mxL_next {D : Type} (f : D → Nat) {l : List D} {k : Nat} {d : D} (h : l[k]? = some d) : mxL f (l.take (k + 1)) = max (mxL f (l.take k)) (f d) := by
  rw [take_next h, mxL_app]
  simp [mxL]
def sizeT : Nat → TreeD → Nat
  | 0, _ => 0
  | n + 1, d => 1 + szL (sizeT n) d.kids
def depthT : Nat → TreeD → Nat
  | 0, _ => 0
  | n + 1, d => mxL (depthT n) d.kids + 1
theorem sizeT_succ (n : Nat) (d : TreeD) : sizeT (n + 1) d = 1 + szL (sizeT n) d.kids := rfl
theorem depthT_succ (n : Nat) (d : TreeD) : depthT (n + 1) d = mxL (depthT n) d.kids + 1 := rfl
theorem depth_size : ∀ (n : Nat) (d : TreeD), depthT n d ≤ sizeT n d
  | 0, _ => Nat.le_refl _
  | n + 1, d => by
    have h : ∀ l : List TreeD, mxL (depthT n) l ≤ szL (sizeT n) l := by
      intro l
      induction l with
      | nil => exact Nat.le_refl _
      | cons t l ih =>
        have := depth_size n t
        simp only [mxL, szL]
        omega
    rw [depthT_succ, sizeT_succ]
    have := h d.kids
    omega
theorem size_kid {n k : Nat} {d t : TreeD} (h : d.kids[k]? = some t) : szL (sizeT n) (d.kids.take k) + sizeT n t + 1 ≤ sizeT (n + 1) d := by
  have h1 := szL_take_succ (sizeT n) d.kids k t h
  have h2 := szL_take_le (sizeT n) d.kids (k + 1)
  rw [sizeT_succ]
  omega
theorem depth_kid {n k : Nat} {d t : TreeD} (h : d.kids[k]? = some t) : mxL (depthT n) (d.kids.take k) + 1 ≤ depthT (n + 1) d ∧ depthT n t + 1 ≤ depthT (n + 1) d := by
  have h1 := mxL_next (depthT n) h
  have h2 : mxL (depthT n) d.kids = max (mxL (depthT n) (d.kids.take (k + 1))) (mxL (depthT n) (d.kids.drop (k + 1))) := by rw [← mxL_app, List.take_append_drop]
  rw [depthT_succ]
  omega
def T_DepthI (n : Nat) : Prop := ∀ (d : TreeD) (cs : List Value) (w : World) (lo : Nat), C_Tree n lo w.heap.size w d cs → sizeT n d ≤ 1073741824 →
    Calls Tryz.prog 80 #[.agg cs.toArray] w fun e w' => e = .returned (.int .i64 (depthT n d : Nat)) ∧ Below w.heap.size w w'
set_option maxHeartbeats 4000000 in
set_option maxRecDepth 10000 in
theorem of_DepthI (n : Nat) (ih : T_DepthI n) : T_DepthI (n + 1) := by
  intro d cs w lo h hsz
  have hds := depth_size (n + 1) d
  obtain ⟨v4, v5, rfl, a0, a2, a3, a4, a5⟩ := C_Tree.out h
  obtain ⟨A4, c4, rfl⟩ := a4.form
  obtain ⟨A5, c5, rfl, hlc, hcc, hA⟩ := a5
  clear h a4
  go_enter Tryz.func80, Tryz.ntmps80
  go_wp2_with fail
  go_loopw [3, 9] (fun s v wr => ∃ k : Nat, k ≤ d.kids.length ∧ v = .int .i64 k ∧ s = .int .i64 (mxL (depthT n) (d.kids.take k) : Nat) ∧ Below w.heap.size w wr) (fun _ v _ => d.kids.length - (intOf v).toNat)
  case atStart => exact ⟨0, Nat.zero_le _, rfl, rfl, bel⟩
  case round =>
    obtain ⟨k, hk, rfl, rfl, hbr⟩ := hrel
    by_cases hlt : k < d.kids.length
    · skip
      obtain ⟨p, o, rfl, -, hbl, hcell⟩ := hA (by omega)
      obtain ⟨t, ht⟩ := exists_at hlt
      obtain ⟨es, -, hcs, hC⟩ := hcell k t ht
      obtain ⟨eA4, ec4, eA5, ec5, rfl, ea0, ea2, ea3⟩ := hC.flat
      have hc0 := (hbr.cell (p := ⟨p, o + k * 6 + 0, none⟩) (by simp; omega)).trans (hcs 0 (by omega))
      simp at hc0
      have hc1 := (hbr.cell (p := ⟨p, o + k * 6 + 1, none⟩) (by simp; omega)).trans (hcs 1 (by omega))
      simp at hc1
      have hc2 := (hbr.cell (p := ⟨p, o + k * 6 + 2, none⟩) (by simp; omega)).trans (hcs 2 (by omega))
      simp at hc2
      have hc3 := (hbr.cell (p := ⟨p, o + k * 6 + 3, none⟩) (by simp; omega)).trans (hcs 3 (by omega))
      simp at hc3
      have hc4 := (hbr.cell (p := ⟨p, o + k * 6 + 4, none⟩) (by simp; omega)).trans (hcs 4 (by omega))
      simp at hc4
      have hc5 := (hbr.cell (p := ⟨p, o + k * 6 + 5, none⟩) (by simp; omega)).trans (hcs 5 (by omega))
      simp at hc5
      have hbr1 := Nat.lt_of_lt_of_le hbl hbr.size
      have hk0 : (0 : Int) ≤ k := by omega
      have hk1 : (k : Int) < d.kids.length := by omega
      have hs1 := size_kid (n := n) ht
      have hd1 := depth_kid (n := n) ht
      have hts : sizeT n t ≤ 1073741824 := by omega
      have HC := Lib.hid hC
      have Hnx := Lib.hid (mxL_next (depthT n) ht)
      clear hcs hcell hA hC
      obtain ⟨x, hx⟩ : ∃ x : Nat, x = mxL (depthT n) (d.kids.take k) := ⟨_, rfl⟩
      have hxb : x ≤ 1073741824 := by omega
      rw [← hx]
      have HX := Lib.hid hx
      obtain ⟨y, hy⟩ : ∃ y : Nat, y = depthT n t := ⟨_, rfl⟩
      have hyb : y + x ≤ 2147483648 := by have := depth_size n t; omega
      have HY := Lib.hid hy
      clear hx hy hs1 hd1
      go_wp2_with (go_at_call 80; refine (ih t _ _ _ (HC.out.now bel) hts).mono ?_; rintro e w9 ⟨rfl, hb9⟩; rw [← HY.out])
      go_roundw
      case rel => exact ⟨k + 1, by omega, by go_num, by (have h1 := Hnx.out; rw [← HX.out, ← HY.out] at h1; rw [h1]; simp; omega), bel⟩
      case measure => simp [intOf]; omega
    · obtain rfl : k = d.kids.length := by omega
      have Hf := Lib.hid (show depthT (n + 1) d = mxL (depthT n) (d.kids.take d.kids.length) + 1 by rw [depthT_succ, List.take_of_length_le (Nat.le_refl _)])
      obtain ⟨x, hx⟩ : ∃ x : Nat, x = mxL (depthT n) (d.kids.take d.kids.length) := ⟨_, rfl⟩
      rw [← hx] at Hf
      rw [← hx]
      have hxb : x ≤ 1073741824 := by have := Hf.out; omega
      clear hA hx
      go_wp2_with fail
      go_ret
      exact ⟨by rw [Hf.out]; go_num, bel⟩
theorem all_DepthI : ∀ n, T_DepthI n
  | 0 => fun _ _ _ _ h _ => (C_Tree.none h).elim
  | n + 1 => of_DepthI n (all_DepthI n)
def T_SizeI (n : Nat) : Prop := ∀ (d : TreeD) (cs : List Value) (w : World) (lo : Nat), C_Tree n lo w.heap.size w d cs → sizeT n d ≤ 1073741824 →
    Calls Tryz.prog 81 #[.agg cs.toArray] w fun e w' => e = .returned (.int .i64 (sizeT n d : Nat)) ∧ Below w.heap.size w w'
set_option maxHeartbeats 4000000 in
set_option maxRecDepth 10000 in
theorem of_SizeI (n : Nat) (ih : T_SizeI n) : T_SizeI (n + 1) := by
  intro d cs w lo h hsz
  have hds := depth_size (n + 1) d
  obtain ⟨v4, v5, rfl, a0, a2, a3, a4, a5⟩ := C_Tree.out h
  obtain ⟨A4, c4, rfl⟩ := a4.form
  obtain ⟨A5, c5, rfl, hlc, hcc, hA⟩ := a5
  clear h a4
  go_enter Tryz.func81, Tryz.ntmps81
  go_wp2_with fail
  go_loopw [3, 9] (fun s v wr => ∃ k : Nat, k ≤ d.kids.length ∧ v = .int .i64 k ∧ s = .int .i64 (1 + szL (sizeT n) (d.kids.take k) : Nat) ∧ Below w.heap.size w wr) (fun _ v _ => d.kids.length - (intOf v).toNat)
  case atStart => exact ⟨0, Nat.zero_le _, rfl, rfl, bel⟩
  case round =>
    obtain ⟨k, hk, rfl, rfl, hbr⟩ := hrel
    by_cases hlt : k < d.kids.length
    · skip
      obtain ⟨p, o, rfl, -, hbl, hcell⟩ := hA (by omega)
      obtain ⟨t, ht⟩ := exists_at hlt
      obtain ⟨es, -, hcs, hC⟩ := hcell k t ht
      obtain ⟨eA4, ec4, eA5, ec5, rfl, ea0, ea2, ea3⟩ := hC.flat
      have hc0 := (hbr.cell (p := ⟨p, o + k * 6 + 0, none⟩) (by simp; omega)).trans (hcs 0 (by omega))
      simp at hc0
      have hc1 := (hbr.cell (p := ⟨p, o + k * 6 + 1, none⟩) (by simp; omega)).trans (hcs 1 (by omega))
      simp at hc1
      have hc2 := (hbr.cell (p := ⟨p, o + k * 6 + 2, none⟩) (by simp; omega)).trans (hcs 2 (by omega))
      simp at hc2
      have hc3 := (hbr.cell (p := ⟨p, o + k * 6 + 3, none⟩) (by simp; omega)).trans (hcs 3 (by omega))
      simp at hc3
      have hc4 := (hbr.cell (p := ⟨p, o + k * 6 + 4, none⟩) (by simp; omega)).trans (hcs 4 (by omega))
      simp at hc4
      have hc5 := (hbr.cell (p := ⟨p, o + k * 6 + 5, none⟩) (by simp; omega)).trans (hcs 5 (by omega))
      simp at hc5
      have hbr1 := Nat.lt_of_lt_of_le hbl hbr.size
      have hk0 : (0 : Int) ≤ k := by omega
      have hk1 : (k : Int) < d.kids.length := by omega
      have hs1 := size_kid (n := n) ht
      have hd1 := depth_kid (n := n) ht
      have hts : sizeT n t ≤ 1073741824 := by omega
      have HC := Lib.hid hC
      have Hnx := Lib.hid (szL_take_succ (sizeT n) d.kids k t ht)
      clear hcs hcell hA hC
      obtain ⟨x, hx⟩ : ∃ x : Nat, x = 1 + szL (sizeT n) (d.kids.take k) := ⟨_, rfl⟩
      have hxb : x ≤ 1073741824 := by omega
      rw [← hx]
      have HX := Lib.hid hx
      obtain ⟨y, hy⟩ : ∃ y : Nat, y = sizeT n t := ⟨_, rfl⟩
      have hyb : y + x ≤ 2147483648 := by have := depth_size n t; omega
      have HY := Lib.hid hy
      clear hx hy hs1 hd1
      go_wp2_with (go_at_call 81; refine (ih t _ _ _ (HC.out.now bel) hts).mono ?_; rintro e w9 ⟨rfl, hb9⟩; rw [← HY.out])
      go_roundw
      case rel => exact ⟨k + 1, by omega, by go_num, by (have h1 := Hnx.out; have h2 := HX.out; have h3 := HY.out; go_num), bel⟩
      case measure => simp [intOf]; omega
    · obtain rfl : k = d.kids.length := by omega
      have Hf := Lib.hid (show sizeT (n + 1) d = 1 + szL (sizeT n) (d.kids.take d.kids.length) by rw [sizeT_succ, List.take_of_length_le (Nat.le_refl _)])
      obtain ⟨x, hx⟩ : ∃ x : Nat, x = 1 + szL (sizeT n) (d.kids.take d.kids.length) := ⟨_, rfl⟩
      rw [← hx] at Hf
      rw [← hx]
      have hxb : x ≤ 1073741824 := by have := Hf.out; omega
      clear hA hx
      go_wp2_with fail
      go_ret
      exact ⟨by rw [Hf.out]; rfl, bel⟩
theorem all_SizeI : ∀ n, T_SizeI n
  | 0 => fun _ _ _ _ h _ => (C_Tree.none h).elim
  | n + 1 => of_SizeI n (all_SizeI n)
def T_DepthS (n : Nat) : Prop := ∀ (d : TreeD) (cs : List Value) (w : World) (lo : Nat), C_Tree n lo w.heap.size w d cs → sizeT n d ≤ 1073741824 →
    Calls Tryz.prog 48 #[.agg cs.toArray] w fun e w' => e = .returned (.int .i64 (depthT n d : Nat)) ∧ Below w.heap.size w w'
set_option maxHeartbeats 4000000 in
set_option maxRecDepth 10000 in
theorem of_DepthS (n : Nat) (ih : T_DepthS n) : T_DepthS (n + 1) := by
  intro d cs w lo h hsz
  have hds := depth_size (n + 1) d
  obtain ⟨v4, v5, rfl, a0, a2, a3, a4, a5⟩ := C_Tree.out h
  obtain ⟨A4, c4, rfl⟩ := a4.form
  obtain ⟨A5, c5, rfl, hlc, hcc, hA⟩ := a5
  clear h a4
  go_enter Tryz.func48, Tryz.ntmps48
  go_wp2_with fail
  go_loopw [3, 4] (fun s v wr => ∃ k : Nat, k ≤ d.kids.length ∧ v = .int .i64 k ∧ s = .int .i64 (mxL (depthT n) (d.kids.take k) : Nat) ∧ wr.heap[w.heap.size]? = some (.cells #[.int .i64 d.kind, .bool d.flag, .int .i64 d.num, .string d.text, .slice A4 d.keys.length c4, .slice A5 d.kids.length c5] 27 (0, 0)) ∧ Below w.heap.size w wr) (fun _ v _ => d.kids.length - (intOf v).toNat)
  case atStart => exact ⟨0, Nat.zero_le _, rfl, rfl, heap_at rfl, bel⟩
  case round =>
    obtain ⟨k, hk, rfl, rfl, hT, hbr⟩ := hrel
    have HT := Lib.hid hT
    clear hT
    obtain ⟨x0, x1, x2, x3, x4, x5, xf⟩ := row6 HT.out
    have hl1 := row_lt HT.out
    by_cases hlt : k < d.kids.length
    · skip
      obtain ⟨p, o, rfl, -, hbl, hcell⟩ := hA (by omega)
      obtain ⟨t, ht⟩ := exists_at hlt
      obtain ⟨es, -, hcs, hC⟩ := hcell k t ht
      obtain ⟨eA4, ec4, eA5, ec5, rfl, ea0, ea2, ea3⟩ := hC.flat
      have hc0 := (hbr.cell (p := ⟨p, o + k * 6 + 0, none⟩) (by simp; omega)).trans (hcs 0 (by omega))
      simp at hc0
      have hc1 := (hbr.cell (p := ⟨p, o + k * 6 + 1, none⟩) (by simp; omega)).trans (hcs 1 (by omega))
      simp at hc1
      have hc2 := (hbr.cell (p := ⟨p, o + k * 6 + 2, none⟩) (by simp; omega)).trans (hcs 2 (by omega))
      simp at hc2
      have hc3 := (hbr.cell (p := ⟨p, o + k * 6 + 3, none⟩) (by simp; omega)).trans (hcs 3 (by omega))
      simp at hc3
      have hc4 := (hbr.cell (p := ⟨p, o + k * 6 + 4, none⟩) (by simp; omega)).trans (hcs 4 (by omega))
      simp at hc4
      have hc5 := (hbr.cell (p := ⟨p, o + k * 6 + 5, none⟩) (by simp; omega)).trans (hcs 5 (by omega))
      simp at hc5
      have hbr1 := Nat.lt_of_lt_of_le hbl hbr.size
      have hk0 : (0 : Int) ≤ k := by omega
      have hk1 : (k : Int) < d.kids.length := by omega
      have hs1 := size_kid (n := n) ht
      have hd1 := depth_kid (n := n) ht
      have hts : sizeT n t ≤ 1073741824 := by omega
      have HC := Lib.hid hC
      have Hnx := Lib.hid (mxL_next (depthT n) ht)
      clear hcs hcell hA hC
      obtain ⟨x, hx⟩ : ∃ x : Nat, x = mxL (depthT n) (d.kids.take k) := ⟨_, rfl⟩
      have hxb : x ≤ 1073741824 := by omega
      rw [← hx]
      have HX := Lib.hid hx
      obtain ⟨y, hy⟩ : ∃ y : Nat, y = depthT n t := ⟨_, rfl⟩
      have hyb : y + x ≤ 2147483648 := by have := depth_size n t; omega
      have HY := Lib.hid hy
      clear hx hy hs1 hd1
      have hyx : decide (x < y) = true ∨ decide (x < y) = false := by rcases decide (x < y) with _ | _ <;> simp
      rcases hyx with hyx | hyx
      · have hyi : (x : Int) < y := by have := of_decide_eq_true hyx; omega
        have hn : max x y = y := by have := of_decide_eq_true hyx; omega
        clear hyx
        go_wp2_with (go_at_call 48; refine (ih t _ _ _ (HC.out.now bel) hts).mono ?_; rintro e w9 ⟨rfl, hb9⟩; rw [← HY.out])
        go_roundw
        case rel => exact ⟨k + 1, by omega, by go_num, by (have h1 := Hnx.out; rw [← HX.out, ← HY.out, hn] at h1; rw [h1]), (hb9.block _ (by first | omega | (simp; omega))).trans HT.out, bel⟩
        case measure => simp [intOf]; omega
      · have hyi : decide ((x : Int) < y) = false := decide_eq_false (by have := of_decide_eq_false hyx; omega)
        have hn : max x y = x := by have := of_decide_eq_false hyx; omega
        clear hyx
        go_wp2_with (go_at_call 48; refine (ih t _ _ _ (HC.out.now bel) hts).mono ?_; rintro e w9 ⟨rfl, hb9⟩; rw [← HY.out])
        go_roundw
        case rel => exact ⟨k + 1, by omega, by go_num, by (have h1 := Hnx.out; rw [← HX.out, ← HY.out, hn] at h1; rw [h1]), (hb9.block _ (by first | omega | (simp; omega))).trans HT.out, bel⟩
        case measure => simp [intOf]; omega
    · obtain rfl : k = d.kids.length := by omega
      have Hf := Lib.hid (show depthT (n + 1) d = mxL (depthT n) (d.kids.take d.kids.length) + 1 by rw [depthT_succ, List.take_of_length_le (Nat.le_refl _)])
      obtain ⟨x, hx⟩ : ∃ x : Nat, x = mxL (depthT n) (d.kids.take d.kids.length) := ⟨_, rfl⟩
      rw [← hx] at Hf
      rw [← hx]
      have hxb : x ≤ 1073741824 := by have := Hf.out; omega
      clear hA hx
      go_wp2_with fail
      go_ret
      exact ⟨by rw [Hf.out]; go_num, bel⟩
theorem all_DepthS : ∀ n, T_DepthS n
  | 0 => fun _ _ _ _ h _ => (C_Tree.none h).elim
  | n + 1 => of_DepthS n (all_DepthS n)
def T_SizeS (n : Nat) : Prop := ∀ (d : TreeD) (cs : List Value) (w : World) (lo : Nat), C_Tree n lo w.heap.size w d cs → sizeT n d ≤ 1073741824 →
    Calls Tryz.prog 49 #[.agg cs.toArray] w fun e w' => e = .returned (.int .i64 (sizeT n d : Nat)) ∧ Below w.heap.size w w'
set_option maxHeartbeats 4000000 in
set_option maxRecDepth 10000 in
theorem of_SizeS (n : Nat) (ih : T_SizeS n) : T_SizeS (n + 1) := by
  intro d cs w lo h hsz
  have hds := depth_size (n + 1) d
  obtain ⟨v4, v5, rfl, a0, a2, a3, a4, a5⟩ := C_Tree.out h
  obtain ⟨A4, c4, rfl⟩ := a4.form
  obtain ⟨A5, c5, rfl, hlc, hcc, hA⟩ := a5
  clear h a4
  go_enter Tryz.func49, Tryz.ntmps49
  go_wp2_with fail
  go_loopw [3, 4] (fun s v wr => ∃ k : Nat, k ≤ d.kids.length ∧ v = .int .i64 k ∧ s = .int .i64 (1 + szL (sizeT n) (d.kids.take k) : Nat) ∧ wr.heap[w.heap.size]? = some (.cells #[.int .i64 d.kind, .bool d.flag, .int .i64 d.num, .string d.text, .slice A4 d.keys.length c4, .slice A5 d.kids.length c5] 27 (0, 0)) ∧ Below w.heap.size w wr) (fun _ v _ => d.kids.length - (intOf v).toNat)
  case atStart => exact ⟨0, Nat.zero_le _, rfl, rfl, heap_at rfl, bel⟩
  case round =>
    obtain ⟨k, hk, rfl, rfl, hT, hbr⟩ := hrel
    have HT := Lib.hid hT
    clear hT
    obtain ⟨x0, x1, x2, x3, x4, x5, xf⟩ := row6 HT.out
    have hl1 := row_lt HT.out
    by_cases hlt : k < d.kids.length
    · skip
      obtain ⟨p, o, rfl, -, hbl, hcell⟩ := hA (by omega)
      obtain ⟨t, ht⟩ := exists_at hlt
      obtain ⟨es, -, hcs, hC⟩ := hcell k t ht
      obtain ⟨eA4, ec4, eA5, ec5, rfl, ea0, ea2, ea3⟩ := hC.flat
      have hc0 := (hbr.cell (p := ⟨p, o + k * 6 + 0, none⟩) (by simp; omega)).trans (hcs 0 (by omega))
      simp at hc0
      have hc1 := (hbr.cell (p := ⟨p, o + k * 6 + 1, none⟩) (by simp; omega)).trans (hcs 1 (by omega))
      simp at hc1
      have hc2 := (hbr.cell (p := ⟨p, o + k * 6 + 2, none⟩) (by simp; omega)).trans (hcs 2 (by omega))
      simp at hc2
      have hc3 := (hbr.cell (p := ⟨p, o + k * 6 + 3, none⟩) (by simp; omega)).trans (hcs 3 (by omega))
      simp at hc3
      have hc4 := (hbr.cell (p := ⟨p, o + k * 6 + 4, none⟩) (by simp; omega)).trans (hcs 4 (by omega))
      simp at hc4
      have hc5 := (hbr.cell (p := ⟨p, o + k * 6 + 5, none⟩) (by simp; omega)).trans (hcs 5 (by omega))
      simp at hc5
      have hbr1 := Nat.lt_of_lt_of_le hbl hbr.size
      have hk0 : (0 : Int) ≤ k := by omega
      have hk1 : (k : Int) < d.kids.length := by omega
      have hs1 := size_kid (n := n) ht
      have hd1 := depth_kid (n := n) ht
      have hts : sizeT n t ≤ 1073741824 := by omega
      have HC := Lib.hid hC
      have Hnx := Lib.hid (szL_take_succ (sizeT n) d.kids k t ht)
      clear hcs hcell hA hC
      obtain ⟨x, hx⟩ : ∃ x : Nat, x = 1 + szL (sizeT n) (d.kids.take k) := ⟨_, rfl⟩
      have hxb : x ≤ 1073741824 := by omega
      rw [← hx]
      have HX := Lib.hid hx
      obtain ⟨y, hy⟩ : ∃ y : Nat, y = sizeT n t := ⟨_, rfl⟩
      have hyb : y + x ≤ 2147483648 := by have := depth_size n t; omega
      have HY := Lib.hid hy
      clear hx hy hs1 hd1
      go_wp2_with (go_at_call 49; refine (ih t _ _ _ (HC.out.now bel) hts).mono ?_; rintro e w9 ⟨rfl, hb9⟩; rw [← HY.out])
      go_roundw
      case rel => exact ⟨k + 1, by omega, by go_num, by (have h1 := Hnx.out; have h2 := HX.out; have h3 := HY.out; go_num), (hb9.block _ (by first | omega | (simp; omega))).trans HT.out, bel⟩
      case measure => simp [intOf]; omega
    · obtain rfl : k = d.kids.length := by omega
      have Hf := Lib.hid (show sizeT (n + 1) d = 1 + szL (sizeT n) (d.kids.take d.kids.length) by rw [sizeT_succ, List.take_of_length_le (Nat.le_refl _)])
      obtain ⟨x, hx⟩ : ∃ x : Nat, x = 1 + szL (sizeT n) (d.kids.take d.kids.length) := ⟨_, rfl⟩
      rw [← hx] at Hf
      rw [← hx]
      have hxb : x ≤ 1073741824 := by have := Hf.out; omega
      clear hA hx
      go_wp2_with fail
      go_ret
      exact ⟨by rw [Hf.out]; rfl, bel⟩
theorem all_SizeS : ∀ n, T_SizeS n
  | 0 => fun _ _ _ _ h _ => (C_Tree.none h).elim
  | n + 1 => of_SizeS n (all_SizeS n)
end Go.Proofs.YtffelpdefjkeaaaGreatDoor
namespace Go.Proofs.YtffelpdefjkeaaaGreatDoor
open Go.RowKit
def allR (n : Nat) (p : Nat → Bool) : Bool := (List.range n).all p
theorem allR_succ (n : Nat) (p : Nat → Bool) : allR (n + 1) p = (allR n p && p n) := by
  unfold allR; rw [List.range_succ, List.all_append]; simp
theorem allR_bad (n k : Nat) (p : Nat → Bool) (hk : k < n) (h : p k = false) : allR n p = false := by
  unfold allR; rw [List.all_eq_false]; exact ⟨k, by simpa using hk, by simp [h]⟩
def eqAt {D : Type} (eq : D → D → Bool) (l m : List D) (i : Nat) : Bool := match l[i]?, m[i]? with | some a, some b => eq a b | _, _ => true
theorem eqAt_eq {D : Type} (eq : D → D → Bool) (l m : List D) (i : Nat) (a b : D) (ha : l[i]? = some a) (hb : m[i]? = some b) : eqAt eq l m i = eq a b := by unfold eqAt; rw [ha, hb]
def eqL {D : Type} (eq : D → D → Bool) (l m : List D) : Bool := decide (l.length = m.length) && allR l.length (eqAt eq l m)
theorem eqL_len {D : Type} (eq : D → D → Bool) (l m : List D) (h : l.length ≠ m.length) : eqL eq l m = false := by unfold eqL; simp [h]
theorem eqL_bad {D : Type} (eq : D → D → Bool) (l m : List D) (k : Nat) (hk : k < l.length) (h : eqAt eq l m k = false) : eqL eq l m = false := by unfold eqL; rw [allR_bad _ k _ hk h, Bool.and_false]
theorem eqL_all {D : Type} (eq : D → D → Bool) (l m : List D) (h : l.length = m.length) (ha : allR l.length (eqAt eq l m) = true) : eqL eq l m = true := by unfold eqL; rw [ha]; simp [h]
def eqStr (d d' : ByteArray) : Bool := (d.toList == d'.toList)
end Go.Proofs.YtffelpdefjkeaaaGreatDoor
