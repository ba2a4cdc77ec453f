/- Written by wip/tools/pack.py: the texts that FnOrder needs, without what it does not need. No conditions. -/
import Derived.Test.YtffelpdefjkeaaaGreatDoorKFnOrder13
import Derived.Test.YtffelpdefjkeaaaGreatDoorKFnOrder7
import Derived.Deep.CutRange
import Derived.Deep.CutBlock
import Derived.Deep.RegionLaw
import Derived.Test.YtffelpdefjkeaaaGreatDoorKFnOrder1
import Derived.Test.YtffelpdefjkeaaaGreatDoorKFnOrder8
import Derived.Test.YtffelpdefjkeaaaGreatDoorKFnOrder9
namespace Go.Proofs.YtffelpdefjkeaaaGreatDoor
open Go.RowKit Go.Lib
/-- A slice of the call's own holds the bytes M. -/
def BufB (base : Nat) (w : World) (M : List UInt8) (v : Value) : Prop := w.ownsRow base 5 1 v M.length (Lib.strCells ⟨M.toArray⟩)
theorem BufB.below {base : Nat} {w w' : World} {M : List UInt8} {v : Value} (h : BufB base w M v) (hb : Below w.heap.size w w') : BufB base w' M v := ownsRow_carry h (fun q hq => hb.block q (World.ownsRow.lt h q hq).2)
theorem cells_one (l : List UInt8) : ∀ x ∈ Lib.strCells ⟨l.toArray⟩, x.oneCell' = true := by
  intro x hx
  unfold Lib.strCells at hx
  rw [List.mem_map] at hx
  obtain ⟨b, -, rfl⟩ := hx
  rfl
theorem cells_len (l : List UInt8) : (Lib.strCells ⟨l.toArray⟩).length = l.length := by unfold Lib.strCells; rw [List.length_map]
theorem own_lit {w : World} {bs : List UInt8} {k : Nat} (hk : k = bs.length) (hm : k ≤ 1048576) {cs : List Value} (hcs : cs = Lib.strCells ⟨bs.toArray⟩) :
    (w.alloc (.cells cs.toArray 5)).ownsRow w.heap.size 5 1 (.slice (some ⟨w.heap.size, 0, none⟩) k k) k (Lib.strCells ⟨bs.toArray⟩) := by
  have hl := cells_len bs
  subst hcs hk
  exact ⟨by rw [hl, Nat.mul_one], .inr ⟨w.heap.size, bs.length, (Lib.strCells ⟨bs.toArray⟩).toArray, rfl, Nat.le_refl _, heap_alloc_new w _, Nat.le_refl _, by unfold maxLen; omega, by rw [List.size_toArray, hl]; omega, by rw [List.take_of_length_le (by simp [hl])]⟩⟩
theorem run_buf (wx : World) (base n c k : Nat) (A : Option Addr) (M bs : List UInt8) (cs : List Value) (hn : n = M.length) (h : BufB base wx M (.slice A n c)) (hk : k = bs.length) (hcs : cs = Lib.strCells ⟨bs.toArray⟩) (hsz : n + k ≤ 1073741824) (hk2 : k ≤ 1048576) (hbase : base ≤ wx.heap.size) :
    ∃ (A' : Option Addr) (c' : Nat) (w' : World), (Builtin.append_ #[37, 37] 37 #[.slice A n c, .slice (some ⟨wx.heap.size, 0, none⟩) k k]).run Tryz.prog (wx.alloc (.cells cs.toArray 5)) = .ok (.slice A' (n + k) c') w' ∧ BufB base w' (M ++ bs) (.slice A' (n + k) c') ∧ Below base wx w' := by
  obtain ⟨i0, hi, hz0, hz1, hz2⟩ := info_parts (show (Tryz.prog.info? 5).map (fun i => (i.zero, i.size, i.bytes)) = some (some (.int .u8 0), 1, 1) from by kernel_rfl)
  unfold BufB at h
  rw [← hn] at h
  have hb : Below wx.heap.size wx (wx.alloc (.cells cs.toArray 5)) := bel
  have h' := ownsRow_carry h (fun q hq => hb.block q (World.ownsRow.lt h q hq).2)
  obtain ⟨v', w', hr, h2, h3, h5⟩ := run_append_row (P := Tryz.prog) (wx.alloc (.cells cs.toArray 5)) 37 37 base 5 i0 (.int .u8 0) 1 1 Tryz.underlying37 hi hz0 hz1 hz2 rfl (by decide) (.slice A n c) n _ h' wx.heap.size k _ _ (own_lit hk hk2 hcs) (cells_one bs) (by unfold maxLen; omega) (by omega) (by simp; omega)
  obtain ⟨A', c', rfl⟩ := own_form h2
  refine ⟨A', c', w', hr, ?_, Below.grown (hb.mono hbase) h3 (by simp; omega) (fun q hq => (World.ownsRow.lt h q hq).1)⟩
  unfold BufB
  rw [List.length_append, ← hn, ← hk]
  rw [strCells_list] at h2
  exact h2
end Go.Proofs.YtffelpdefjkeaaaGreatDoor
namespace Go.Proofs.YtffelpdefjkeaaaGreatDoor
open Go.RowKit Go.Lib
def escK (b : Nat) : Int := if b = 8 then 0 else if b = 12 then 1 else if b = 10 then 2 else if b = 13 then 3 else if b = 9 then 4 else -1
set_option maxRecDepth 1000000 in
theorem idx_escK : ∀ i : Fin 256, Lib.indexByte [8, 12, 10, 13, 9] (UInt8.ofNat i.val) = escK i.val := by decide
theorem c_IndexEscK (b : Nat) (hb : b < 256) (w : World) : Calls Tryz.prog 65 #[.string { data := #[8, 12, 10, 13, 9] }, .int .u8 b] w fun e w' => e = .returned (.int .i64 (escK b)) ∧ w = w' := by
  have h := c_strings_IndexByte { data := #[8, 12, 10, 13, 9] } (UInt8.ofNat b) w
  have e1 : (UInt8.ofNat b).toNat = b := by rw [UInt8.toNat_ofNat']; exact Nat.mod_eq_of_lt hb
  rw [e1] at h
  exact h.mono (fun _ _ h => ⟨h.1.trans (congrArg (fun z => Ending.returned (Value.int .i64 z)) (idx_escK ⟨b, hb⟩)), h.2⟩)
theorem hexd : ∀ (x : Nat) (h : x < 16), (({ data := #[48, 49, 50, 51, 52, 53, 54, 55, 56, 57, 97, 98, 99, 100, 101, 102] } : ByteArray)[x]'h).toNat = (figU x).toNat := by
  intro x h
  have h16 : x = 0 ∨ x = 1 ∨ x = 2 ∨ x = 3 ∨ x = 4 ∨ x = 5 ∨ x = 6 ∨ x = 7 ∨ x = 8 ∨ x = 9 ∨ x = 10 ∨ x = 11 ∨ x = 12 ∨ x = 13 ∨ x = 14 ∨ x = 15 := by omega
  rcases h16 with rfl | rfl | rfl | rfl | rfl | rfl | rfl | rfl | rfl | rfl | rfl | rfl | rfl | rfl | rfl | rfl <;> rfl
theorem take_flat {s : ByteArray} {k : Nat} {c : UInt8} (h : s.data.toList[k]? = some c) : (s.data.toList.take (k + 1)).flatMap qB = (s.data.toList.take k).flatMap qB ++ qB c := by
  rw [List.take_add_one, h]
  simp
set_option maxHeartbeats 8000000 in
set_option maxRecDepth 20000 in
theorem c_impl_Quoted (s : ByteArray) (w : World) (hs : s.size ≤ 1048576) (hT : Tabs w) :
    Calls Tryz.prog 85 #[.string s] w fun e w' => e = .returned (.string (quoteB s)) ∧ Below w.heap.size w w' := by
  have HU := Lib.hid (c_impl_Utf8Ok s w (by omega) hT)
  obtain ⟨r, hr⟩ : ∃ r, r = quoteB s := ⟨_, rfl⟩
  rw [← hr]
  clear hT
  rcases hu : utf8B s with _ | _
  · have HR := Lib.hid (show r = ⟨#[]⟩ by rw [hr]; unfold quoteB; rw [hu]; rfl)
    clear hr
    go_enter Tryz.func85, Tryz.ntmps85
    go_wp2_with (go_at_call 117; refine HU.out.mono ?_; rintro e w1 ⟨rfl, hb⟩; (first | (have hcu2 := Cum.join hcu hb; (try clear hcu); (try clear hc); (try clear hfz); (try clear hsz); (try clear hs0); (try clear hs1); (try clear hs2); (try clear hs3); (try clear hs4); ) | have hcu2 := Cum.mk hb); have hcu := hcu2; clear hcu2; obtain ⟨hc, hfz⟩ := bcell hcu.h; have hsz := hcu.h.size; (try simp at hsz); (try have hs0 := lt_of_succ_le hsz); (try (have hs1 := lt_pred hsz; (try (have hs2 := lt_pred hs1; (try (have hs3 := lt_pred hs2; (try have hs4 := lt_pred hs3))))))))
    go_ret
    exact ⟨by rw [HR.out]; rfl, bel⟩
  · have HR := Lib.hid (show r = ⟨(34 :: s.data.toList.flatMap qB ++ [34]).toArray⟩ by rw [hr]; unfold quoteB; rw [hu]; rfl)
    clear hr
    go_enter Tryz.func85, Tryz.ntmps85
    go_wp2_with fail
    refine HU.out.mono ?_
    rintro e w1 ⟨rfl, hb1⟩
    have HB1 := Lib.hid hb1
    clear hb1
    go_wp2_with fail
    go_loopw [3, 13] (fun s3 v wr => ∃ (k : Nat) (M : List UInt8) (A : Option Addr) (n c : Nat), k ≤ s.size ∧ v = .int .i64 k ∧ M = 34 :: (s.data.toList.take k).flatMap qB ∧ n = M.length ∧ n ≤ 6 * k + 1 ∧ s3 = .slice A n c ∧ BufB w.heap.size wr M (.slice A n c) ∧ Below w.heap.size w wr) (fun _ v _ => s.size - (Lib.intOf v).toNat)
    case atStart => exact ⟨0, [34], some ⟨w1.heap.size, 0, none⟩, 1, 1, Nat.zero_le _, rfl, rfl, rfl, by omega, rfl, own_less (own_lit (bs := [34]) (k := 1) rfl (by decide) rfl) HB1.out.size, HB1.out.trans (Below.mono bel HB1.out.size)⟩
    case round =>
      obtain ⟨k, M, A, n, c, hk, rfl, hM, hn, hn6, rfl, hbuf, hbr⟩ := hrel
      have HM := Lib.hid hM
      have HN := Lib.hid hn
      have HBf := Lib.hid hbuf
      have HBr := Lib.hid hbr
      have hws := hbr.size
      clear hM hn hbuf hbr
      by_cases hlt : k < s.size
      · have hk0 : (0 : Int) ≤ k := by omega
        have hk1 : (k : Int) < s.size := by omega
        obtain ⟨b, hb⟩ : ∃ b : Nat, b = (s.get! k).toNat := ⟨_, rfl⟩
        have hx : (s[k]'hlt).toNat = b := by rw [hb]; exact get_at s k hlt
        have hb256 : b < 256 := by rw [← hx]; exact UInt8.toNat_lt _
        have HQ := Lib.hid (show (s.data.toList.take (k + 1)).flatMap qB = (s.data.toList.take k).flatMap qB ++ qN b by
          rw [take_flat (c := s[k]'hlt) (by rw [Array.getElem?_toList]; exact Array.getElem?_eq_getElem hlt), ← hx]; rfl)
        have hql := qN_len b
        clear hb
        obtain ⟨m, hm⟩ : ∃ m, m = (qN b).length := ⟨_, rfl⟩
        rw [← hm] at hql
        have HMm := Lib.hid hm
        clear hm
        go_upto_block 1 with fail
        go_cut [3] from 15 to 55 (fun s3 wx => ∃ (A' : Option Addr) (c' : Nat), s3 = .slice A' (n + m) c' ∧ BufB w.heap.size wx (M ++ qN b) (.slice A' (n + m) c') ∧ Below w.heap.size w wx)
        case first =>
          by_cases e34 : b = 34 ∨ b = 92
          · have f1 : ((b : Int) == 34) = true ∨ ((b : Int) == 34) = false ∧ ((b : Int) == 92) = true := by
              rcases e34 with rfl | rfl
              · exact .inl rfl
              · exact .inr ⟨rfl, rfl⟩
            rcases f1 with f1 | ⟨f1, f2⟩
            all_goals
              obtain ⟨A', c', w2, hr2, hb2, hbb2⟩ := run_buf wr w.heap.size n c 2 A M ([92, UInt8.ofNat b]) [.int .u8 92, .int .u8 (b : Int)] HN.out HBf.out rfl (by simp [Lib.strCells, Nat.mod_eq_of_lt hb256]) (by omega) (by decide) hws
              have HB2 := Lib.hid (And.intro hb2 (HBr.out.trans hbb2))
              have HQn := Lib.hid (show qN b = [92, UInt8.ofNat b] from by unfold qN; rw [if_pos e34])
              have hm2 : m = 2 := by rw [HMm.out, HQn.out]; rfl
              subst hm2
              clear hb2 hbb2
              go_wp2_with (first | (go_at_call 65; refine (c_IndexEscK b hb256 _).mono ?_; rintro e w9 ⟨rfl, rfl⟩) | (at_builtin; refine wpList_append_of rfl (.tmp 32) (.tmp 34) 37 rfl _ _ _ w2 rfl rfl hr2 ?_))
              go_meet
              exact ⟨A', c', rfl, by rw [HQn.out]; exact HB2.out.1, HB2.out.2⟩
          · have f1 : ((b : Int) == 34) = false := beq_eq_false_iff_ne.2 (by omega)
            have f2 : ((b : Int) == 92) = false := beq_eq_false_iff_ne.2 (by omega)
            by_cases e8 : b = 8 ∨ b = 12 ∨ b = 10 ∨ b = 13 ∨ b = 9
            · skip
              rcases e8 with rfl | rfl | rfl | rfl | rfl
              · obtain ⟨A', c', w2, hr2, hb2, hbb2⟩ := run_buf wr w.heap.size n c 2 A M ([92, 98]) [.int .u8 92, .int .u8 98] HN.out HBf.out rfl rfl (by omega) (by decide) hws
                have HB2 := Lib.hid (And.intro hb2 (HBr.out.trans hbb2))
                have HQn := Lib.hid (show qN 8 = [92, 98] from rfl)
                have hm2 : m = 2 := by rw [HMm.out, HQn.out]; rfl
                subst hm2
                have HK := Lib.hid (show escK 8 = 0 from rfl)
                clear hb2 hbb2 e34
                go_wp2_with (first | (go_at_call 65; refine (c_IndexEscK 8 hb256 _).mono ?_; rintro e w9 ⟨rfl, rfl⟩; rw [HK.out]) | (at_builtin; refine wpList_append_of rfl (.tmp 39) (.tmp 42) 37 rfl _ _ _ w2 rfl rfl hr2 ?_))
                go_meet
                exact ⟨A', c', rfl, by rw [HQn.out]; exact HB2.out.1, HB2.out.2⟩
              · obtain ⟨A', c', w2, hr2, hb2, hbb2⟩ := run_buf wr w.heap.size n c 2 A M ([92, 102]) [.int .u8 92, .int .u8 102] HN.out HBf.out rfl rfl (by omega) (by decide) hws
                have HB2 := Lib.hid (And.intro hb2 (HBr.out.trans hbb2))
                have HQn := Lib.hid (show qN 12 = [92, 102] from rfl)
                have hm2 : m = 2 := by rw [HMm.out, HQn.out]; rfl
                subst hm2
                have HK := Lib.hid (show escK 12 = 1 from rfl)
                clear hb2 hbb2 e34
                go_wp2_with (first | (go_at_call 65; refine (c_IndexEscK 12 hb256 _).mono ?_; rintro e w9 ⟨rfl, rfl⟩; rw [HK.out]) | (at_builtin; refine wpList_append_of rfl (.tmp 39) (.tmp 42) 37 rfl _ _ _ w2 rfl rfl hr2 ?_))
                go_meet
                exact ⟨A', c', rfl, by rw [HQn.out]; exact HB2.out.1, HB2.out.2⟩
              · obtain ⟨A', c', w2, hr2, hb2, hbb2⟩ := run_buf wr w.heap.size n c 2 A M ([92, 110]) [.int .u8 92, .int .u8 110] HN.out HBf.out rfl rfl (by omega) (by decide) hws
                have HB2 := Lib.hid (And.intro hb2 (HBr.out.trans hbb2))
                have HQn := Lib.hid (show qN 10 = [92, 110] from rfl)
                have hm2 : m = 2 := by rw [HMm.out, HQn.out]; rfl
                subst hm2
                have HK := Lib.hid (show escK 10 = 2 from rfl)
                clear hb2 hbb2 e34
                go_wp2_with (first | (go_at_call 65; refine (c_IndexEscK 10 hb256 _).mono ?_; rintro e w9 ⟨rfl, rfl⟩; rw [HK.out]) | (at_builtin; refine wpList_append_of rfl (.tmp 39) (.tmp 42) 37 rfl _ _ _ w2 rfl rfl hr2 ?_))
                go_meet
                exact ⟨A', c', rfl, by rw [HQn.out]; exact HB2.out.1, HB2.out.2⟩
              · obtain ⟨A', c', w2, hr2, hb2, hbb2⟩ := run_buf wr w.heap.size n c 2 A M ([92, 114]) [.int .u8 92, .int .u8 114] HN.out HBf.out rfl rfl (by omega) (by decide) hws
                have HB2 := Lib.hid (And.intro hb2 (HBr.out.trans hbb2))
                have HQn := Lib.hid (show qN 13 = [92, 114] from rfl)
                have hm2 : m = 2 := by rw [HMm.out, HQn.out]; rfl
                subst hm2
                have HK := Lib.hid (show escK 13 = 3 from rfl)
                clear hb2 hbb2 e34
                go_wp2_with (first | (go_at_call 65; refine (c_IndexEscK 13 hb256 _).mono ?_; rintro e w9 ⟨rfl, rfl⟩; rw [HK.out]) | (at_builtin; refine wpList_append_of rfl (.tmp 39) (.tmp 42) 37 rfl _ _ _ w2 rfl rfl hr2 ?_))
                go_meet
                exact ⟨A', c', rfl, by rw [HQn.out]; exact HB2.out.1, HB2.out.2⟩
              · obtain ⟨A', c', w2, hr2, hb2, hbb2⟩ := run_buf wr w.heap.size n c 2 A M ([92, 116]) [.int .u8 92, .int .u8 116] HN.out HBf.out rfl rfl (by omega) (by decide) hws
                have HB2 := Lib.hid (And.intro hb2 (HBr.out.trans hbb2))
                have HQn := Lib.hid (show qN 9 = [92, 116] from rfl)
                have hm2 : m = 2 := by rw [HMm.out, HQn.out]; rfl
                subst hm2
                have HK := Lib.hid (show escK 9 = 4 from rfl)
                clear hb2 hbb2 e34
                go_wp2_with (first | (go_at_call 65; refine (c_IndexEscK 9 hb256 _).mono ?_; rintro e w9 ⟨rfl, rfl⟩; rw [HK.out]) | (at_builtin; refine wpList_append_of rfl (.tmp 39) (.tmp 42) 37 rfl _ _ _ w2 rfl rfl hr2 ?_))
                go_meet
                exact ⟨A', c', rfl, by rw [HQn.out]; exact HB2.out.1, HB2.out.2⟩
            · have HK := Lib.hid (show escK b = -1 by unfold escK; rw [if_neg (by omega), if_neg (by omega), if_neg (by omega), if_neg (by omega), if_neg (by omega)])
              by_cases e32 : b < 32
              · have f3 : decide ((b : Int) < 32) = true := decide_eq_true (by omega)
                obtain ⟨x, hx1⟩ : ∃ x : Nat, x = b / 16 := ⟨_, rfl⟩
                obtain ⟨y, hy1⟩ : ∃ y : Nat, y = b % 16 := ⟨_, rfl⟩
                have hx2 : (b : Int) / 16 = x := by omega
                have hy2 : (b : Int) % 16 = y := by omega
                have hy4 : (b : Int).tmod 16 = y := by rw [Int.tmod_eq_emod_of_nonneg (by omega)]; omega
                have hx3 : x < 16 := by omega
                have hy3 : y < 16 := by omega
                have hz1 : (0 : Int) ≤ x := by omega
                have hz2 : (0 : Int) ≤ y := by omega
                have hz3 : (x : Int) < 16 := by omega
                have hz4 : (y : Int) < 16 := by omega
                have hwx : IntKind.u8.wrap (x : Int) = x := by rw [IntKind.wrap_u8]; omega
                have hwy : IntKind.u8.wrap (y : Int) = y := by rw [IntKind.wrap_u8]; omega
                have hsx : x < ({ data := #[48, 49, 50, 51, 52, 53, 54, 55, 56, 57, 97, 98, 99, 100, 101, 102] } : ByteArray).size := hx3
                have hsy : y < ({ data := #[48, 49, 50, 51, 52, 53, 54, 55, 56, 57, 97, 98, 99, 100, 101, 102] } : ByteArray).size := hy3
                obtain ⟨A', c', w2, hr2, hb2, hbb2⟩ := run_buf wr.drew w.heap.size n c 6 A M [92, 117, 48, 48, figU x, figU y] [.int .u8 92, .int .u8 117, .int .u8 48, .int .u8 48, .int .u8 ((({ data := #[48, 49, 50, 51, 52, 53, 54, 55, 56, 57, 97, 98, 99, 100, 101, 102] } : ByteArray)[x]'(hsx)).toNat : Nat), .int .u8 ((({ data := #[48, 49, 50, 51, 52, 53, 54, 55, 56, 57, 97, 98, 99, 100, 101, 102] } : ByteArray)[y]'(hsy)).toNat : Nat)] HN.out (HBf.out.below (Below.refl _ _).drew) rfl (by rw [hexd x hx3, hexd y hy3]; rfl) (by omega) (by decide) hws
                have HB2 := Lib.hid (And.intro hb2 ((HBr.out.trans (Below.mono (Below.refl _ _).drew HBr.out.size)).trans hbb2))
                have HQn := Lib.hid (show qN b = [92, 117, 48, 48, figU x, figU y] by unfold qN; rw [if_neg e34, if_neg (by omega), if_neg (by omega), if_neg (by omega), if_neg (by omega), if_neg (by omega), if_pos e32, hx1, hy1])
                have hm2 : m = 6 := by rw [HMm.out, HQn.out]; rfl
                subst hm2
                clear hx1 hy1 hb2 hbb2
                go_wp2_with (first | (go_at_call 65; refine (c_IndexEscK _ hb256 _).mono ?_; rintro e w9 ⟨rfl, rfl⟩; rw [HK.out]))
                go_region_law (first | (refine step_append_of rfl (.tmp 47) (.tmp 54) 37 rfl _ _ _ w2 rfl rfl hr2 ?_))
                all_goals
                  (try go_wp2_with fail)
                  go_meet
                  exact ⟨A', c', rfl, by rw [HQn.out]; exact HB2.out.1, HB2.out.2⟩
              · have f3 : decide ((b : Int) < 32) = false := decide_eq_false (by omega)
                obtain ⟨A', c', w2, hr2, hb2, hbb2⟩ := run_buf wr w.heap.size n c 1 A M ([UInt8.ofNat b]) [.int .u8 (b : Int)] HN.out HBf.out rfl (by simp [Lib.strCells, Nat.mod_eq_of_lt hb256]) (by omega) (by decide) hws
                have HB2 := Lib.hid (And.intro hb2 (HBr.out.trans hbb2))
                have HQn := Lib.hid (show qN b = [UInt8.ofNat b] from by unfold qN; rw [if_neg e34, if_neg (by omega), if_neg (by omega), if_neg (by omega), if_neg (by omega), if_neg (by omega), if_neg e32])
                have hm2 : m = 1 := by rw [HMm.out, HQn.out]; rfl
                subst hm2
                clear hb2 hbb2
                go_wp2_with (first | (go_at_call 65; refine (c_IndexEscK b hb256 _).mono ?_; rintro e w9 ⟨rfl, rfl⟩; rw [HK.out]) | (at_builtin; refine wpList_append_of rfl (.tmp 21) (.tmp 23) 37 rfl _ _ _ w2 rfl rfl hr2 ?_))
                go_meet
                exact ⟨A', c', rfl, by rw [HQn.out]; exact HB2.out.1, HB2.out.2⟩
        case rest =>
          obtain ⟨A', c', rfl, hbf, hbb⟩ := hcut
          have HB' := Lib.hid hbf
          have HX := Lib.hid (show M ++ qN b = 34 :: (s.data.toList.take (k + 1)).flatMap qB by rw [HM.out, HQ.out]; rfl)
          clear hbf hx
          go_wp2_with fail
          go_roundw
          case rel => exact ⟨k + 1, M ++ qN b, A', n + m, c', by omega, by go_num, HX.out, by rw [List.length_append, HN.out, HMm.out], by omega, rfl, HB'.out, hbb⟩
          case measure => simp [Lib.intOf]; omega
      · obtain rfl : k = s.size := by omega
        have HX := Lib.hid (show r = ⟨(M ++ [34]).toArray⟩ by rw [HR.out, HM.out, List.take_of_length_le (by rw [Array.length_toList]; exact Nat.le_refl _)])
        obtain ⟨A', c', w2, hr2, hb2, hbb2⟩ := run_buf wr w.heap.size n c 1 A M [34] [.int .u8 34] HN.out HBf.out rfl rfl (by omega) (by decide) hws
        have hn1 : n + 1 = (M ++ [34]).length := by rw [List.length_append, ← HN.out]; rfl
        have hcv := own_string hn1 (show w2.ownsRow w.heap.size 5 1 (.slice A' (n + 1) c') (n + 1) (Lib.strCells ⟨(M ++ [34]).toArray⟩) from hn1 ▸ hb2)
        have HN1 := Lib.hid hn1
        clear hn1 hb2
        go_wp2_with (at_builtin; refine wpList_append_of rfl (.tmp 57) (.tmp 58) 37 rfl _ _ _ w2 rfl rfl hr2 ?_)
        go_ret
        exact ⟨by rw [HX.out]; rfl, HBr.out.trans hbb2⟩
end Go.Proofs.YtffelpdefjkeaaaGreatDoor
namespace Go.Proofs.YtffelpdefjkeaaaGreatDoor
open Go.RowKit Go.Lib
theorem fig_nat (x : Nat) (h : x < 16) : ((figU x).toNat : Int) = if x < 10 then 48 + (x : Int) else 87 + (x : Int) := by
  have h16 : x = 0 ∨ x = 1 ∨ x = 2 ∨ x = 3 ∨ x = 4 ∨ x = 5 ∨ x = 6 ∨ x = 7 ∨ x = 8 ∨ x = 9 ∨ x = 10 ∨ x = 11 ∨ x = 12 ∨ x = 13 ∨ x = 14 ∨ x = 15 := by omega
  rcases h16 with rfl | rfl | rfl | rfl | rfl | rfl | rfl | rfl | rfl | rfl | rfl | rfl | rfl | rfl | rfl | rfl <;> rfl
theorem c_figure16 (x : Nat) (w : World) (h : x < 16) : Calls Tryz.prog 119 #[.int .i64 (x : Nat)] w fun e w' => e = .returned (.int .u8 ((figU x).toNat : Nat)) ∧ w = w' := by
  have hf := fig_nat x h
  by_cases h10 : x < 10
  · rw [if_pos h10] at hf
    have HF := Lib.hid hf
    have d1 : decide ((x : Int) < 10) = true := decide_eq_true (by omega)
    have d2 : decide (x < 10) = true := decide_eq_true h10
    clear hf h10
    go_enter Tryz.func119, Tryz.ntmps119
    go_wp2_with fail
    go_ret
    exact ⟨by rw [HF.out]; go_num, rfl⟩
  · rw [if_neg h10] at hf
    have HF := Lib.hid hf
    have d1 : decide ((x : Int) < 10) = false := decide_eq_false (by omega)
    have d2 : decide (x < 10) = false := decide_eq_false h10
    clear hf h10
    go_enter Tryz.func119, Tryz.ntmps119
    go_wp2_with fail
    go_ret
    exact ⟨by rw [HF.out]; go_num, rfl⟩
theorem text_low {r : Nat} (h : r < 128) : (textB r).data.toList = [UInt8.ofNat r] := by
  refine text_eq ?_
  unfold encN4
  rw [if_neg (by omega), if_pos h]
  simp [Nat.mod_eq_of_lt (show r < 256 by omega)]
theorem qR_plain {r : Nat} (h0 : ¬ (r = 34 ∨ r = 92)) (h1 : ¬ r < 32) : qR r = (textB r).data.toList := by
  unfold qR
  by_cases h : r < 128
  · rw [if_pos h, text_low h]
    unfold qN
    rw [if_neg h0, if_neg (by omega), if_neg (by omega), if_neg (by omega), if_neg (by omega), if_neg (by omega), if_neg h1]
  · rw [if_neg h]
theorem qR_low {r : Nat} (h : r < 128) : qR r = qN r := by unfold qR; rw [if_pos h]
theorem rune_bound {s : ByteArray} : ∀ (f i : Nat) (rs : List Nat), s.size - i ≤ f → runesAt s i = some rs → rs.length + i ≤ s.size ∨ rs = []
  | f, i, rs, hf, h => by
    by_cases hi : i < s.size
    · by_cases hd : Utf8.decode s i = (65533, 1)
      · rw [runesAt_bad hi hd] at h; cases h
      · rw [runesAt_step hi hd] at h
        have hk := decode_fits s i hi
        rcases hr : runesAt s (i + (Utf8.decode s i).2) with _ | rs'
        · rw [hr] at h; cases h
        · rw [hr] at h
          obtain rfl := Option.some.inj h
          cases f with
          | zero => omega
          | succ f =>
            rcases rune_bound f (i + (Utf8.decode s i).2) rs' (by omega) hr with h1 | rfl
            · exact .inl (by simp only [List.length_cons]; omega)
            · exact .inl (by simp only [List.length_cons, List.length_nil]; omega)
    · rw [runesAt_end hi] at h
      exact .inr (Option.some.inj h).symm
theorem rune_max {s : ByteArray} : ∀ (f i : Nat) (rs : List Nat), s.size - i ≤ f → runesAt s i = some rs → ∀ r ∈ rs, r ≤ 1114111
  | f, i, rs, hf, h => by
    by_cases hi : i < s.size
    · by_cases hd : Utf8.decode s i = (65533, 1)
      · rw [runesAt_bad hi hd] at h; cases h
      · rw [runesAt_step hi hd] at h
        have hk := decode_fits s i hi
        rcases hr : runesAt s (i + (Utf8.decode s i).2) with _ | rs'
        · rw [hr] at h; cases h
        · rw [hr] at h
          obtain rfl := Option.some.inj h
          cases f with
          | zero => omega
          | succ f =>
            intro r hrr
            rcases List.mem_cons.1 hrr with rfl | hrr
            · omega
            · exact rune_max f (i + (Utf8.decode s i).2) rs' (by omega) hr r hrr
    · rw [runesAt_end hi] at h
      obtain rfl := Option.some.inj h
      intro r hrr
      cases hrr
theorem take_flatR {rs : List Nat} {k r : Nat} (h : rs[k]? = some r) : (rs.take (k + 1)).flatMap qR = (rs.take k).flatMap qR ++ qR r := by
  rw [List.take_add_one, h]
  simp
set_option maxHeartbeats 8000000 in
set_option maxRecDepth 20000 in
theorem c_spec_Quoted (s : ByteArray) (w : World) (hs : s.size ≤ 1048576) :
    Calls Tryz.prog 90 #[.string s] w fun e w' => e = .returned (.string (quoteB s)) ∧ Below w.heap.size w w' := by
  obtain ⟨i0, hi, hz0, hz1, hz2⟩ := info_parts (show (Tryz.prog.info? 5).map (fun i => (i.zero, i.size, i.bytes)) = some (some (.int .u8 0), 1, 1) from by kernel_rfl)
  have HU := Lib.hid (c_spec_RunesOf s w hs)
  obtain ⟨r, hr⟩ : ∃ r, r = quoteB s := ⟨_, rfl⟩
  rw [← hr]
  rcases hu : runesAt s 0 with _ | rs
  · have HR := Lib.hid (show r = ⟨#[]⟩ by rw [hr]; exact quoteB_none hu)
    have hub : utf8B s = false := by unfold utf8B; rw [hu]; rfl
    clear hr hu
    go_enter Tryz.func90, Tryz.ntmps90
    go_wp2_with fail
    refine HU.out.mono ?_
    rintro e w1 ⟨M, A, c, rfl, -, -, hb1⟩
    rw [hub]
    go_wp2_with fail
    go_ret
    exact ⟨by rw [HR.out]; rfl, hb1⟩
  · have HR := Lib.hid (show r = ⟨(34 :: rs.flatMap qR ++ [34]).toArray⟩ by rw [hr]; exact quoteB_runes hu)
    have hub : utf8B s = true := by unfold utf8B; rw [hu]; rfl
    have hbd := rune_bound s.size 0 rs (by omega) hu
    have hlen : rs.length ≤ 1048576 := by
      rcases hbd with h | h
      · omega
      · rw [h]; exact Nat.zero_le _
    have HMx := Lib.hid (rune_max s.size 0 rs (by omega) hu)
    have HRS := Lib.hid hu
    clear hr hu hbd
    go_enter Tryz.func90, Tryz.ntmps90
    go_wp2_with fail
    refine HU.out.mono ?_
    rintro e w1 ⟨M0, A0, c0, rfl, hM0, hrow, hb1⟩
    obtain rfl := hM0 rs HRS.out
    rw [hub]
    have HRow := Lib.hid hrow
    have HB1 := Lib.hid hb1
    have hs1 := hb1.size
    clear hrow hb1 hM0
    go_wp2_with fail
    go_loopw [5, 6] (fun s5 v wr => ∃ (k : Nat) (M : List UInt8) (A : Option Addr) (n c : Nat), k ≤ M0.length ∧ v = .int .i64 k ∧ M = 34 :: (M0.take k).flatMap qR ∧ n = M.length ∧ n ≤ 6 * k + 1 ∧ s5 = .slice A n c ∧ BufB w1.heap.size wr M (.slice A n c) ∧ Below w1.heap.size w1 wr) (fun _ v _ => M0.length - (Lib.intOf v).toNat)
    case atStart => exact ⟨0, [34], some ⟨w1.heap.size, 0, none⟩, 1, 1, Nat.zero_le _, rfl, rfl, rfl, by omega, rfl, own_lit (bs := [34]) (k := 1) rfl (by decide) rfl, bel⟩
    case round =>
      obtain ⟨k, M, A, n, c, hk, rfl, hM, hn, hn6, rfl, hbuf, hbr⟩ := hrel
      have HM := Lib.hid hM
      have HN := Lib.hid hn
      have HBf := Lib.hid hbuf
      have HBr := Lib.hid hbr
      have hws := hbr.size
      clear hM hn hbuf hbr
      by_cases hlt : k < M0.length
      · have hk0 : (0 : Int) ≤ k := by omega
        have hk1 : (k : Int) < M0.length := by omega
        obtain ⟨x, hx⟩ := exists_at hlt
        obtain ⟨g, cap, cur, hv, -, hg, g1, g2, -, g4⟩ := RowE.row encZ_len (HRow.out.below HBr.out) (by rw [zs_len]; omega)
        rw [zs_len] at hv
        simp only [Value.slice.injEq] at hv
        obtain ⟨rfl, -, rfl⟩ := hv
        have hc0 : wr.cell? ⟨g, k, none⟩ = some (.int .i64 (x : Nat)) := by
          rw [cell_of_row _ g _ cur _ _ hg]
          have := g4 k (x : Int) (by unfold zs; rw [List.getElem?_map, hx]; rfl) 0 (by decide)
          simpa [encZ] using this
        have hgl := row_lt hg
        have hxm := HMx.out x (List.mem_of_getElem? hx)
        have HQ := Lib.hid (take_flatR hx)
        have hql := qR_len x
        obtain ⟨m, hm⟩ : ∃ m, m = (qR x).length := ⟨_, rfl⟩
        rw [← hm] at hql
        have HMm := Lib.hid hm
        have hR : wr.ownsRow w1.heap.size 5 1 (.slice A n c) n (Lib.strCells ⟨M.toArray⟩) := by have h := HBf.out; unfold BufB at h; rw [← HN.out] at h; exact h
        clear hm hg g1 g2 g4 hx
        go_upto_block 1 with fail
        go_cut [5] from 22 to 80 (fun s5 wx => ∃ (A' : Option Addr) (c' : Nat), s5 = .slice A' (n + m) c' ∧ BufB w1.heap.size wx (M ++ qR x) (.slice A' (n + m) c') ∧ Below w1.heap.size w1 wx)
        case first =>
          have hbuf : ∀ (bs : List UInt8) (A5 : Option Addr) (c5 q : Nat) (w5 : World), q = bs.length → w5.ownsRow w1.heap.size 5 1 (.slice A5 (n + q) c5) (n + q) (Lib.strCells ⟨(M ++ bs).toArray⟩) → BufB w1.heap.size w5 (M ++ bs) (.slice A5 (n + q) c5) := fun bs A5 c5 q w5 hq h => by
            unfold BufB
            rw [List.length_append, ← HN.out, ← hq]
            exact h
          have HBuf := Lib.hid hbuf
          clear hbuf
          by_cases e34 : x = 34 ∨ x = 92
          · have HQn := Lib.hid (show qR x = [92, UInt8.ofNat x] by rw [qR_low (by omega)]; unfold qN; rw [if_pos e34])
            have hm2 : m = 2 := by rw [HMm.out, HQn.out]; rfl
            subst hm2
            have hxw : IntKind.u8.wrap (x : Int) = x := by rw [IntKind.wrap_u8]; omega
            obtain ⟨A', c', w2, hr2, hb2, hbb2⟩ := run_buf wr w1.heap.size n c 2 A M [92, UInt8.ofNat x] [.int .u8 92, .int .u8 (x : Int)] HN.out HBf.out rfl (by simp [Lib.strCells, Nat.mod_eq_of_lt (show x < 256 by omega)]) (by omega) (by decide) hws
            have HB2 := Lib.hid (And.intro hb2 (HBr.out.trans hbb2))
            clear hb2 hbb2 hR
            rcases e34 with rfl | rfl
            all_goals
              go_wp2_with (at_builtin; refine wpList_append_of rfl (.tmp 37) (.tmp 40) 37 rfl _ _ _ w2 rfl rfl hr2 ?_)
              go_meet
              exact ⟨A', c', rfl, by rw [HQn.out]; exact HB2.out.1, HB2.out.2⟩
          · have f1 : ((x : Int) == 34) = false := beq_eq_false_iff_ne.2 (by omega)
            have f2 : ((x : Int) == 92) = false := beq_eq_false_iff_ne.2 (by omega)
            by_cases e8 : x = 8 ∨ x = 12 ∨ x = 10 ∨ x = 13 ∨ x = 9
            · rcases e8 with rfl | rfl | rfl | rfl | rfl
              · have HQn := Lib.hid (show qR 8 = [92, 98] from rfl)
                have hm2 : m = 2 := by rw [HMm.out, HQn.out]; rfl
                have hsz2 : (⟨#[92, 98]⟩ : ByteArray).size = 2 := rfl
                subst hm2
                clear e34
                go_wp2_with (at_builtin; refine wpList_append_own_string _ rfl (.tmp 45) (.const (.string ⟨#[92, 98]⟩)) 37 9 rfl w1.heap.size 5 i0 Tryz.underlying37 Tryz.underlying9 hi hz0 hz1 hz2 _ n _ rfl hR ⟨#[92, 98]⟩ rfl (by simp only [maxLen]; omega) (by omega) hws ?_; intro v5 w5 hR5 hg5 _; obtain ⟨A5, c5, rfl⟩ := own_form hR5; rw [strCells_list] at hR5)
                have HB5 := Below.grown HBr.out hg5 hws (fun q hq => (World.ownsRow.lt hR q hq).1)
                go_meet
                exact ⟨A5, c5, rfl, by rw [HQn.out]; exact HBuf.out [92, 98] A5 c5 2 w5 rfl hR5, HB5⟩
              · have HQn := Lib.hid (show qR 12 = [92, 102] from rfl)
                have hm2 : m = 2 := by rw [HMm.out, HQn.out]; rfl
                have hsz2 : (⟨#[92, 102]⟩ : ByteArray).size = 2 := rfl
                subst hm2
                clear e34
                go_wp2_with (at_builtin; refine wpList_append_own_string _ rfl (.tmp 50) (.const (.string ⟨#[92, 102]⟩)) 37 9 rfl w1.heap.size 5 i0 Tryz.underlying37 Tryz.underlying9 hi hz0 hz1 hz2 _ n _ rfl hR ⟨#[92, 102]⟩ rfl (by simp only [maxLen]; omega) (by omega) hws ?_; intro v5 w5 hR5 hg5 _; obtain ⟨A5, c5, rfl⟩ := own_form hR5; rw [strCells_list] at hR5)
                have HB5 := Below.grown HBr.out hg5 hws (fun q hq => (World.ownsRow.lt hR q hq).1)
                go_meet
                exact ⟨A5, c5, rfl, by rw [HQn.out]; exact HBuf.out [92, 102] A5 c5 2 w5 rfl hR5, HB5⟩
              · have HQn := Lib.hid (show qR 10 = [92, 110] from rfl)
                have hm2 : m = 2 := by rw [HMm.out, HQn.out]; rfl
                have hsz2 : (⟨#[92, 110]⟩ : ByteArray).size = 2 := rfl
                subst hm2
                clear e34
                go_wp2_with (at_builtin; refine wpList_append_own_string _ rfl (.tmp 55) (.const (.string ⟨#[92, 110]⟩)) 37 9 rfl w1.heap.size 5 i0 Tryz.underlying37 Tryz.underlying9 hi hz0 hz1 hz2 _ n _ rfl hR ⟨#[92, 110]⟩ rfl (by simp only [maxLen]; omega) (by omega) hws ?_; intro v5 w5 hR5 hg5 _; obtain ⟨A5, c5, rfl⟩ := own_form hR5; rw [strCells_list] at hR5)
                have HB5 := Below.grown HBr.out hg5 hws (fun q hq => (World.ownsRow.lt hR q hq).1)
                go_meet
                exact ⟨A5, c5, rfl, by rw [HQn.out]; exact HBuf.out [92, 110] A5 c5 2 w5 rfl hR5, HB5⟩
              · have HQn := Lib.hid (show qR 13 = [92, 114] from rfl)
                have hm2 : m = 2 := by rw [HMm.out, HQn.out]; rfl
                have hsz2 : (⟨#[92, 114]⟩ : ByteArray).size = 2 := rfl
                subst hm2
                clear e34
                go_wp2_with (at_builtin; refine wpList_append_own_string _ rfl (.tmp 60) (.const (.string ⟨#[92, 114]⟩)) 37 9 rfl w1.heap.size 5 i0 Tryz.underlying37 Tryz.underlying9 hi hz0 hz1 hz2 _ n _ rfl hR ⟨#[92, 114]⟩ rfl (by simp only [maxLen]; omega) (by omega) hws ?_; intro v5 w5 hR5 hg5 _; obtain ⟨A5, c5, rfl⟩ := own_form hR5; rw [strCells_list] at hR5)
                have HB5 := Below.grown HBr.out hg5 hws (fun q hq => (World.ownsRow.lt hR q hq).1)
                go_meet
                exact ⟨A5, c5, rfl, by rw [HQn.out]; exact HBuf.out [92, 114] A5 c5 2 w5 rfl hR5, HB5⟩
              · have HQn := Lib.hid (show qR 9 = [92, 116] from rfl)
                have hm2 : m = 2 := by rw [HMm.out, HQn.out]; rfl
                have hsz2 : (⟨#[92, 116]⟩ : ByteArray).size = 2 := rfl
                subst hm2
                clear e34
                go_wp2_with (at_builtin; refine wpList_append_own_string _ rfl (.tmp 65) (.const (.string ⟨#[92, 116]⟩)) 37 9 rfl w1.heap.size 5 i0 Tryz.underlying37 Tryz.underlying9 hi hz0 hz1 hz2 _ n _ rfl hR ⟨#[92, 116]⟩ rfl (by simp only [maxLen]; omega) (by omega) hws ?_; intro v5 w5 hR5 hg5 _; obtain ⟨A5, c5, rfl⟩ := own_form hR5; rw [strCells_list] at hR5)
                have HB5 := Below.grown HBr.out hg5 hws (fun q hq => (World.ownsRow.lt hR q hq).1)
                go_meet
                exact ⟨A5, c5, rfl, by rw [HQn.out]; exact HBuf.out [92, 116] A5 c5 2 w5 rfl hR5, HB5⟩
            · have g1 : ((x : Int) == 8) = false := beq_eq_false_iff_ne.2 (by omega)
              have g2 : ((x : Int) == 12) = false := beq_eq_false_iff_ne.2 (by omega)
              have g3 : ((x : Int) == 10) = false := beq_eq_false_iff_ne.2 (by omega)
              have g4 : ((x : Int) == 13) = false := beq_eq_false_iff_ne.2 (by omega)
              have g5 : ((x : Int) == 9) = false := beq_eq_false_iff_ne.2 (by omega)
              by_cases e32 : x < 32
              · have f3 : decide ((x : Int) < 32) = true := decide_eq_true (by omega)
                have f4 : decide (x < 32) = true := decide_eq_true e32
                obtain ⟨p, hp1⟩ : ∃ p : Nat, p = x / 16 := ⟨_, rfl⟩
                obtain ⟨q, hq1⟩ : ∃ q : Nat, q = x % 16 := ⟨_, rfl⟩
                have hp2 : (x : Int) / 16 = p := by omega
                have hp3 : (x : Int).tdiv 16 = p := by rw [Int.tdiv_eq_ediv_of_nonneg (by omega)]; omega
                have hq2 : (x : Int) % 16 = q := by omega
                have hq3 : (x : Int).tmod 16 = q := by rw [Int.tmod_eq_emod_of_nonneg (by omega)]; omega
                have hp4 : p < 16 := by omega
                have hq4 : q < 16 := by omega
                have HQn := Lib.hid (show qR x = [92, 117, 48, 48] ++ [figU p, figU q] by rw [qR_low (by omega)]; unfold qN; rw [if_neg e34, if_neg (by omega), if_neg (by omega), if_neg (by omega), if_neg (by omega), if_neg (by omega), if_pos e32, hp1, hq1]; rfl)
                have hm2 : m = 6 := by rw [HMm.out, HQn.out]; rfl
                have hsz2 : (⟨#[92, 117, 48, 48]⟩ : ByteArray).size = 4 := rfl
                subst hm2
                clear hp1 hq1 e34 e8 e32
                go_wp2_with (at_builtin; refine wpList_append_own_string _ rfl (.tmp 70) (.const (.string ⟨#[92, 117, 48, 48]⟩)) 37 9 rfl w1.heap.size 5 i0 Tryz.underlying37 Tryz.underlying9 hi hz0 hz1 hz2 _ n _ rfl hR ⟨#[92, 117, 48, 48]⟩ rfl (by simp only [maxLen]; omega) (by omega) hws ?_; intro v5 w5 hR5 hg5 _; obtain ⟨A5, c5, rfl⟩ := own_form hR5; rw [strCells_list] at hR5)
                have HB5 := Lib.hid (Below.grown HBr.out hg5 hws (fun q hq => (World.ownsRow.lt hR q hq).1))
                have hB5 := HBuf.out [92, 117, 48, 48] A5 c5 4 w5 rfl hR5
                refine (c_figure16 p _ hp4).mono ?_
                rintro e w6 ⟨rfl, rfl⟩
                go_wp2_with fail
                refine (c_figure16 q _ hq4).mono ?_
                rintro e w6 ⟨rfl, rfl⟩
                obtain ⟨A', c', w2, hr2, hb2, hbb2⟩ := run_buf w5 w1.heap.size (n + 4) c5 2 A5 (M ++ [92, 117, 48, 48]) [figU p, figU q] [.int .u8 ((figU p).toNat : Nat), .int .u8 ((figU q).toNat : Nat)] (by rw [List.length_append, ← HN.out]; rfl) hB5 rfl rfl (by omega) (by decide) HB5.out.size
                have HB2 := Lib.hid (And.intro hb2 (HB5.out.trans hbb2))
                clear hb2 hbb2 hR hR5 hg5 hB5
                go_wp2_with (at_builtin; refine wpList_append_of rfl (.tmp 72) (.tmp 79) 37 rfl _ _ _ w2 rfl rfl hr2 ?_)
                go_meet
                exact ⟨A', c', rfl, by rw [HQn.out, ← List.append_assoc]; exact HB2.out.1, HB2.out.2⟩
              · have f3 : decide ((x : Int) < 32) = false := decide_eq_false (by omega)
                have f4 : decide (x < 32) = false := decide_eq_false e32
                have HQn := Lib.hid (qR_plain e34 e32)
                have hm2 : m = (textB x).size := by rw [HMm.out, HQn.out, Array.length_toList]; rfl
                have htz := textB_size x
                have HT := Lib.hid (fun (w' : World) => c_spec_RuneText (x : Int) w' (by omega))
                clear e34 e8 e32
                go_wp2_with fail
                refine (HT.out _).mono ?_
                rintro e w4 ⟨rfl, hb4⟩
                have hR4 := ownsRow_carry hR (fun q hq => hb4.block q (World.ownsRow.lt hR q hq).2)
                have HB4 := Lib.hid (HBr.out.trans (hb4.mono HBr.out.size))
                have hws4 := HB4.out.size
                clear hR
                have hR := hR4
                have hws3 := hws
                clear hws hR4 hb4
                have hws := hws4
                go_wp2_with (at_builtin; refine wpList_append_own_string _ rfl (.tmp 26) (.tmp 28) 37 9 rfl w1.heap.size 5 i0 Tryz.underlying37 Tryz.underlying9 hi hz0 hz1 hz2 _ n _ rfl hR (textB x) rfl (by simp only [maxLen]; omega) (by omega) hws ?_; intro v5 w5 hR5 hg5 _; obtain ⟨A5, c5, rfl⟩ := own_form hR5; rw [strCells_list] at hR5)
                have HB5 := Below.grown HB4.out hg5 hws (fun q hq => (World.ownsRow.lt hR q hq).1)
                go_meet
                subst hm2
                exact ⟨A5, c5, rfl, by rw [HQn.out]; exact HBuf.out _ A5 c5 _ w5 (by rw [Array.length_toList]; rfl) hR5, HB5⟩
        case rest =>
          obtain ⟨A', c', rfl, hbf, hbb⟩ := hcut
          have HB' := Lib.hid hbf
          have HX := Lib.hid (show M ++ qR x = 34 :: (M0.take (k + 1)).flatMap qR by rw [HM.out, HQ.out]; rfl)
          clear hbf hR hc0
          go_wp2_with fail
          go_roundw
          case rel => exact ⟨k + 1, M ++ qR x, A', n + m, c', by omega, by go_num, HX.out, by rw [List.length_append, HN.out, HMm.out], by omega, rfl, HB'.out, hbb⟩
          case measure => simp [Lib.intOf]; omega
      · obtain rfl : k = M0.length := by omega
        have HX := Lib.hid (show r = ⟨(M ++ [34]).toArray⟩ by rw [HR.out, HM.out, List.take_of_length_le (Nat.le_refl _)])
        obtain ⟨A', c', w2, hr2, hb2, hbb2⟩ := run_buf wr w1.heap.size n c 1 A M [34] [.int .u8 34] HN.out HBf.out rfl rfl (by omega) (by decide) hws
        have hn1 : n + 1 = (M ++ [34]).length := by rw [List.length_append, ← HN.out]; rfl
        have hcv := own_string hn1 (show w2.ownsRow w1.heap.size 5 1 (.slice A' (n + 1) c') (n + 1) (Lib.strCells ⟨(M ++ [34]).toArray⟩) from hn1 ▸ hb2)
        clear hn1 hb2
        go_wp2_with (at_builtin; refine wpList_append_of rfl (.tmp 81) (.tmp 82) 37 rfl _ _ _ w2 rfl rfl hr2 ?_)
        go_ret
        exact ⟨by rw [HX.out]; rfl, HB1.out.trans ((HBr.out.trans hbb2).mono HB1.out.size)⟩
end Go.Proofs.YtffelpdefjkeaaaGreatDoor
namespace Go.Proofs.YtffelpdefjkeaaaGreatDoor
open Go.RowKit
def mxL {D : Type} (f : D → Nat) : List D → Nat
  | [] => 0
  | d :: l => max (f d) (mxL f l)
theorem mxL_app {D : Type} (f : D → Nat) : ∀ a b : List D, mxL f (a ++ b) = max (mxL f a) (mxL f b)
  | [], b => by simp [mxL]
  | d :: a, b => by
    simp only [List.cons_append, mxL]
    rw [mxL_app f a b]
    omega
theorem take_next {D : Type} {l : List D} {k : Nat} {d : D} (h : l[k]? = some d) : l.take (k + 1) = l.take k ++ [d] := by rw [List.take_add_one, h]; rfl
theorem mxL_next {D : Type} (f : D → Nat) {l : List D} {k : Nat} {d : D} (h : l[k]? = some d) : mxL f (l.take (k + 1)) = max (mxL f (l.take k)) (f d) := by
  rw [take_next h, mxL_app]
  simp [mxL]
def sizeT : Nat → TreeD → Nat
  | 0, _ => 0
  | n + 1, d => 1 + szL (sizeT n) d.kids
def depthT : Nat → TreeD → Nat
  | 0, _ => 0
  | n + 1, d => mxL (depthT n) d.kids + 1
theorem sizeT_succ (n : Nat) (d : TreeD) : sizeT (n + 1) d = 1 + szL (sizeT n) d.kids := rfl
theorem depthT_succ (n : Nat) (d : TreeD) : depthT (n + 1) d = mxL (depthT n) d.kids + 1 := rfl
theorem depth_size : ∀ (n : Nat) (d : TreeD), depthT n d ≤ sizeT n d
  | 0, _ => Nat.le_refl _
  | n + 1, d => by
    have h : ∀ l : List TreeD, mxL (depthT n) l ≤ szL (sizeT n) l := by
      intro l
      induction l with
      | nil => exact Nat.le_refl _
      | cons t l ih =>
        have := depth_size n t
        simp only [mxL, szL]
        omega
    rw [depthT_succ, sizeT_succ]
    have := h d.kids
    omega
theorem size_kid {n k : Nat} {d t : TreeD} (h : d.kids[k]? = some t) : szL (sizeT n) (d.kids.take k) + sizeT n t + 1 ≤ sizeT (n + 1) d := by
  have h1 := szL_take_succ (sizeT n) d.kids k t h
  have h2 := szL_take_le (sizeT n) d.kids (k + 1)
  rw [sizeT_succ]
  omega
theorem depth_kid {n k : Nat} {d t : TreeD} (h : d.kids[k]? = some t) : mxL (depthT n) (d.kids.take k) + 1 ≤ depthT (n + 1) d ∧ depthT n t + 1 ≤ depthT (n + 1) d := by
  have h1 := mxL_next (depthT n) h
  have h2 : mxL (depthT n) d.kids = max (mxL (depthT n) (d.kids.take (k + 1))) (mxL (depthT n) (d.kids.drop (k + 1))) := by rw [← mxL_app, List.take_append_drop]
  rw [depthT_succ]
  omega
def T_DepthI (n : Nat) : Prop := ∀ (d : TreeD) (cs : List Value) (w : World) (lo : Nat), C_Tree n lo w.heap.size w d cs → sizeT n d ≤ 1073741824 →
    Calls Tryz.prog 80 #[.agg cs.toArray] w fun e w' => e = .returned (.int .i64 (depthT n d : Nat)) ∧ Below w.heap.size w w'
set_option maxHeartbeats 4000000 in
set_option maxRecDepth 10000 in
theorem of_DepthI (n : Nat) (ih : T_DepthI n) : T_DepthI (n + 1) := by
  intro d cs w lo h hsz
  have hds := depth_size (n + 1) d
  obtain ⟨v4, v5, rfl, a0, a2, a3, a4, a5⟩ := C_Tree.out h
  obtain ⟨A4, c4, rfl⟩ := a4.form
  obtain ⟨A5, c5, rfl, hlc, hcc, hA⟩ := a5
  clear h a4
  go_enter Tryz.func80, Tryz.ntmps80
  go_wp2_with fail
  go_loopw [3, 9] (fun s v wr => ∃ k : Nat, k ≤ d.kids.length ∧ v = .int .i64 k ∧ s = .int .i64 (mxL (depthT n) (d.kids.take k) : Nat) ∧ Below w.heap.size w wr) (fun _ v _ => d.kids.length - (intOf v).toNat)
  case atStart => exact ⟨0, Nat.zero_le _, rfl, rfl, bel⟩
  case round =>
    obtain ⟨k, hk, rfl, rfl, hbr⟩ := hrel
    by_cases hlt : k < d.kids.length
    · skip
      obtain ⟨p, o, rfl, -, hbl, hcell⟩ := hA (by omega)
      obtain ⟨t, ht⟩ := exists_at hlt
      obtain ⟨es, -, hcs, hC⟩ := hcell k t ht
      obtain ⟨eA4, ec4, eA5, ec5, rfl, ea0, ea2, ea3⟩ := hC.flat
      have hc0 := (hbr.cell (p := ⟨p, o + k * 6 + 0, none⟩) (by simp; omega)).trans (hcs 0 (by omega))
      simp at hc0
      have hc1 := (hbr.cell (p := ⟨p, o + k * 6 + 1, none⟩) (by simp; omega)).trans (hcs 1 (by omega))
      simp at hc1
      have hc2 := (hbr.cell (p := ⟨p, o + k * 6 + 2, none⟩) (by simp; omega)).trans (hcs 2 (by omega))
      simp at hc2
      have hc3 := (hbr.cell (p := ⟨p, o + k * 6 + 3, none⟩) (by simp; omega)).trans (hcs 3 (by omega))
      simp at hc3
      have hc4 := (hbr.cell (p := ⟨p, o + k * 6 + 4, none⟩) (by simp; omega)).trans (hcs 4 (by omega))
      simp at hc4
      have hc5 := (hbr.cell (p := ⟨p, o + k * 6 + 5, none⟩) (by simp; omega)).trans (hcs 5 (by omega))
      simp at hc5
      have hbr1 := Nat.lt_of_lt_of_le hbl hbr.size
      have hk0 : (0 : Int) ≤ k := by omega
      have hk1 : (k : Int) < d.kids.length := by omega
      have hs1 := size_kid (n := n) ht
      have hd1 := depth_kid (n := n) ht
      have hts : sizeT n t ≤ 1073741824 := by omega
      have HC := Lib.hid hC
      have Hnx := Lib.hid (mxL_next (depthT n) ht)
      clear hcs hcell hA hC
      obtain ⟨x, hx⟩ : ∃ x : Nat, x = mxL (depthT n) (d.kids.take k) := ⟨_, rfl⟩
      have hxb : x ≤ 1073741824 := by omega
      rw [← hx]
      have HX := Lib.hid hx
      obtain ⟨y, hy⟩ : ∃ y : Nat, y = depthT n t := ⟨_, rfl⟩
      have hyb : y + x ≤ 2147483648 := by have := depth_size n t; omega
      have HY := Lib.hid hy
      clear hx hy hs1 hd1
      go_wp2_with (go_at_call 80; refine (ih t _ _ _ (HC.out.now bel) hts).mono ?_; rintro e w9 ⟨rfl, hb9⟩; rw [← HY.out])
      go_roundw
      case rel => exact ⟨k + 1, by omega, by go_num, by (have h1 := Hnx.out; rw [← HX.out, ← HY.out] at h1; rw [h1]; simp; omega), bel⟩
      case measure => simp [intOf]; omega
    · obtain rfl : k = d.kids.length := by omega
      have Hf := Lib.hid (show depthT (n + 1) d = mxL (depthT n) (d.kids.take d.kids.length) + 1 by rw [depthT_succ, List.take_of_length_le (Nat.le_refl _)])
      obtain ⟨x, hx⟩ : ∃ x : Nat, x = mxL (depthT n) (d.kids.take d.kids.length) := ⟨_, rfl⟩
      rw [← hx] at Hf
      rw [← hx]
      have hxb : x ≤ 1073741824 := by have := Hf.out; omega
      clear hA hx
      go_wp2_with fail
      go_ret
      exact ⟨by rw [Hf.out]; go_num, bel⟩
theorem all_DepthI : ∀ n, T_DepthI n
  | 0 => fun _ _ _ _ h _ => (C_Tree.none h).elim
  | n + 1 => of_DepthI n (all_DepthI n)
def T_SizeI (n : Nat) : Prop := ∀ (d : TreeD) (cs : List Value) (w : World) (lo : Nat), C_Tree n lo w.heap.size w d cs → sizeT n d ≤ 1073741824 →
    Calls Tryz.prog 81 #[.agg cs.toArray] w fun e w' => e = .returned (.int .i64 (sizeT n d : Nat)) ∧ Below w.heap.size w w'
set_option maxHeartbeats 4000000 in
set_option maxRecDepth 10000 in
theorem of_SizeI (n : Nat) (ih : T_SizeI n) : T_SizeI (n + 1) := by
  intro d cs w lo h hsz
  have hds := depth_size (n + 1) d
  obtain ⟨v4, v5, rfl, a0, a2, a3, a4, a5⟩ := C_Tree.out h
  obtain ⟨A4, c4, rfl⟩ := a4.form
  obtain ⟨A5, c5, rfl, hlc, hcc, hA⟩ := a5
  clear h a4
  go_enter Tryz.func81, Tryz.ntmps81
  go_wp2_with fail
  go_loopw [3, 9] (fun s v wr => ∃ k : Nat, k ≤ d.kids.length ∧ v = .int .i64 k ∧ s = .int .i64 (1 + szL (sizeT n) (d.kids.take k) : Nat) ∧ Below w.heap.size w wr) (fun _ v _ => d.kids.length - (intOf v).toNat)
  case atStart => exact ⟨0, Nat.zero_le _, rfl, rfl, bel⟩
  case round =>
    obtain ⟨k, hk, rfl, rfl, hbr⟩ := hrel
    by_cases hlt : k < d.kids.length
    · skip
      obtain ⟨p, o, rfl, -, hbl, hcell⟩ := hA (by omega)
      obtain ⟨t, ht⟩ := exists_at hlt
      obtain ⟨es, -, hcs, hC⟩ := hcell k t ht
      obtain ⟨eA4, ec4, eA5, ec5, rfl, ea0, ea2, ea3⟩ := hC.flat
      have hc0 := (hbr.cell (p := ⟨p, o + k * 6 + 0, none⟩) (by simp; omega)).trans (hcs 0 (by omega))
      simp at hc0
      have hc1 := (hbr.cell (p := ⟨p, o + k * 6 + 1, none⟩) (by simp; omega)).trans (hcs 1 (by omega))
      simp at hc1
      have hc2 := (hbr.cell (p := ⟨p, o + k * 6 + 2, none⟩) (by simp; omega)).trans (hcs 2 (by omega))
      simp at hc2
      have hc3 := (hbr.cell (p := ⟨p, o + k * 6 + 3, none⟩) (by simp; omega)).trans (hcs 3 (by omega))
      simp at hc3
      have hc4 := (hbr.cell (p := ⟨p, o + k * 6 + 4, none⟩) (by simp; omega)).trans (hcs 4 (by omega))
      simp at hc4
      have hc5 := (hbr.cell (p := ⟨p, o + k * 6 + 5, none⟩) (by simp; omega)).trans (hcs 5 (by omega))
      simp at hc5
      have hbr1 := Nat.lt_of_lt_of_le hbl hbr.size
      have hk0 : (0 : Int) ≤ k := by omega
      have hk1 : (k : Int) < d.kids.length := by omega
      have hs1 := size_kid (n := n) ht
      have hd1 := depth_kid (n := n) ht
      have hts : sizeT n t ≤ 1073741824 := by omega
      have HC := Lib.hid hC
      have Hnx := Lib.hid (szL_take_succ (sizeT n) d.kids k t ht)
      clear hcs hcell hA hC
      obtain ⟨x, hx⟩ : ∃ x : Nat, x = 1 + szL (sizeT n) (d.kids.take k) := ⟨_, rfl⟩
      have hxb : x ≤ 1073741824 := by omega
      rw [← hx]
      have HX := Lib.hid hx
      obtain ⟨y, hy⟩ : ∃ y : Nat, y = sizeT n t := ⟨_, rfl⟩
      have hyb : y + x ≤ 2147483648 := by have := depth_size n t; omega
      have HY := Lib.hid hy
      clear hx hy hs1 hd1
      go_wp2_with (go_at_call 81; refine (ih t _ _ _ (HC.out.now bel) hts).mono ?_; rintro e w9 ⟨rfl, hb9⟩; rw [← HY.out])
      go_roundw
      case rel => exact ⟨k + 1, by omega, by go_num, by (have h1 := Hnx.out; have h2 := HX.out; have h3 := HY.out; go_num), bel⟩
      case measure => simp [intOf]; omega
    · obtain rfl : k = d.kids.length := by omega
      have Hf := Lib.hid (show sizeT (n + 1) d = 1 + szL (sizeT n) (d.kids.take d.kids.length) by rw [sizeT_succ, List.take_of_length_le (Nat.le_refl _)])
      obtain ⟨x, hx⟩ : ∃ x : Nat, x = 1 + szL (sizeT n) (d.kids.take d.kids.length) := ⟨_, rfl⟩
      rw [← hx] at Hf
      rw [← hx]
      have hxb : x ≤ 1073741824 := by have := Hf.out; omega
      clear hA hx
      go_wp2_with fail
      go_ret
      exact ⟨by rw [Hf.out]; rfl, bel⟩
theorem all_SizeI : ∀ n, T_SizeI n
  | 0 => fun _ _ _ _ h _ => (C_Tree.none h).elim
  | n + 1 => of_SizeI n (all_SizeI n)
def T_DepthS (n : Nat) : Prop := ∀ (d : TreeD) (cs : List Value) (w : World) (lo : Nat), C_Tree n lo w.heap.size w d cs → sizeT n d ≤ 1073741824 →
    Calls Tryz.prog 48 #[.agg cs.toArray] w fun e w' => e = .returned (.int .i64 (depthT n d : Nat)) ∧ Below w.heap.size w w'
set_option maxHeartbeats 4000000 in
set_option maxRecDepth 10000 in
theorem of_DepthS (n : Nat) (ih : T_DepthS n) : T_DepthS (n + 1) := by
  intro d cs w lo h hsz
  have hds := depth_size (n + 1) d
  obtain ⟨v4, v5, rfl, a0, a2, a3, a4, a5⟩ := C_Tree.out h
  obtain ⟨A4, c4, rfl⟩ := a4.form
  obtain ⟨A5, c5, rfl, hlc, hcc, hA⟩ := a5
  clear h a4
  go_enter Tryz.func48, Tryz.ntmps48
  go_wp2_with fail
  go_loopw [3, 4] (fun s v wr => ∃ k : Nat, k ≤ d.kids.length ∧ v = .int .i64 k ∧ s = .int .i64 (mxL (depthT n) (d.kids.take k) : Nat) ∧ wr.heap[w.heap.size]? = some (.cells #[.int .i64 d.kind, .bool d.flag, .int .i64 d.num, .string d.text, .slice A4 d.keys.length c4, .slice A5 d.kids.length c5] 27 (0, 0)) ∧ Below w.heap.size w wr) (fun _ v _ => d.kids.length - (intOf v).toNat)
  case atStart => exact ⟨0, Nat.zero_le _, rfl, rfl, heap_at rfl, bel⟩
  case round =>
    obtain ⟨k, hk, rfl, rfl, hT, hbr⟩ := hrel
    have HT := Lib.hid hT
    clear hT
    obtain ⟨x0, x1, x2, x3, x4, x5, xf⟩ := row6 HT.out
    have hl1 := row_lt HT.out
    by_cases hlt : k < d.kids.length
    · skip
      obtain ⟨p, o, rfl, -, hbl, hcell⟩ := hA (by omega)
      obtain ⟨t, ht⟩ := exists_at hlt
      obtain ⟨es, -, hcs, hC⟩ := hcell k t ht
      obtain ⟨eA4, ec4, eA5, ec5, rfl, ea0, ea2, ea3⟩ := hC.flat
      have hc0 := (hbr.cell (p := ⟨p, o + k * 6 + 0, none⟩) (by simp; omega)).trans (hcs 0 (by omega))
      simp at hc0
      have hc1 := (hbr.cell (p := ⟨p, o + k * 6 + 1, none⟩) (by simp; omega)).trans (hcs 1 (by omega))
      simp at hc1
      have hc2 := (hbr.cell (p := ⟨p, o + k * 6 + 2, none⟩) (by simp; omega)).trans (hcs 2 (by omega))
      simp at hc2
      have hc3 := (hbr.cell (p := ⟨p, o + k * 6 + 3, none⟩) (by simp; omega)).trans (hcs 3 (by omega))
      simp at hc3
      have hc4 := (hbr.cell (p := ⟨p, o + k * 6 + 4, none⟩) (by simp; omega)).trans (hcs 4 (by omega))
      simp at hc4
      have hc5 := (hbr.cell (p := ⟨p, o + k * 6 + 5, none⟩) (by simp; omega)).trans (hcs 5 (by omega))
      simp at hc5
      have hbr1 := Nat.lt_of_lt_of_le hbl hbr.size
      have hk0 : (0 : Int) ≤ k := by omega
      have hk1 : (k : Int) < d.kids.length := by omega
      have hs1 := size_kid (n := n) ht
      have hd1 := depth_kid (n := n) ht
      have hts : sizeT n t ≤ 1073741824 := by omega
      have HC := Lib.hid hC
      have Hnx := Lib.hid (mxL_next (depthT n) ht)
      clear hcs hcell hA hC
      obtain ⟨x, hx⟩ : ∃ x : Nat, x = mxL (depthT n) (d.kids.take k) := ⟨_, rfl⟩
      have hxb : x ≤ 1073741824 := by omega
      rw [← hx]
      have HX := Lib.hid hx
      obtain ⟨y, hy⟩ : ∃ y : Nat, y = depthT n t := ⟨_, rfl⟩
      have hyb : y + x ≤ 2147483648 := by have := depth_size n t; omega
      have HY := Lib.hid hy
      clear hx hy hs1 hd1
      have hyx : decide (x < y) = true ∨ decide (x < y) = false := by rcases decide (x < y) with _ | _ <;> simp
      rcases hyx with hyx | hyx
      · have hyi : (x : Int) < y := by have := of_decide_eq_true hyx; omega
        have hn : max x y = y := by have := of_decide_eq_true hyx; omega
        clear hyx
        go_wp2_with (go_at_call 48; refine (ih t _ _ _ (HC.out.now bel) hts).mono ?_; rintro e w9 ⟨rfl, hb9⟩; rw [← HY.out])
        go_roundw
        case rel => exact ⟨k + 1, by omega, by go_num, by (have h1 := Hnx.out; rw [← HX.out, ← HY.out, hn] at h1; rw [h1]), (hb9.block _ (by first | omega | (simp; omega))).trans HT.out, bel⟩
        case measure => simp [intOf]; omega
      · have hyi : decide ((x : Int) < y) = false := decide_eq_false (by have := of_decide_eq_false hyx; omega)
        have hn : max x y = x := by have := of_decide_eq_false hyx; omega
        clear hyx
        go_wp2_with (go_at_call 48; refine (ih t _ _ _ (HC.out.now bel) hts).mono ?_; rintro e w9 ⟨rfl, hb9⟩; rw [← HY.out])
        go_roundw
        case rel => exact ⟨k + 1, by omega, by go_num, by (have h1 := Hnx.out; rw [← HX.out, ← HY.out, hn] at h1; rw [h1]), (hb9.block _ (by first | omega | (simp; omega))).trans HT.out, bel⟩
        case measure => simp [intOf]; omega
    · obtain rfl : k = d.kids.length := by omega
      have Hf := Lib.hid (show depthT (n + 1) d = mxL (depthT n) (d.kids.take d.kids.length) + 1 by rw [depthT_succ, List.take_of_length_le (Nat.le_refl _)])
      obtain ⟨x, hx⟩ : ∃ x : Nat, x = mxL (depthT n) (d.kids.take d.kids.length) := ⟨_, rfl⟩
      rw [← hx] at Hf
      rw [← hx]
      have hxb : x ≤ 1073741824 := by have := Hf.out; omega
      clear hA hx
      go_wp2_with fail
      go_ret
      exact ⟨by rw [Hf.out]; go_num, bel⟩
theorem all_DepthS : ∀ n, T_DepthS n
  | 0 => fun _ _ _ _ h _ => (C_Tree.none h).elim
  | n + 1 => of_DepthS n (all_DepthS n)
def T_SizeS (n : Nat) : Prop := ∀ (d : TreeD) (cs : List Value) (w : World) (lo : Nat), C_Tree n lo w.heap.size w d cs → sizeT n d ≤ 1073741824 →
    Calls Tryz.prog 49 #[.agg cs.toArray] w fun e w' => e = .returned (.int .i64 (sizeT n d : Nat)) ∧ Below w.heap.size w w'
set_option maxHeartbeats 4000000 in
set_option maxRecDepth 10000 in
theorem of_SizeS (n : Nat) (ih : T_SizeS n) : T_SizeS (n + 1) := by
  intro d cs w lo h hsz
  have hds := depth_size (n + 1) d
  obtain ⟨v4, v5, rfl, a0, a2, a3, a4, a5⟩ := C_Tree.out h
  obtain ⟨A4, c4, rfl⟩ := a4.form
  obtain ⟨A5, c5, rfl, hlc, hcc, hA⟩ := a5
  clear h a4
  go_enter Tryz.func49, Tryz.ntmps49
  go_wp2_with fail
  go_loopw [3, 4] (fun s v wr => ∃ k : Nat, k ≤ d.kids.length ∧ v = .int .i64 k ∧ s = .int .i64 (1 + szL (sizeT n) (d.kids.take k) : Nat) ∧ wr.heap[w.heap.size]? = some (.cells #[.int .i64 d.kind, .bool d.flag, .int .i64 d.num, .string d.text, .slice A4 d.keys.length c4, .slice A5 d.kids.length c5] 27 (0, 0)) ∧ Below w.heap.size w wr) (fun _ v _ => d.kids.length - (intOf v).toNat)
  case atStart => exact ⟨0, Nat.zero_le _, rfl, rfl, heap_at rfl, bel⟩
  case round =>
    obtain ⟨k, hk, rfl, rfl, hT, hbr⟩ := hrel
    have HT := Lib.hid hT
    clear hT
    obtain ⟨x0, x1, x2, x3, x4, x5, xf⟩ := row6 HT.out
    have hl1 := row_lt HT.out
    by_cases hlt : k < d.kids.length
    · skip
      obtain ⟨p, o, rfl, -, hbl, hcell⟩ := hA (by omega)
      obtain ⟨t, ht⟩ := exists_at hlt
      obtain ⟨es, -, hcs, hC⟩ := hcell k t ht
      obtain ⟨eA4, ec4, eA5, ec5, rfl, ea0, ea2, ea3⟩ := hC.flat
      have hc0 := (hbr.cell (p := ⟨p, o + k * 6 + 0, none⟩) (by simp; omega)).trans (hcs 0 (by omega))
      simp at hc0
      have hc1 := (hbr.cell (p := ⟨p, o + k * 6 + 1, none⟩) (by simp; omega)).trans (hcs 1 (by omega))
      simp at hc1
      have hc2 := (hbr.cell (p := ⟨p, o + k * 6 + 2, none⟩) (by simp; omega)).trans (hcs 2 (by omega))
      simp at hc2
      have hc3 := (hbr.cell (p := ⟨p, o + k * 6 + 3, none⟩) (by simp; omega)).trans (hcs 3 (by omega))
      simp at hc3
      have hc4 := (hbr.cell (p := ⟨p, o + k * 6 + 4, none⟩) (by simp; omega)).trans (hcs 4 (by omega))
      simp at hc4
      have hc5 := (hbr.cell (p := ⟨p, o + k * 6 + 5, none⟩) (by simp; omega)).trans (hcs 5 (by omega))
      simp at hc5
      have hbr1 := Nat.lt_of_lt_of_le hbl hbr.size
      have hk0 : (0 : Int) ≤ k := by omega
      have hk1 : (k : Int) < d.kids.length := by omega
      have hs1 := size_kid (n := n) ht
      have hd1 := depth_kid (n := n) ht
      have hts : sizeT n t ≤ 1073741824 := by omega
      have HC := Lib.hid hC
      have Hnx := Lib.hid (szL_take_succ (sizeT n) d.kids k t ht)
      clear hcs hcell hA hC
      obtain ⟨x, hx⟩ : ∃ x : Nat, x = 1 + szL (sizeT n) (d.kids.take k) := ⟨_, rfl⟩
      have hxb : x ≤ 1073741824 := by omega
      rw [← hx]
      have HX := Lib.hid hx
      obtain ⟨y, hy⟩ : ∃ y : Nat, y = sizeT n t := ⟨_, rfl⟩
      have hyb : y + x ≤ 2147483648 := by have := depth_size n t; omega
      have HY := Lib.hid hy
      clear hx hy hs1 hd1
      go_wp2_with (go_at_call 49; refine (ih t _ _ _ (HC.out.now bel) hts).mono ?_; rintro e w9 ⟨rfl, hb9⟩; rw [← HY.out])
      go_roundw
      case rel => exact ⟨k + 1, by omega, by go_num, by (have h1 := Hnx.out; have h2 := HX.out; have h3 := HY.out; go_num), (hb9.block _ (by first | omega | (simp; omega))).trans HT.out, bel⟩
      case measure => simp [intOf]; omega
    · obtain rfl : k = d.kids.length := by omega
      have Hf := Lib.hid (show sizeT (n + 1) d = 1 + szL (sizeT n) (d.kids.take d.kids.length) by rw [sizeT_succ, List.take_of_length_le (Nat.le_refl _)])
      obtain ⟨x, hx⟩ : ∃ x : Nat, x = 1 + szL (sizeT n) (d.kids.take d.kids.length) := ⟨_, rfl⟩
      rw [← hx] at Hf
      rw [← hx]
      have hxb : x ≤ 1073741824 := by have := Hf.out; omega
      clear hA hx
      go_wp2_with fail
      go_ret
      exact ⟨by rw [Hf.out]; rfl, bel⟩
theorem all_SizeS : ∀ n, T_SizeS n
  | 0 => fun _ _ _ _ h _ => (C_Tree.none h).elim
  | n + 1 => of_SizeS n (all_SizeS n)
end Go.Proofs.YtffelpdefjkeaaaGreatDoor
