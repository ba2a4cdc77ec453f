/- Steps to FnExactIndentedOk and FnExactIndentedNormal and FnExactCrossed. No conditions. -/
import Derived.Test.YtohcpifekcehjaaGreatDoorKind8
import Derived.Test.YtohcpifekcehjaaGreatDoorKind13
import Derived.Test.YtohcpifekcehjaaGreatDoorKind10
import Derived.Test.YtohcpifekcehjaaGreatDoorKind3
import Derived.Test.YtohcpifekcehjaaGreatDoorKind6
import Derived.Test.YtohcpifekcehjaaGreatDoorKind4
import Derived.Deep.CutBlock
import Derived.Deep.CutRange
import Derived.Test.YtohcpifekcehjaaGreatDoorKind7
import Derived.Deep.RegionLaw
import Derived.Test.YtohcpifekcehjaaGreatDoorKind11
set_option maxHeartbeats 16000000
set_option maxRecDepth 20000
namespace Go.Proofs.YtohcpifekcehjaaGreatDoor
open Go.RowKit Go.Lib
theorem MapG.fresh {nT base hi i : Nat} {w0 w2 : World} {ks : List ByteArray} {l : List TreeD} {vk vl vk' vl' : Value} {ess : List (List Value)} {F : Nat -> Nat -> Prop} {S : Nat -> Prop} {t : TreeD} {es : List Value} {key : ByteArray} (h : MapG nT base hi w0 ks l vk vl ess F) (hbh : base <= hi) (hhi : hi <= w0.heap.size) (hi2 : i <= l.length)
  (ht : OwnT nT S w0 t es) (hS : ∀ b, S b -> hi <= b /\ b < w0.heap.size) (hkey : key.size <= 9223372036854775807)
  (hB : Below w0.heap.size w0 w2) (hM : MapRows w0.heap.size w2 (insL ks i key) (insL ess i es) vk' vl') :
  MapG nT base w2.heap.size w2 (insL ks i key) (insL l i t) vk' vl' (insL ess i es) (fun j b => if j < i then F j b else if j = i then S b else F (j - 1) b) := by
 have hlen := h.len
 have hsz := hB.size
 have hgk : ∀ g, vk'.ownBlock = some g -> w0.heap.size <= g := fun g hg => (hM.keys.lt g hg).1
 have hgl : ∀ g, vl'.ownBlock = some g -> w0.heap.size <= g := fun g hg => (hM.kids.lt g hg).1
 have hkeep : ∀ b, b < w0.heap.size -> w2.heap[b]? = w0.heap[b]? := fun b hb => hB.block b hb
 have hFS : ∀ j b, F j b -> ¬ S b := fun j b hF hs => by have := (h.part j b hF).2.1; have := (hS b hs).1; omega
 have hl1 : (insL ess i es).length = (insL l i t).length := by rw [ins_len (by omega), ins_len hi2, hlen]
 refine ⟨hl1, hM.six, own_less hM.keys (by omega), hl1 ▸ own_less hM.kids (by omega), fun g hg => (hM.keys.lt g hg).2, fun g hg => (hM.kids.lt g hg).2, ?_, ?_, ?_, ?_⟩
 ·have hnew : ∀ b, base <= b -> b < w0.heap.size -> base <= b /\ b < w2.heap.size /\ vk'.ownBlock ≠ some b /\ vl'.ownBlock ≠ some b := fun b h1 h2 =>
   ⟨h1, by omega, fun e => by have := hgk b e; omega, fun e => by have := hgl b e; omega⟩
  intro j b hF
  by_cases c1 : j < i
  ·rw [if_pos c1] at hF
   obtain ⟨f1, f2, f3, f4⟩ := h.part j b hF
   exact hnew b f1 (by omega)
  ·rw [if_neg c1] at hF
   by_cases c2 : j = i
   ·rw [if_pos c2] at hF
    obtain ⟨f1, f2⟩ := hS b hF
    exact hnew b (by omega) f2
   ·rw [if_neg c2] at hF
    obtain ⟨f1, f2, f3, f4⟩ := h.part (j - 1) b hF
    exact hnew b f1 (by omega)
 ·intro j k b hF hG
  have key : ∀ j k, (if j < i then F j b else if j = i then S b else F (j - 1) b) -> (if k < i then F k b else if k = i then S b else F (k - 1) b) -> j <= k -> j = k := by
   intro j k hF hG hjk
   by_cases c1 : j < i
   ·rw [if_pos c1] at hF
    by_cases c2 : k < i
    ·rw [if_pos c2] at hG
     exact h.apart j k b hF hG
    ·rw [if_neg c2] at hG
     by_cases c3 : k = i
     ·rw [if_pos c3] at hG
      exact absurd hG (hFS j b hF)
     ·rw [if_neg c3] at hG
      have := h.apart j (k - 1) b hF hG
      omega
   ·rw [if_neg c1] at hF
    by_cases c3 : j = i
    ·rw [if_pos c3] at hF
     by_cases c4 : k = i
     ·omega
     ·rw [if_neg (by omega), if_neg c4] at hG
      exact absurd hF (hFS (k - 1) b hG)
    ·rw [if_neg c3] at hF
     rw [if_neg (by omega), if_neg (by omega)] at hG
     have := h.apart (j - 1) (k - 1) b hF hG
     omega
  rcases Nat.le_total j k with hjk | hjk
  ·exact key j k hF hG hjk
  ·exact (key k j hG hF hjk).symm
 ·intro j d' es' hd hes
  rw [ins_get hi2] at hd
  rw [ins_get (by omega)] at hes
  by_cases c1 : j < i
  ·rw [if_pos c1] at hd hes
   refine (h.own j d' es' hd hes).carry (fun b hF => ?_) (fun b hF => by rw [if_pos c1]; exact hF)
   obtain ⟨f1, f2, f3, f4⟩ := h.part j b hF
   exact hkeep b (by omega)
  ·rw [if_neg c1] at hd hes
   by_cases c2 : j = i
   ·rw [if_pos c2] at hd hes
    obtain rfl := Option.some.inj hd
    obtain rfl := Option.some.inj hes
    exact ht.carry (fun b hs => hkeep b (hS b hs).2) (fun b hF => by rw [if_neg c1, if_pos c2]; exact hF)
   ·rw [if_neg c2] at hd hes
    refine (h.own (j - 1) d' es' hd hes).carry (fun b hF => ?_) (fun b hF => by rw [if_neg c1, if_neg c2]; exact hF)
    obtain ⟨f1, f2, f3, f4⟩ := h.part (j - 1) b hF
    exact hkeep b (by omega)
 ·intro s hs
  rcases ins_mem hs with rfl | hs
  ·exact hkey
  ·exact h.size s hs
theorem MapG.rows {nT base hi : Nat} {w : World} {ks : List ByteArray} {l : List TreeD} {vk vl : Value} {ess : List (List Value)} {F : Nat -> Nat -> Prop} (h : MapG nT base hi w ks l vk vl ess F) : MapRows base w ks ess vk vl :=
 ⟨h.keys, h.len ▸ h.kids, h.six, h.one⟩
theorem ins_end {D : Type} (l : List D) (n : Nat) (x : D) (h : l.length = n) : insL l n x = l ++ [x] := by
 unfold insL
 rw [List.take_of_length_le (by omega), List.drop_of_length_le (by omega)]
theorem c_layG {ks : List ByteArray} {vs : List (List Value)} {key t : ByteArray} {k0 m0 k m : Int} {f0 f : Bool} {t0 : ByteArray} {B4 B5 : Option Addr} {n4 d4 n5 d5 : Nat} {vk vl : Value} {base i : Nat} {w : World} (h : MapRows base w ks vs vk vl) (hlen : vs.length = ks.length) (hks : ∀ x ∈ ks, x.size <= 9223372036854775807) (hk : ks.length <= 1048576) (hi : i = posK ks key) (hso : SortK ks) :
  Calls Tryz.prog 193 #[.agg #[.int .i64 k0, .bool f0, .int .i64 m0, .string t0, vk, vl], .string key, .agg #[.int .i64 k, .bool f, .int .i64 m, .string t, .slice B4 n4 d4, .slice B5 n5 d5]] w fun e w' => ∃ vk' vl', e = .returned (.agg #[.int .i64 k0, .bool f0, .int .i64 m0, .string t0, vk', vl']) /\ MapRows w.heap.size w' (insL ks i key) (insL vs i [.int .i64 k, .bool f, .int .i64 m, .string t, .slice B4 n4 d4, .slice B5 n5 d5]) vk' vl' /\ Below w.heap.size w w' := by
 have hle := posK_le ks key
 by_cases hlt : i < ks.length
 ·exact c_layI ks vs key t k0 m0 k m f0 f t0 B4 B5 n4 d4 n5 d5 vk vl base i ks.length w h rfl hlen hks hlt (fun j d hj hd => posK_less (hi ▸ hj) hd) (fun d hd => posK_not hso (Nat.le_of_eq hi.symm) hd) hk
 ·have he : ks.length = i := by omega
  have := c_lay ks vs key t k0 m0 k m f0 f t0 B4 B5 n4 d4 n5 d5 vk vl base w h hlen hks (fun x hx => by
   obtain ⟨j, hj⟩ := List.getElem?_of_mem hx
   exact posK_less (by have := (List.getElem?_eq_some_iff.1 hj).1; omega) hj) hk
  rw [ins_end ks i key he, ins_end vs i _ (by omega)]
  exact this
theorem head_at (s : ByteArray) : headB s = true ↔ ∃ j, j < 17 /\ byteI s 0 = byteI (bs firstBad) j := by
 unfold headB
 rw [List.any_eq_true]
 constructor
 ·rintro ⟨c, hc, h⟩
  obtain ⟨j, hj, e⟩ := List.getElem_of_mem hc
  refine ⟨j, hj, ?_⟩
  have e2 : (bs firstBad).data.toList[j]? = some ((bs firstBad).get! j) := byte_list (show j < (bs firstBad).size from hj)
  rw [show (bs firstBad).data.toList = firstBad from rfl, List.getElem?_eq_getElem hj, e] at e2
  cases e2
  exact of_decide_eq_true h
 ·rintro ⟨j, hj, h⟩
  exact ⟨(bs firstBad).get! j, List.mem_of_getElem? (byte_list (show j < (bs firstBad).size from hj)), decide_eq_true h⟩
theorem head_yes {s : ByteArray} {j : Nat} (hj : j < 17) (h : byteI s 0 = byteI (bs firstBad) j) : headB s = true := (head_at s).2 ⟨j, hj, h⟩
theorem head_no {s : ByteArray} (h : ∀ j, j < 17 -> byteI s 0 ≠ byteI (bs firstBad) j) : headB s = false := by
 rcases e : headB s with _ | _
 ·rfl
 ·obtain ⟨j, hj, h2⟩ := (head_at s).1 e
  exact (h j hj h2).elim
theorem c_spec_PlainOk (s : ByteArray) (w : World) (hs : s.size <= 1048576) :
  Calls Tryz.prog 192 #[.string s] w fun e w' => e = .returned (.bool (plainB s)) /\ Below w.heap.size w w' := by
 have HU := hid (c_spec_Utf8Ok s w hs)
 obtain ⟨r, hr⟩ : ∃ r, r = plainB s := ⟨_, rfl⟩
 rw [<- hr]
 have HR := hid hr
 clear hr
 rcases hq1 : inB s.size 1 400 with _ | _
 ·have HF := hid (HR.out.trans (plain_no (.inl hq1)))
  go_enter Tryz.func192, Tryz.ntmps192
  go_wp2_with (first | (go_at_call 115; refine (c_spec_l01In _ _ _ _).mono ?_; rintro e w' ⟨rfl, rfl⟩))
  go_ret
  exact ⟨by rw [HF.out]; rfl, bel⟩
 have hq : 1 <= s.size /\ s.size <= 400 := by
  unfold inB at hq1
  have := of_decide_eq_true hq1
  omega
 obtain ⟨hsz1, hsz4⟩ := hq
 rcases hq2 : utf8B s with _ | _
 ·have HF := hid (HR.out.trans (plain_no (.inr (.inl hq2))))
  rw [hq2] at HU
  go_enter Tryz.func192, Tryz.ntmps192
  go_wp2_with (first | (go_at_call 195; refine HU.out.mono ?_; rintro e w1 ⟨rfl, hb1⟩) | (go_at_call 115; refine (c_spec_l01In _ _ _ _).mono ?_; rintro e w' ⟨rfl, rfl⟩))
  go_ret
  exact ⟨by rw [HF.out]; rfl, bel⟩
 rw [hq2] at HU
 obtain ⟨p, hp⟩ : ∃ p, s.size = p + 1 := ⟨s.size - 1, by omega⟩
 have hpz : (s.size : Int) = (p : Int) + 1 := by omega
 have hq1p : inB ((p : Int) + 1) 1 400 = true := by rw [<- hpz]; exact hq1
 have h0 : 0 < s.size := by omega
 have hpp : p < s.size := by omega
 have hps : s.size - 1 = p := by omega
 obtain ⟨b, hbb⟩ : ∃ b : Nat, b = (s.get! 0).toNat := ⟨_, rfl⟩
 have hx : (s[0]'h0).toNat = b := by rw [hbb]; exact get_byte s 0 h0
 obtain ⟨l, hll⟩ : ∃ b : Nat, b = (s.get! p).toNat := ⟨_, rfl⟩
 have hxl : (s[p]'hpp).toNat = l := by rw [hll]; exact get_byte s p hpp
 have HB : Hid (byteI s 0 = b) := hid (by unfold byteI; rw [hbb])
 have HL : Hid (byteI s (s.size - 1) = l) := hid (by rw [hps]; unfold byteI; rw [hll])
 clear hbb hll hps hp hsz1
 by_cases h4 : (b : Int) = 32
 ·have HF := hid (HR.out.trans (plain_no (.inr (.inr (.inr (.inl (HB.out.trans h4)))))))
  have k4 : ((b : Int) == 32) = true := beq_iff_eq.2 h4
  clear h4
  go_enter Tryz.func192, Tryz.ntmps192
  go_wp2_with (first | (go_at_call 195; refine HU.out.mono ?_; rintro e w1 ⟨rfl, hb1⟩) | (go_at_call 115; refine (c_spec_l01In _ _ _ _).mono ?_; rintro e w' ⟨rfl, rfl⟩))
  go_ret
  exact ⟨by rw [HF.out]; rfl, bel⟩
 have k4 : ((b : Int) == 32) = false := beq_eq_false_iff_ne.2 h4
 by_cases h5 : (l : Int) = 32
 ·have HF := hid (HR.out.trans (plain_no (.inr (.inr (.inr (.inr (HL.out.trans h5)))))))
  have k5 : ((l : Int) == 32) = true := beq_iff_eq.2 h5
  clear h5
  go_enter Tryz.func192, Tryz.ntmps192
  go_wp2_with (first | (go_at_call 195; refine HU.out.mono ?_; rintro e w1 ⟨rfl, hb1⟩) | (go_at_call 115; refine (c_spec_l01In _ _ _ _).mono ?_; rintro e w' ⟨rfl, rfl⟩))
  go_ret
  exact ⟨by rw [HF.out]; rfl, bel⟩
 have k5 : ((l : Int) == 32) = false := beq_eq_false_iff_ne.2 h5
 have HG := hid (fun h3 h6 => plain_all hq1 hq2 h3 (by rw [HB.out]; exact h4) (by rw [HL.out]; exact h5) h6)
 go_enter Tryz.func192, Tryz.ntmps192
 go_wp2_with (first | (go_at_call 195; refine HU.out.mono ?_; rintro e w1 ⟨rfl, hb1⟩) | (go_at_call 115; refine (c_spec_l01In _ _ _ _).mono ?_; rintro e w' ⟨rfl, rfl⟩))
 have HB1 := hid hb1
 clear hb1 hq1p hpp hxl k4 k5 h4 h5
 go_loopw [4] (fun s4 wr => ∃ k : Nat, s4 = .int .i64 k /\ k <= 17 /\ (∀ j, j < k -> byteI s 0 ≠ byteI (bs firstBad) j) /\ Below w.heap.size w wr) (fun s4 _ => 17 - (intOf s4).toNat)
 case atStart => exact ⟨0, rfl, Nat.zero_le _, fun j hj => absurd hj (by omega), HB1.out⟩
 case round =>
  obtain ⟨k, rfl, hk, ha, hbr⟩ := hrel
  have HA := hid ha
  have HBr := hid hbr
  clear ha hbr
  by_cases hlt : (k : Int) < 17
  ·have hkk : k < 17 := by omega
   have hd : decide ((k : Int) < 17) = true := decide_eq_true hlt
   have hz : (0 : Int) <= k := by omega
   obtain ⟨c, hcc⟩ : ∃ c : Nat, c = ((bs firstBad).get! k).toNat := ⟨_, rfl⟩
   have hxc : ((({ data := #[45, 63, 58, 44, 91, 93, 123, 125, 38, 42, 33, 124, 62, 39, 37, 64, 96] } : ByteArray))[k]'hkk).toNat = c := by rw [hcc]; exact get_byte (bs firstBad) k hkk
   have HC : Hid (byteI (bs firstBad) k = c) := hid (by unfold byteI; rw [hcc])
   clear hcc
   by_cases g : (b : Int) = c
   ·have HF := hid (HR.out.trans (plain_no (.inr (.inr (.inl (head_yes hkk (by rw [HB.out, HC.out]; exact g)))))))
    obtain rfl : b = c := by omega
    go_wp2_with fail
    refine wp_region_det 6 (by kernel_rfl) (by kernel_rfl) (by decide) ?_
    iterate 6 refine ds ?_
    intro wd hbwd
    (try simp only [Act.put, List.setIfInBounds_toArray, List.set_cons_zero, List.set_cons_succ])
    (try simp only [List.drop_succ_cons, List.drop_nil])
    have HBd := hid (HBr.out.trans (hbwd.mono HBr.out.size))
    clear hbwd
    go_wp2_with fail
    go_ret
    exact ⟨by rw [HF.out]; rfl, HBd.out⟩
   ·have j1 : ((b : Int) == (c : Int)) = false := beq_eq_false_iff_ne.2 g
    have j2 : (b == c) = false := beq_eq_false_iff_ne.2 (by omega)
    have j3 : ¬ b = c := by omega
    go_wp2_with fail
    refine wp_region_det 6 (by kernel_rfl) (by kernel_rfl) (by decide) ?_
    iterate 6 refine ds ?_
    intro wd hbwd
    (try simp only [Act.put, List.setIfInBounds_toArray, List.set_cons_zero, List.set_cons_succ])
    (try simp only [List.drop_succ_cons, List.drop_nil])
    have HBd := hid (HBr.out.trans (hbwd.mono HBr.out.size))
    clear hbwd
    go_wp2_with fail
    go_roundw
    case rel => exact ⟨k + 1, by go_num, hkk, fun j hj => by
      rcases Nat.lt_or_ge j k with h | h
      ·exact HA.out j h
      ·rw [show j = k by omega, HB.out, HC.out]; exact g, HBd.out⟩
    case measure => first | omega | (simp [intOf]; done) | (simp [intOf]; omega)
  ·have hd : decide ((k : Int) < 17) = false := decide_eq_false hlt
   have HQ := hid (head_no (s := s) (fun j hj => HA.out j (by omega)))
   go_wp2_with fail
   clear hx
   go_loop [5, 6] (fun s3 s36 => ∃ k : Nat, s3 = .bool (digK s k) /\ s36 = .int .i64 k /\ k <= s.size /\ allR k (plainC s) = true) (fun _ s36 => s.size - (intOf s36).toNat)
   case atStart => exact ⟨0, rfl, rfl, Nat.zero_le _, rfl⟩
   case round =>
    obtain ⟨k, rfl, rfl, hk, ha⟩ := hrel
    have HA := hid ha
    clear ha
    obtain ⟨dg, hdg⟩ : ∃ q, q = digK s k := ⟨_, rfl⟩
    rw [<- hdg]
    have HD := hid hdg
    clear hdg
    by_cases hlt : (k : Int) < s.size
    ·have hkk : k < s.size := by omega
     have hd : decide ((k : Int) < (p : Int) + 1) = true := decide_eq_true (by omega)
     have hz : (0 : Int) <= k := by omega
     obtain ⟨c, hcc⟩ : ∃ c : Nat, c = (s.get! k).toNat := ⟨_, rfl⟩
     have hxc : (s[k]'hkk).toNat = c := by rw [hcc]; exact get_byte s k hkk
     have HC : Hid (byteI s k = c) := hid (by unfold byteI; rw [hcc])
     clear hcc
     have HE := hid (c_l11Ends s k wr (by omega) hkk)
     obtain ⟨en, hen⟩ : ∃ q, q = endsB s k := ⟨_, rfl⟩
     rw [<- hen] at HE
     have HN := hid hen
     clear hen
     have HP : Hid (plainC s k = !(decide ((c : Int) < 32) || decide ((c : Int) = 34) || decide ((c : Int) = 35) || decide ((c : Int) = 92) || en)) := hid (by unfold plainC; rw [HC.out, <- HN.out])
     by_cases g1 : (c : Int) < 32
     ·have j1 : decide ((c : Int) < 32) = true := decide_eq_true g1
      have HF := hid (HR.out.trans (plain_at hkk (by rw [HP.out, j1]; rfl)))
      go_wp2_with fail
      go_ret
      exact ⟨by rw [HF.out]; rfl, HBr.out⟩
     have j1 : decide ((c : Int) < 32) = false := decide_eq_false g1
     by_cases g2 : (c : Int) = 34
     ·have j2 : ((c : Int) == 34) = true := beq_iff_eq.2 g2
      have HF := hid (HR.out.trans (plain_at hkk (by rw [HP.out, decide_eq_true g2]; simp)))
      go_wp2_with fail
      go_ret
      exact ⟨by rw [HF.out]; rfl, HBr.out⟩
     have j2 : ((c : Int) == 34) = false := beq_eq_false_iff_ne.2 g2
     by_cases g3 : (c : Int) = 35
     ·have j3 : ((c : Int) == 35) = true := beq_iff_eq.2 g3
      have HF := hid (HR.out.trans (plain_at hkk (by rw [HP.out, decide_eq_true g3]; simp)))
      go_wp2_with fail
      go_ret
      exact ⟨by rw [HF.out]; rfl, HBr.out⟩
     have j3 : ((c : Int) == 35) = false := beq_eq_false_iff_ne.2 g3
     by_cases g4 : (c : Int) = 92
     ·have j4 : ((c : Int) == 92) = true := beq_iff_eq.2 g4
      have HF := hid (HR.out.trans (plain_at hkk (by rw [HP.out, decide_eq_true g4]; simp)))
      go_wp2_with fail
      go_ret
      exact ⟨by rw [HF.out]; rfl, HBr.out⟩
     have j4 : ((c : Int) == 92) = false := beq_eq_false_iff_ne.2 g4
     rcases en with _ | _
     rotate_left
     ·have HF := hid (HR.out.trans (plain_at hkk (by rw [HP.out]; simp)))
      go_wp2_with (go_at_call 191; refine HE.out.mono ?_; rintro e w2 ⟨rfl, rfl⟩)
      go_ret
      exact ⟨by rw [HF.out]; rfl, HBr.out⟩
     have HA2 : Hid (allR (k + 1) (plainC s) = true) := hid (by rw [allR_succ, HA.out, HP.out, decide_eq_false g1, decide_eq_false g2, decide_eq_false g3, decide_eq_false g4]; rfl)
     have HD2 : Hid (digK s (k + 1) = (dg && digitB (c : Int))) := hid (by rw [HD.out, <- HC.out]; unfold digK; exact allR_succ _ _)
     rcases dg with _ | _
     ·go_wp2_with (go_at_call 191; refine HE.out.mono ?_; rintro e w2 ⟨rfl, rfl⟩)
      go_round
      ·exact ⟨k + 1, by rw [HD2.out]; rfl, by go_num, hkk, HA2.out⟩
      ·first | omega | (simp [intOf]; done) | (simp [intOf]; omega)
     ·by_cases y1 : (48 : Int) <= c
      ·have y1d : decide ((48 : Int) <= c) = true := decide_eq_true y1
       by_cases y2 : (c : Int) <= 57
       ·have y2d : decide ((c : Int) <= 57) = true := decide_eq_true y2
        have HD3 : Hid (digK s (k + 1) = true) := hid (by rw [HD2.out]; exact decide_eq_true ⟨y1, y2⟩)
        go_wp2_with (go_at_call 191; refine HE.out.mono ?_; rintro e w2 ⟨rfl, rfl⟩)
        go_round
        ·exact ⟨k + 1, by rw [HD3.out], by go_num, hkk, HA2.out⟩
        ·first | omega | (simp [intOf]; done) | (simp [intOf]; omega)
       ·have y2d : decide ((c : Int) <= 57) = false := decide_eq_false y2
        have HD3 : Hid (digK s (k + 1) = false) := hid (by rw [HD2.out]; exact decide_eq_false (fun h => y2 h.2))
        go_wp2_with (go_at_call 191; refine HE.out.mono ?_; rintro e w2 ⟨rfl, rfl⟩)
        go_round
        ·exact ⟨k + 1, by rw [HD3.out], by go_num, hkk, HA2.out⟩
        ·first | omega | (simp [intOf]; done) | (simp [intOf]; omega)
      ·have y1d : decide ((48 : Int) <= c) = false := decide_eq_false y1
       have HD3 : Hid (digK s (k + 1) = false) := hid (by rw [HD2.out]; exact decide_eq_false (fun h => y1 h.1))
       go_wp2_with (go_at_call 191; refine HE.out.mono ?_; rintro e w2 ⟨rfl, rfl⟩)
       go_round
       ·exact ⟨k + 1, by rw [HD3.out], by go_num, hkk, HA2.out⟩
       ·first | omega | (simp [intOf]; done) | (simp [intOf]; omega)
    ·have hd : decide ((k : Int) < (p : Int) + 1) = false := decide_eq_false (by omega)
     have hke : k = s.size := by omega
     have HF := hid (HR.out.trans (HG.out HQ.out (hke ▸ HA.out)))
     have HD3 := hid (hke ▸ HD.out)
     rw [<- HD3.out] at HF
     obtain ⟨q1, hm1⟩ : ∃ q, (s.toList == [110, 117, 108, 108]) = q := ⟨_, rfl⟩
     obtain ⟨q2, hm2⟩ : ∃ q, (s.toList == [126]) = q := ⟨_, rfl⟩
     obtain ⟨q3, hm3⟩ : ∃ q, (s.toList == [116, 114, 117, 101]) = q := ⟨_, rfl⟩
     obtain ⟨q4, hm4⟩ : ∃ q, (s.toList == [102, 97, 108, 115, 101]) = q := ⟨_, rfl⟩
     have HW : Hid (r = (!dg && !(q1 || q2 || q3 || q4))) := hid (by
      rw [HF.out]
      unfold plnW
      simp only [is_word]
      rw [<- hm1, <- hm2, <- hm3, <- hm4])
     clear HF
     rcases dg with _ | _
     ·rcases q1 with _ | _ <;> rcases q2 with _ | _ <;> rcases q3 with _ | _ <;> rcases q4 with _ | _
      all_goals
       go_wp2_with fail
       go_ret
       exact ⟨by rw [HW.out]; rfl, HBr.out⟩
     ·go_wp2_with fail
      go_ret
      exact ⟨by rw [HW.out]; rfl, HBr.out⟩
def KeyAtS (s : ByteArray) (s5 s6 s9 : Value) : Prop :=
 (∃ i : Nat, s5 = .string ⟨#[]⟩ /\ s6 = .int .i64 (-1) /\ s9 = .int .i64 i /\ i <= s.size /\ ∀ j, j < i -> endsB s j = false) ∨
 (∃ k : Nat, s5 = .string (s.extract 0 k) /\ s6 = .int .i64 k /\ s9 = .int .i64 ((k : Int) + 1) /\ k < s.size /\ endsB s k = true /\ ∀ j, j < k -> endsB s j = false)
theorem c_spec_KeyOf (s : ByteArray) (w : World) (hs : s.size <= 1048576) :
  Calls Tryz.prog 112 #[.string s] w fun e w' => e = .returned (keyV (keyB s)) /\ Below w.heap.size w w' := by
 have HKT := hid (fun (i : Nat) (W : World) => c_spec_IndentOf (s.extract i s.size) W (by rw [ByteArray.size_extract]; omega))
 obtain ⟨r, hr⟩ : ∃ r, r = keyB s := ⟨_, rfl⟩
 rw [<- hr]
 have HR := hid hr
 clear hr
 by_cases hq : 0 < s.size /\ byteI s 0 = ((34 : UInt8).toNat : Int)
 ·have h0 : 0 < s.size := hq.1
  have h0I : decide ((0 : Int) < s.size) = true := decide_eq_true (by omega)
  have hx : (s[0]'h0).toNat = 34 := by
   have := hq.2
   unfold byteI at this
   rw [get_byte s 0 h0]
   have e : (34 : UInt8).toNat = 34 := rfl
   omega
  have HQ := hid (c_spec_ReadQuoted s 0 w hs (by omega))
  have hnx := quotB_next s 0
  obtain ⟨k, a, hka⟩ : ∃ k a, quotB s 0 = (k, a) := ⟨_, _, rfl⟩
  rw [hka] at HQ hnx
  have hk1 : (quotB s 0).1 = k := by rw [hka]
  have hk2 : (quotB s 0).2 = a := by rw [hka]
  have HK2 := hid (And.intro hk1 hk2)
  have HQ0 := hid hq
  clear hka hk1 hk2 hq
  simp only at hnx
  by_cases ha : a < 0
  ·have hd : decide (0 <= a) = false := decide_eq_false (by omega)
   have HF := hid (HR.out.trans (key_quot_no HQ0.out.1 HQ0.out.2 (.inl (by rw [HK2.out.2]; exact ha))))
   clear hnx
   go_enter Tryz.func112, Tryz.ntmps112
   go_wp2_with fail
   refine HQ.out.mono ?_
   rintro e w1 ⟨rfl, hb1⟩
   go_wp2_with fail
   exact bodyPost_ret (v := .tuple #[.string ⟨#[]⟩, .string ⟨#[]⟩, .bool false]) (by simp only [results, Tryz.results112]; go_simp) rfl ⟨by rw [HF.out]; rfl, bel⟩
  obtain ⟨e, rfl⟩ : ∃ e : Nat, a = (e : Int) := ⟨a.toNat, by omega⟩
  have he : e <= s.size := by omega
  have hd : decide ((0 : Int) <= e) = true := decide_eq_true (by omega)
  clear hnx ha
  by_cases hes : (e : Int) < s.size
  rotate_left
  ·have hd2 : decide ((e : Int) < s.size) = false := decide_eq_false hes
   have HF := hid (HR.out.trans (key_quot_no HQ0.out.1 HQ0.out.2 (.inr (by rw [HK2.out.2, Int.toNat_natCast]; exact ends_past (by omega)))))
   go_enter Tryz.func112, Tryz.ntmps112
   go_wp2_with fail
   refine HQ.out.mono ?_
   rintro e w1 ⟨rfl, hb1⟩
   go_wp2_with fail
   exact bodyPost_ret (v := .tuple #[.string ⟨#[]⟩, .string ⟨#[]⟩, .bool false]) (by simp only [results, Tryz.results112]; go_simp) rfl ⟨by rw [HF.out]; rfl, bel⟩
  have hd2 : decide ((e : Int) < s.size) = true := decide_eq_true hes
  have hesN : e < s.size := by omega
  have HE := hid (fun W => c_l11Ends s e W hs hesN)
  rcases hen : endsB s e with _ | _
  ·rw [hen] at HE
   have HF := hid (HR.out.trans (key_quot_no HQ0.out.1 HQ0.out.2 (.inr (by rw [HK2.out.2, Int.toNat_natCast]; exact hen))))
   clear hen
   go_enter Tryz.func112, Tryz.ntmps112
   go_wp2_with fail
   refine HQ.out.mono ?_
   rintro e w1 ⟨rfl, hb1⟩
   go_wp2_with (go_at_call 191; refine (HE.out _).mono ?_; rintro e w2 ⟨rfl, rfl⟩)
   exact bodyPost_ret (v := .tuple #[.string ⟨#[]⟩, .string ⟨#[]⟩, .bool false]) (by simp only [results, Tryz.results112]; go_simp) rfl ⟨by rw [HF.out]; rfl, bel⟩
  ·rw [hen] at HE
   have HF := hid (HR.out.trans (key_quot HQ0.out.1 HQ0.out.2 HK2.out.2 hen))
   have hd3 : decide ((e : Int) < 0) = false := decide_eq_false (by omega)
   have hesI : (e : Int) + 1 <= s.size := by omega
   have hz1 : (0 : Int) <= (e : Int) + 1 := by omega
   have hesM : e + 1 <= s.size := hesN
   rw [HK2.out.1] at HF
   have HT1 := hid (HKT.out (e + 1))
   have hct := tail_cut s (e + 1)
   have hsz : (s.extract (e + 1) s.size).size = s.size - (e + 1) := by rw [ByteArray.size_extract]; omega
   have hin : indL (s.extract (e + 1) s.size).data.toList <= (s.extract (e + 1) s.size).size := by unfold indL; rw [list_size]; exact Nat.sub_le _ _
   obtain ⟨u, hu⟩ : ∃ u, u = s.extract (e + 1) s.size := ⟨_, rfl⟩
   rw [<- hu] at HT1 hct hin
   obtain ⟨n, hn⟩ : ∃ n, n = indL u.data.toList := ⟨_, rfl⟩
   rw [<- hn] at HT1 hct hin
   have hinI : (n : Int) <= u.size := by omega
   have hn0 : (0 : Int) <= n := by omega
   have HU := hid hu
   have HC := hid hct
   clear hen hn hsz hct hu
   go_enter Tryz.func112, Tryz.ntmps112
   go_wp2_with fail
   refine HQ.out.mono ?_
   rintro e w1 ⟨rfl, hb1⟩
   have HB1 := hid hb1
   clear hb1
   go_wp2_with (go_at_call 191; refine (HE.out _).mono ?_; rintro e w2 ⟨rfl, rfl⟩)
   rw [<- HU.out]
   refine wp_region_det 8 (by kernel_rfl) (by kernel_rfl) (by decide) ?_
   iterate 3 refine ds ?_
   (apply Exists.intro; refine And.intro ?_ ?_; (focus (intro W hW; (try simp only [Act.put, List.setIfInBounds_toArray, List.set_cons_zero, List.set_cons_succ]); first | (obtain ⟨hcW, hfW⟩ := bcell hW; have hsW := hW.size; (try simp at hsW); (try have hsW0 := lt_of_succ_le hsW); (try (have hsW1 := lt_pred hsW; (try (have hsW2 := lt_pred hsW1)))); go_wp2_with (first | (go_at_call 108; refine (HT1.out _).mono ?_; rintro e w9 ⟨rfl, rfl⟩)); exact ⟨rfl, rfl, bel⟩))))
   iterate 4 refine ds ?_
   intro wd hbwd
   (try simp only [Act.put, List.setIfInBounds_toArray, List.set_cons_zero, List.set_cons_succ])
   (try simp only [List.drop_succ_cons, List.drop_nil])
   have HBd := hid (HB1.out.trans (hbwd.mono HB1.out.size))
   clear hbwd
   go_wp2_with fail
   exact bodyPost_ret (v := .tuple #[.string k, .string (u.extract n u.size), .bool true]) (by simp only [results, Tryz.results112]; go_simp) rfl ⟨by rw [HF.out, HC.out]; rfl, HBd.out⟩
 ·have HQ0 := hid hq
  have hq2 : (decide ((0 : Int) < s.size) = false /\ s.size = 0) ∨ ∃ (b : Nat) (h0 : 0 < s.size), decide ((0 : Int) < s.size) = true /\ (s[0]'h0).toNat = b /\ ((b : Int) == 34) = false := by
   by_cases h0 : 0 < s.size
   ·refine .inr ⟨(s.get! 0).toNat, h0, decide_eq_true (by omega), get_byte s 0 h0, beq_eq_false_iff_ne.2 (fun h => hq ⟨h0, ?_⟩)⟩
    unfold byteI
    have e : (34 : UInt8).toNat = 34 := rfl
    omega
   ·exact .inl ⟨decide_eq_false (by omega), by omega⟩
  clear hq
  rcases hq2 with ⟨h0I, h00⟩ | ⟨b, h0, h0I, hx, hb⟩
  all_goals
   (try have h0N : decide (0 < s.size) = false := decide_eq_false (by omega))
   (try clear h00)
   go_enter Tryz.func112, Tryz.ntmps112
   go_wp2_with fail
   go_loop [5, 6, 9] (fun s5 s6 s9 => KeyAtS s s5 s6 s9) (fun _ _ s9 => s.size + 1 - (intOf s9).toNat)
   case atStart => exact .inl ⟨0, rfl, rfl, rfl, Nat.zero_le _, fun j hj => absurd hj (by omega)⟩
   case round =>
    (try clear h0I)
    (try clear h0N)
    (try clear hx hb)
    rcases hrel with ⟨i, rfl, rfl, rfl, hi, ha⟩ | ⟨k, rfl, rfl, rfl, hk, he, ha⟩
    ·have HA := hid ha
     clear ha
     by_cases hlt : (i : Int) < s.size
     ·have hii : i < s.size := by omega
      have hd : decide ((i : Int) < s.size) = true := decide_eq_true hlt
      have hz : (0 : Int) <= i := by omega
      have hiI : (i : Int) <= s.size := by omega
      have HE := hid (c_l11Ends s i w hs hii)
      rcases hen : endsB s i with _ | _
      ·rw [hen] at HE
       have HN := hid hen
       clear hen
       go_wp2_with (go_at_call 191; refine HE.out.mono ?_; rintro e w2 ⟨rfl, rfl⟩)
       go_round
       ·exact .inl ⟨i + 1, rfl, rfl, by go_num, hii, fun j hj => by
         rcases Nat.lt_or_ge j i with h | h
         ·exact HA.out j h
         ·rw [show j = i by omega]; exact HN.out⟩
       ·first | omega | (simp [intOf]; done) | (simp [intOf]; omega)
      ·rw [hen] at HE
       have HN := hid hen
       clear hen
       go_wp2_with (go_at_call 191; refine HE.out.mono ?_; rintro e w2 ⟨rfl, rfl⟩)
       go_round
       ·exact .inr ⟨i, rfl, rfl, by go_num, hii, HN.out, HA.out⟩
       ·first | omega | (simp [intOf]; done) | (simp [intOf]; omega)
     ·have hd : decide ((i : Int) < s.size) = false := decide_eq_false hlt
      have HF := hid (HR.out.trans (key_none HQ0.out (fun j hj => HA.out j (by omega))))
      go_wp2_with fail
      exact bodyPost_ret (v := .tuple #[.string ⟨#[]⟩, .string ⟨#[]⟩, .bool false]) (by simp only [results, Tryz.results112]; go_simp) rfl ⟨by rw [HF.out]; rfl, bel⟩
    ·have HF0 := hid (HR.out.trans (key_plain HQ0.out hk ha he))
     have HP := hid (c_spec_PlainOk (s.extract 0 k) w (by rw [ByteArray.size_extract]; omega))
     have hk1 : decide ((k : Int) < 0) = false := decide_eq_false (by omega)
     have hk2 : decide ((0 : Int) <= k) = true := decide_eq_true (by omega)
     have hes : (k : Int) + 1 <= s.size := by omega
     have hesN : k + 1 <= s.size := hk
     have hz1 : (0 : Int) <= (k : Int) + 1 := by omega
     have HT1 := hid (HKT.out (k + 1))
     have hct := tail_cut s (k + 1)
     have hin : indL (s.extract (k + 1) s.size).data.toList <= (s.extract (k + 1) s.size).size := by unfold indL; rw [list_size]; exact Nat.sub_le _ _
     obtain ⟨u, hu⟩ : ∃ u, u = s.extract (k + 1) s.size := ⟨_, rfl⟩
     rw [<- hu] at HT1 hct hin
     obtain ⟨n, hn⟩ : ∃ n, n = indL u.data.toList := ⟨_, rfl⟩
     rw [<- hn] at HT1 hct hin
     have hinI : (n : Int) <= u.size := by omega
     have hn0 : (0 : Int) <= n := by omega
     have HU := hid hu
     have HC := hid hct
     obtain ⟨q, hqt⟩ : ∃ q, q = decide ((k : Int) + 1 < s.size) := ⟨_, rfl⟩
     have hqt' : decide ((k : Int) + 1 < s.size) = q := hqt.symm
     clear ha he hn hct hu hqt
     rcases hpl : plainB (s.extract 0 k) with _ | _
     ·rw [hpl] at HP HF0
      have HF := hid (show r = none from HF0.out)
      clear hpl HF0
      rcases q with _ | _
      all_goals
       go_wp2_with fail
       refine HP.out.mono ?_
       rintro e w1 ⟨rfl, hb1⟩
       go_wp2_with fail
       exact bodyPost_ret (v := .tuple #[.string ⟨#[]⟩, .string ⟨#[]⟩, .bool false]) (by simp only [results, Tryz.results112]; go_simp) rfl ⟨by rw [HF.out]; rfl, bel⟩
     ·rw [hpl] at HP HF0
      have HF := hid (show r = some (s.extract 0 k, tailL s (k + 1)) from HF0.out)
      clear hpl HF0
      rcases q with _ | _
      all_goals
       go_wp2_with fail
       refine HP.out.mono ?_
       rintro e w1 ⟨rfl, hb1⟩
       have HB1 := hid hb1
       clear hb1
       go_wp2_with fail
       rw [<- HU.out]
       refine wp_region_det 8 (by kernel_rfl) (by kernel_rfl) (by decide) ?_
       iterate 3 refine ds ?_
       (apply Exists.intro; refine And.intro ?_ ?_; (focus (intro W hW; (try simp only [Act.put, List.setIfInBounds_toArray, List.set_cons_zero, List.set_cons_succ]); first | (obtain ⟨hcW, hfW⟩ := bcell hW; have hsW := hW.size; (try simp at hsW); (try have hsW0 := lt_of_succ_le hsW); (try (have hsW1 := lt_pred hsW; (try (have hsW2 := lt_pred hsW1)))); go_wp2_with (first | (go_at_call 108; refine (HT1.out _).mono ?_; rintro e w9 ⟨rfl, rfl⟩)); exact ⟨rfl, rfl, bel⟩))))
       iterate 4 refine ds ?_
       intro wd hbwd
       (try simp only [Act.put, List.setIfInBounds_toArray, List.set_cons_zero, List.set_cons_succ])
       (try simp only [List.drop_succ_cons, List.drop_nil])
       have HBd := hid (HB1.out.trans (hbwd.mono HB1.out.size))
       clear hbwd
       go_wp2_with fail
       exact bodyPost_ret (v := .tuple #[.string (s.extract 0 k), .string (u.extract n u.size), .bool true]) (by simp only [results, Tryz.results112]; go_simp) rfl ⟨by rw [HF.out, HC.out]; rfl, HBd.out⟩
theorem lit_list : (⟨#[57, 50, 50, 51, 51, 55, 50, 48, 51, 54, 56, 53, 52, 55, 55, 53, 56, 48, 56]⟩ : ByteArray).toList = [57, 50, 50, 51, 51, 55, 50, 48, 51, 54, 56, 53, 52, 55, 55, 53, 56, 48, 56] := by simp [ByteArray.toList_eq]
theorem whole_read {s : ByteArray} {a e : Nat} {neg : Bool} (he : e = digE s a) (has : a <= s.size) (h : ¬ (e = a ∨ (byteI s a = 48 /\ a + 1 < e) ∨ (e < s.size /\ (byteI s e = 46 ∨ byteI s e = 101 ∨ byteI s e = 69)))) :
  (neg = true /\ s.extract a e = ⟨#[57, 50, 50, 51, 51, 55, 50, 48, 51, 54, 56, 53, 52, 55, 55, 53, 56, 48, 56]⟩ /\ wholeA s neg a = (-9223372036854775808, (e : Int))) ∨
  ((neg = false ∨ s.extract a e ≠ ⟨#[57, 50, 50, 51, 51, 55, 50, 48, 51, 54, 56, 53, 52, 55, 55, 53, 56, 48, 56]⟩) /\
   ((∃ u : Nat, u <= 9223372036854775807 /\ readI (s.extract a e) = some u /\ wholeA s neg a = (if neg = true then -(u : Int) else u, (e : Int))) ∨ (readI (s.extract a e) = none /\ wholeA s neg a = (0, -1)))) := by
 subst he
 have hae := digE_le s a
 have hes := hae.2 has
 have hne : a < digE s a := by have := hae.1; have := not_or.1 h; omega
 have hf : ∀ t, a <= t -> t < digE s a -> figI (byteI s t) = true := fun t h1 h2 => (digE_figs h1 h2).1
 have hz : ¬ (byteI s a = 48 /\ a + 1 < digE s a) := fun hh => h (.inr (.inl hh))
 have hmin := is_min hne hes hf hz
 have hr := readI_part hne hes hf hz
 unfold wholeA
 rw [if_neg h]
 cases neg with
 | true =>
  rw [if_pos rfl]
  by_cases hm : numB s a (digE s a) = 9223372036854775808
  ·exact .inl ⟨rfl, hmin.2 hm, by rw [hm, if_pos (by decide)]; rfl⟩
  ·refine .inr ⟨.inr (fun hh => hm (hmin.1 hh)), ?_⟩
   by_cases hv : numB s a (digE s a) <= 9223372036854775807
   ·rw [if_pos hv] at hr
    exact .inl ⟨_, hv, hr, by rw [if_pos (by omega)]; rfl⟩
   ·rw [if_neg hv] at hr
    exact .inr ⟨hr, by rw [if_neg (by omega)]⟩
 | false =>
  rw [if_neg (by decide)]
  refine .inr ⟨.inl rfl, ?_⟩
  by_cases hv : numB s a (digE s a) <= 9223372036854775807
  ·rw [if_pos hv] at hr
   exact .inl ⟨_, hv, hr, by rw [if_pos hv]; rfl⟩
  ·rw [if_neg hv] at hr
   exact .inr ⟨hr, by rw [if_neg hv]⟩
theorem c_spec_ReadWhole (s : ByteArray) (i : Nat) (w : World) (hs : s.size <= 1048576) (hi : i <= 1048576) :
  Calls Tryz.prog 194 #[.string s, .int .i64 i] w fun e w' => e = .returned (.tuple #[.int .i64 (wholeB s i).1, .int .i64 (wholeB s i).2]) /\ Below w.heap.size w w' := by
 by_cases hlt : (i : Int) < s.size
 ·have hii : i < s.size := by omega
  have h0 : inB (i : Int) 0 ((s.size : Int) - 1) = true := decide_eq_true (by omega)
  have hz0 : (0 : Int) <= i := by omega
  obtain ⟨b, hb⟩ : ∃ b : Nat, b = (s.get! i).toNat := ⟨_, rfl⟩
  have hx : (s[i]'hii).toNat = b := by rw [hb]; exact get_byte s i hii
  have hby : byteI s i = b := by unfold byteI; rw [hb]
  obtain ⟨a, ha⟩ : ∃ a, a = if byteI s i = 45 then i + 1 else i := ⟨_, rfl⟩
  obtain ⟨neg, hneg⟩ : ∃ neg : Bool, neg = decide (byteI s i = 45) := ⟨_, rfl⟩
  have hWB : wholeB s i = wholeA s neg a := by rw [hneg]; exact wholeB_at hii ha
  have hnb : ((b : Int) == 45) = neg := by rw [hneg, hby]; rw [Bool.eq_iff_iff]; simp
  have hcs : (neg = true /\ (i : Int) + 1 = a) ∨ (neg = false /\ a = i) := by
   by_cases h45 : byteI s i = 45
   ·rw [if_pos h45] at ha; exact .inl ⟨by rw [hneg]; exact decide_eq_true h45, by omega⟩
   ·rw [if_neg h45] at ha; exact .inr ⟨by rw [hneg]; exact decide_eq_false h45, ha⟩
  have HWB := hid hWB
  have HCs := hid hcs
  have hia : i <= a /\ a <= i + 1 := by rw [ha]; split <;> omega
  obtain ⟨e0, he0⟩ : ∃ e0, e0 = digE s a := ⟨_, rfl⟩
  have hE0 := digE_le s a
  rw [<- he0] at hE0
  have hae : a <= e0 := hE0.1
  have hes : e0 <= s.size := hE0.2 (by omega)
  have HE0 := hid he0
  obtain ⟨hia1, hia2⟩ := hia
  clear hb hby ha he0 hE0 hneg hWB hcs
  go_enter Tryz.func194, Tryz.ntmps194
  go_upto_if 23 with (first | (go_at_call 115; refine (c_spec_l01In _ _ _ _).mono ?_; rintro e w' ⟨rfl, rfl⟩))
  go_cut [7] from 23 to 25 (fun s7 wx => s7 = .int .i64 a /\ wx = w)
  case first =>
   rcases HCs.out with ⟨rfl, haa⟩ | ⟨rfl, haa⟩
   ·go_wp2_with fail
    go_meet
    exact ⟨rfl, rfl⟩
   ·have HAA := hid haa
    clear haa
    go_wp2_with fail
    go_meet
    exact ⟨by rw [HAA.out], rfl⟩
  case rest =>
   obtain ⟨rfl, rfl⟩ := hcut
   go_upto_block 0 with fail
   go_cut [8] from 27 to 44 (fun s8 wx => s8 = .int .i64 e0 /\ wx = wc)
   case first =>
    go_wp2_with fail
    go_loopw [8] (fun s8 wr => ∃ j : Nat, a <= j /\ j <= e0 /\ s8 = .int .i64 j /\ digE s j = e0 /\ wr = wc) (fun s8 _ => s.size - (intOf s8).toNat)
    case atStart => exact ⟨a, Nat.le_refl _, hae, rfl, HE0.out.symm, rfl⟩
    case round =>
     obtain ⟨j, haj, hje, rfl, hdj, rfl⟩ := hrel
     have HJ := hid hdj
     clear hdj
     by_cases hjl : (j : Int) < s.size
     ·have hjj : j < s.size := by omega
      have hj0 : (0 : Int) <= j := by omega
      obtain ⟨c, hc⟩ : ∃ c : Nat, c = (s.get! j).toNat := ⟨_, rfl⟩
      have hxj : (s[j]'hjj).toNat = c := by rw [hc]; exact get_byte s j hjj
      have hbj : byteI s j = c := by unfold byteI; rw [hc]
      have HC := hid hbj
      have HD := hid (HJ.out.symm.trans (digE_at hjj))
      clear hc hbj
      by_cases f1 : (48 : Int) <= c
      ·by_cases f2 : (c : Int) <= 57
       ·have HF := hid (show digE s (j + 1) = e0 by have h9 := HD.out; rw [HC.out, if_pos (by unfold figI; rw [decide_eq_true f1, decide_eq_true f2]; rfl)] at h9; exact h9.symm)
        have hle := (digE_le s (j + 1)).1
        rw [HF.out] at hle
        go_wp2_with fail
        go_roundw
        case rel => exact ⟨j + 1, by omega, hle, by go_num, HF.out, by first | rfl | exact True.intro⟩
        case measure => simp [intOf]; omega
       ·have HF := hid (show e0 = j by have h9 := HD.out; rw [HC.out, if_neg (by unfold figI; rw [decide_eq_false f2, Bool.and_false]; decide)] at h9; exact h9)
        have d2 : decide ((c : Int) <= 57) = false := decide_eq_false f2
        have d3 : decide (c <= 57) = false := decide_eq_false (by omega)
        clear f2
        go_wp2_with fail
        go_meet
        exact ⟨by rw [HF.out], rfl⟩
      ·have HF := hid (show e0 = j by have h9 := HD.out; rw [HC.out, if_neg (by unfold figI; rw [decide_eq_false f1, Bool.false_and]; decide)] at h9; exact h9)
       have d2 : decide ((48 : Int) <= c) = false := decide_eq_false f1
       have d3 : decide (48 <= c) = false := decide_eq_false (by omega)
       clear f1
       go_wp2_with fail
       go_meet
       exact ⟨by rw [HF.out], rfl⟩
     ·have HF := hid (show e0 = j by rw [<- HJ.out]; exact digE_end (by omega))
      go_wp2_with fail
      go_meet
      exact ⟨by rw [HF.out], rfl⟩
   case rest =>
    obtain ⟨rfl, rfl⟩ := hcut
    obtain ⟨F, hF⟩ : ∃ F, F = s.extract a e0 := ⟨_, rfl⟩
    have hFs : F.size = e0 - a := by rw [hF, ByteArray.size_extract]; omega
    have HF := hid hF
    have hFe : s.extract a e0 = F := hF.symm
    have haeI : (a : Int) <= e0 := by omega
    have hesI : (e0 : Int) <= s.size := by omega
    clear hF
    by_cases c1 : e0 = a
    ·have HQ := hid (show wholeB s i = (0, -1) from HWB.out.trans (wholeA_no (.inl (by rw [<- HE0.out]; omega))))
     have hm1 := toList_empty (s := F) (by omega)
     clear c1
     go_wp2_with fail
     go_ret2
     exact ⟨by rw [HQ.out]; rfl, Below.refl _ _⟩
    ·have hm1 := toList_some (s := F) (by omega)
     have hlt2 : a < e0 := by omega
     have ham : a < s.size := by omega
     have hFp : 0 < F.size := by omega
     have hFpI : (0 : Int) < F.size := by omega
     obtain ⟨ca, hca⟩ : ∃ c : Nat, c = (s.get! a).toNat := ⟨_, rfl⟩
     have hx0 : (F[0]'hFp).toNat = ca := by
      have h9 := extract_get s a e0 0 hes (by omega)
      rw [hca, get_byte F 0 hFp]
      have h8 : F.data.toList[0]? = some (F.get! 0) := by
       have h7 : 0 < F.data.toList.length := by rw [Array.length_toList]; exact hFp
       rw [List.getElem?_eq_getElem h7, Array.getElem_toList]
       show some (F.data[0]) = some (F.data[0]!)
       rw [getElem!_pos F.data 0 hFp]
      rw [HF.out] at h8 ⊢
      rw [h9] at h8
      injection h8 with h8
      rw [<- h8]
      rfl
     have HCa := hid (show byteI s a = ca by unfold byteI; rw [hca])
     have hFsI : (F.size : Int) = e0 - a := by omega
     have HFs := hid hFsI
     clear hca c1 hFsI
     obtain ⟨fz, hfz⟩ : ∃ fz : Nat, fz = F.size := ⟨_, rfl⟩
     by_cases c2 : ca = 48 /\ a + 1 < e0
     ·have HQ := hid (show wholeB s i = (0, -1) from HWB.out.trans (wholeA_no (.inr (.inl ⟨by rw [HCa.out]; omega, by rw [<- HE0.out]; omega⟩))))
      obtain ⟨rfl, c22⟩ := c2
      have hf1 : (1 : Int) < F.size := by omega
      clear hFs hfz
      go_wp2_with fail
      go_ret2
      exact ⟨by rw [HQ.out]; rfl, Below.refl _ _⟩
     ·have tail : ∀ P : Prop, (decide (1 < F.size) = false -> decide ((1 : Int) < F.size) = false -> P) -> ((1 : Int) < F.size -> ((ca : Int) == 48) = false -> P) -> P := by
       intro P k1 k2
       by_cases c : 1 < F.size
       ·exact k2 (by omega) (beq_eq_false_iff_ne.2 (fun h => c2 ⟨by omega, by omega⟩))
       ·exact k1 (decide_eq_false c) (decide_eq_false (by omega))
      have HC2 := hid c2
      have HFz := hid hFs
      clear c2 hFs hfz
      by_cases c3 : (e0 : Int) < s.size
      ·have hej : e0 < s.size := by omega
       have he0 : (0 : Int) <= e0 := by omega
       obtain ⟨ce, hce⟩ : ∃ c : Nat, c = (s.get! e0).toNat := ⟨_, rfl⟩
       have hxe : (s[e0]'hej).toNat = ce := by rw [hce]; exact get_byte s e0 hej
       have HCe := hid (show byteI s e0 = ce by unfold byteI; rw [hce])
       clear hce
       by_cases c4 : ce = 46 ∨ ce = 101 ∨ ce = 69
       ·have HQ := hid (show wholeB s i = (0, -1) from HWB.out.trans (wholeA_no (.inr (.inr ⟨by rw [<- HE0.out]; exact hej, by rw [<- HE0.out, HCe.out]; omega⟩))))
        rcases c4 with rfl | rfl | rfl
        all_goals
         refine tail _ (fun t1 t2 => ?_) (fun t1 t2 => ?_)
         all_goals
          clear tail
          go_wp2_with fail
          all_goals
           go_ret2
           exact ⟨by rw [HQ.out]; rfl, Below.refl _ _⟩
       ·have hRE := hid (whole_read (s := s) (a := a) (e := e0) (neg := neg) HE0.out (by omega) (by
         rw [HCa.out, HCe.out]
         rintro (h | h | h)
         ·omega
         ·exact HC2.out ⟨by omega, h.2⟩
         ·omega))
        have g1 : ((ce : Int) == 46) = false := beq_eq_false_iff_ne.2 (by omega)
        have g2 : ((ce : Int) == 101) = false := beq_eq_false_iff_ne.2 (by omega)
        have g3 : ((ce : Int) == 69) = false := beq_eq_false_iff_ne.2 (by omega)
        clear c4
        refine tail _ (fun t1 t2 => ?_) (fun t1 t2 => ?_)
        all_goals
         clear tail
         rcases hRE.out with ⟨rfl, hl, hv⟩ | ⟨hl, hr⟩
         ·have HQ := hid (HWB.out.trans hv)
          rw [hFe] at hl
          have hl1 := beqD_yes hl
          have hl2 : (F.toList == [57, 50, 50, 51, 51, 55, 50, 48, 51, 54, 56, 53, 52, 55, 55, 53, 56, 48, 56]) = true := by rw [hl, lit_list]; rfl
          clear hl hv hRE
          go_wp2_with fail
          go_ret2
          exact ⟨by rw [HQ.out]; rfl, Below.refl _ _⟩
         ·rw [hFe] at hl hr
          have htest : (neg && (F.toList == [57, 50, 50, 51, 51, 55, 50, 48, 51, 54, 56, 53, 52, 55, 55, 53, 56, 48, 56])) = false := by
           rcases hl with rfl | h
           ·rfl
           ·rw [<- lit_list, beqD_no h, Bool.and_false]
          have HTe := hid htest
          have two : ∀ P : Prop, (neg = false -> P) -> (neg = true -> (F.toList == [57, 50, 50, 51, 51, 55, 50, 48, 51, 54, 56, 53, 52, 55, 55, 53, 56, 48, 56]) = false -> P) -> P := by
           intro P k1 k2
           rcases hn : neg with _ | _
           ·exact k1 hn
           ·refine k2 hn ?_
            have h9 := HTe.out
            rw [hn, Bool.true_and] at h9
            exact h9
          clear htest hl hRE
          rcases hr with ⟨u, hu, hr, hv⟩ | ⟨hr, hv⟩
          ·have HQ := hid (HWB.out.trans hv)
           have HRd := hid (read_some hr)
           have huI : (u : Int) <= 9223372036854775807 := by omega
           have hu0 : (0 : Int) <= u := by omega
           clear hr hv
           refine two _ (fun n1 => ?_) (fun n1 n2 => ?_)
           all_goals
            clear two
            subst n1
            go_wp2_with fail
            refine (c_spec_ReadInt F _ (by have := HFz.out; omega)).mono ?_
            rintro e w9 ⟨rfl, hb9⟩
            rw [HRd.out.1, HRd.out.2]
            go_wp2_with fail
            go_ret2
            exact ⟨by rw [HQ.out]; rfl, bel⟩
          ·have HQ := hid (HWB.out.trans hv)
           have HRd := hid (read_none hr)
           clear hr hv
           refine two _ (fun n1 => ?_) (fun n1 n2 => ?_)
           all_goals
            clear two
            subst n1
            go_wp2_with fail
            refine (c_spec_ReadInt F _ (by have := HFz.out; omega)).mono ?_
            rintro e w9 ⟨rfl, hb9⟩
            rw [HRd.out.1, HRd.out.2]
            go_wp2_with fail
            go_ret2
            exact ⟨by rw [HQ.out]; rfl, bel⟩
      ·have heq : e0 = s.size := by omega
       have hRE := hid (whole_read (s := s) (a := a) (e := e0) (neg := neg) HE0.out (by omega) (by
        rw [HCa.out]
        rintro (h | h | h)
        ·omega
        ·exact HC2.out ⟨by omega, h.2⟩
        ·omega))
       have hsz3 : decide ((e0 : Int) < s.size) = false := decide_eq_false c3
       have hsz4 : decide (e0 < s.size) = false := decide_eq_false (by omega)
       clear heq c3
       refine tail _ (fun t1 t2 => ?_) (fun t1 t2 => ?_)
       all_goals
        clear tail
        rcases hRE.out with ⟨rfl, hl, hv⟩ | ⟨hl, hr⟩
        ·have HQ := hid (HWB.out.trans hv)
         rw [hFe] at hl
         have hl1 := beqD_yes hl
         have hl2 : (F.toList == [57, 50, 50, 51, 51, 55, 50, 48, 51, 54, 56, 53, 52, 55, 55, 53, 56, 48, 56]) = true := by rw [hl, lit_list]; rfl
         clear hl hv hRE
         go_wp2_with fail
         go_ret2
         exact ⟨by rw [HQ.out]; rfl, Below.refl _ _⟩
        ·rw [hFe] at hl hr
         have htest : (neg && (F.toList == [57, 50, 50, 51, 51, 55, 50, 48, 51, 54, 56, 53, 52, 55, 55, 53, 56, 48, 56])) = false := by
          rcases hl with rfl | h
          ·rfl
          ·rw [<- lit_list, beqD_no h, Bool.and_false]
         have HTe := hid htest
         have two : ∀ P : Prop, (neg = false -> P) -> (neg = true -> (F.toList == [57, 50, 50, 51, 51, 55, 50, 48, 51, 54, 56, 53, 52, 55, 55, 53, 56, 48, 56]) = false -> P) -> P := by
          intro P k1 k2
          rcases hn : neg with _ | _
          ·exact k1 hn
          ·refine k2 hn ?_
           have h9 := HTe.out
           rw [hn, Bool.true_and] at h9
           exact h9
         clear htest hl hRE
         rcases hr with ⟨u, hu, hr, hv⟩ | ⟨hr, hv⟩
         ·have HQ := hid (HWB.out.trans hv)
          have HRd := hid (read_some hr)
          have huI : (u : Int) <= 9223372036854775807 := by omega
          have hu0 : (0 : Int) <= u := by omega
          clear hr hv
          refine two _ (fun n1 => ?_) (fun n1 n2 => ?_)
          all_goals
           clear two
           subst n1
           go_wp2_with fail
           refine (c_spec_ReadInt F _ (by have := HFz.out; omega)).mono ?_
           rintro e w9 ⟨rfl, hb9⟩
           rw [HRd.out.1, HRd.out.2]
           go_wp2_with fail
           go_ret2
           exact ⟨by rw [HQ.out]; rfl, bel⟩
         ·have HQ := hid (HWB.out.trans hv)
          have HRd := hid (read_none hr)
          clear hr hv
          refine two _ (fun n1 => ?_) (fun n1 n2 => ?_)
          all_goals
           clear two
           subst n1
           go_wp2_with fail
           refine (c_spec_ReadInt F _ (by have := HFz.out; omega)).mono ?_
           rintro e w9 ⟨rfl, hb9⟩
           rw [HRd.out.1, HRd.out.2]
           go_wp2_with fail
           go_ret2
           exact ⟨by rw [HQ.out]; rfl, bel⟩
 ·have HQ := hid (show wholeB s i = (0, -1) by unfold wholeB; rw [if_neg (by omega)])
  have h0 : inB (i : Int) 0 ((s.size : Int) - 1) = false := decide_eq_false (by omega)
  go_enter Tryz.func194, Tryz.ntmps194
  go_wp2_with (first | (go_at_call 115; refine (c_spec_l01In _ _ _ _).mono ?_; rintro e w' ⟨rfl, rfl⟩))
  go_ret2
  exact ⟨by rw [HQ.out]; rfl, Below.refl _ _⟩
theorem c_rs_TextTree (t : ByteArray) (w : World) : Calls Tryz.prog 140 #[.string t] w fun e w' => e = .returned (.agg #[.int .i64 4, .bool false, .int .i64 0, .string t, .slice none 0 0, .slice none 0 0]) /\ Below w.heap.size w w' := by
 go_enter Tryz.func140, Tryz.ntmps140
 go_wp2_with fail
 exact bodyPost_ret (v := .agg #[.int .i64 4, .bool false, .int .i64 0, .string t, .slice none 0 0, .slice none 0 0]) (by simp only [results, Tryz.results140]; go_simp) rfl ⟨rfl, bel⟩
theorem c_rs_IntTree (x : Int) (w : World) : Calls Tryz.prog 139 #[.int .i64 x] w fun e w' => e = .returned (.agg #[.int .i64 3, .bool false, .int .i64 x, .string ⟨#[]⟩, .slice none 0 0, .slice none 0 0]) /\ Below w.heap.size w w' := by
 go_enter Tryz.func139, Tryz.ntmps139
 go_wp2_with fail
 exact bodyPost_ret (v := .agg #[.int .i64 3, .bool false, .int .i64 x, .string ⟨#[]⟩, .slice none 0 0, .slice none 0 0]) (by simp only [results, Tryz.results139]; go_simp) rfl ⟨rfl, bel⟩
theorem c_spec_ReadScalar (s : ByteArray) (w : World) (hs : s.size <= 1048576) :
  Calls Tryz.prog 114 #[.string s] w fun e w' => e = .returned (scalV (scalB s)) /\ Below w.heap.size w w' := by
 by_cases c1 : s = (⟨#[91, 93]⟩ : ByteArray)
 ·have HF := scal_c1 c1
  subst c1
  rw [HF]
  clear HF
  go_enter Tryz.func114, Tryz.ntmps114
  go_wp2_with fail
  exact bodyPost_ret (v := .tuple #[.agg #[.int .i64 5, .bool false, .int .i64 0, .string ⟨#[]⟩, .slice none 0 0, .slice none 0 0], .bool true]) (by simp only [results, Tryz.results114]; go_simp) rfl ⟨rfl, bel⟩
 have k1 : (s.toList == [91, 93]) = false := by rw [<- is_word]; exact decide_eq_false c1
 by_cases c2 : s = (⟨#[123, 125]⟩ : ByteArray)
 ·have HF := scal_c2 c2
  subst c2
  rw [HF]
  clear HF
  go_enter Tryz.func114, Tryz.ntmps114
  go_wp2_with fail
  exact bodyPost_ret (v := .tuple #[.agg #[.int .i64 6, .bool false, .int .i64 0, .string ⟨#[]⟩, .slice none 0 0, .slice none 0 0], .bool true]) (by simp only [results, Tryz.results114]; go_simp) rfl ⟨rfl, bel⟩
 have k2 : (s.toList == [123, 125]) = false := by rw [<- is_word]; exact decide_eq_false c2
 by_cases c3 : s = (⟨#[110, 117, 108, 108]⟩ : ByteArray)
 ·have HF := scal_c3 c3
  subst c3
  rw [HF]
  clear HF
  go_enter Tryz.func114, Tryz.ntmps114
  go_wp2_with fail
  exact bodyPost_ret (v := .tuple #[.agg #[.int .i64 1, .bool false, .int .i64 0, .string ⟨#[]⟩, .slice none 0 0, .slice none 0 0], .bool true]) (by simp only [results, Tryz.results114]; go_simp) rfl ⟨rfl, bel⟩
 have k3 : (s.toList == [110, 117, 108, 108]) = false := by rw [<- is_word]; exact decide_eq_false c3
 by_cases c4 : s = (⟨#[126]⟩ : ByteArray)
 ·have HF := scal_c4 c4
  subst c4
  rw [HF]
  clear HF
  go_enter Tryz.func114, Tryz.ntmps114
  go_wp2_with fail
  exact bodyPost_ret (v := .tuple #[.agg #[.int .i64 1, .bool false, .int .i64 0, .string ⟨#[]⟩, .slice none 0 0, .slice none 0 0], .bool true]) (by simp only [results, Tryz.results114]; go_simp) rfl ⟨rfl, bel⟩
 have k4 : (s.toList == [126]) = false := by rw [<- is_word]; exact decide_eq_false c4
 by_cases c5 : s = (⟨#[116, 114, 117, 101]⟩ : ByteArray)
 ·have HF := scal_c5 c5
  subst c5
  rw [HF]
  clear HF
  go_enter Tryz.func114, Tryz.ntmps114
  go_wp2_with fail
  exact bodyPost_ret (v := .tuple #[.agg #[.int .i64 2, .bool true, .int .i64 0, .string ⟨#[]⟩, .slice none 0 0, .slice none 0 0], .bool true]) (by simp only [results, Tryz.results114]; go_simp) rfl ⟨rfl, bel⟩
 have k5 : (s.toList == [116, 114, 117, 101]) = false := by rw [<- is_word]; exact decide_eq_false c5
 by_cases c6 : s = (⟨#[102, 97, 108, 115, 101]⟩ : ByteArray)
 ·have HF := scal_c6 c6
  subst c6
  rw [HF]
  clear HF
  go_enter Tryz.func114, Tryz.ntmps114
  go_wp2_with fail
  exact bodyPost_ret (v := .tuple #[.agg #[.int .i64 2, .bool false, .int .i64 0, .string ⟨#[]⟩, .slice none 0 0, .slice none 0 0], .bool true]) (by simp only [results, Tryz.results114]; go_simp) rfl ⟨rfl, bel⟩
 have k6 : (s.toList == [102, 97, 108, 115, 101]) = false := by rw [<- is_word]; exact decide_eq_false c6
 have HC := hid (ScalNo.mk c1 c2 c3 c4 c5 c6)
 clear c1 c2 c3 c4 c5 c6
 obtain ⟨r, hr⟩ : ∃ r, r = scalB s := ⟨_, rfl⟩
 rw [<- hr]
 have HR := hid hr
 clear hr
 by_cases hq : 0 < s.size /\ byteI s 0 = ((34 : UInt8).toNat : Int)
 ·have h0 : 0 < s.size := hq.1
  have h0I : decide ((0 : Int) < s.size) = true := decide_eq_true (by omega)
  have hx : (s[0]'h0).toNat = 34 := by
   have := hq.2
   unfold byteI at this
   rw [get_byte s 0 h0]
   have e : (34 : UInt8).toNat = 34 := rfl
   omega
  have HQ := hid (fun (W : World) (hb : Below w.heap.size w W) => c_spec_ReadQuoted s 0 W hs (by omega))
  obtain ⟨k, a, hka⟩ : ∃ k a, quotB s 0 = (k, a) := ⟨_, _, rfl⟩
  rw [hka] at HQ
  have hk1 : (quotB s 0).1 = k := by rw [hka]
  have hk2 : (quotB s 0).2 = a := by rw [hka]
  have HK2 := hid (And.intro hk1 hk2)
  have HQ0 := hid hq
  clear hka hk1 hk2 hq
  by_cases h1 : a = (s.size : Int)
  rotate_left
  ·have d1 : (a != (s.size : Int)) = true := bne_iff_ne.2 h1
   have d2 : (a == (s.size : Int)) = false := beq_eq_false_iff_ne.2 h1
   have HF := hid (HR.out.trans (scal_quot_no HC.out HQ0.out (fun h => h1 (HK2.out.2.symm.trans h.1))))
   clear h1
   go_enter Tryz.func114, Tryz.ntmps114
   go_wp2_with fail
   refine (HQ.out _ bel).mono ?_
   rintro e w1 ⟨rfl, hb1⟩
   have HT1 := hid ((hb1.block w.heap.size (by simp)).trans (heap_at (w := w) (o := .cells #[.int .i64 0, .bool false, .int .i64 0, .string ⟨#[]⟩, .slice none 0 0, .slice none 0 0] 34) rfl))
   have HB1 := hid (bel : Below w.heap.size w w1)
   obtain ⟨x0, x1, x2, x3, x4, x5, xf⟩ := row6 HT1.out
   have l1 := row_lt HT1.out
   clear hb1
   go_wp2_with fail
   exact bodyPost_ret (v := .tuple #[.agg #[.int .i64 0, .bool false, .int .i64 0, .string ⟨#[]⟩, .slice none 0 0, .slice none 0 0], .bool false]) (by simp only [results, Tryz.results114]; go_simp) rfl ⟨by rw [HF.out]; rfl, HB1.out.trans (Aside.below (S := fun q => q = w.heap.size) asd HB1.out.size (fun i hi => by omega))⟩
  have d2 : (a == (s.size : Int)) = true := beq_iff_eq.2 h1
  have d1 : (a != (s.size : Int)) = false := by unfold bne; rw [d2]; rfl
  by_cases h2 : (400 : Int) < k.size
  ·have d3 : decide ((400 : Int) < k.size) = true := decide_eq_true h2
   have HF := hid (HR.out.trans (scal_quot_no HC.out HQ0.out (fun h => by have := h.2; rw [HK2.out.1] at this; omega)))
   clear h1
   go_enter Tryz.func114, Tryz.ntmps114
   go_wp2_with fail
   refine (HQ.out _ bel).mono ?_
   rintro e w1 ⟨rfl, hb1⟩
   have HT1 := hid ((hb1.block w.heap.size (by simp)).trans (heap_at (w := w) (o := .cells #[.int .i64 0, .bool false, .int .i64 0, .string ⟨#[]⟩, .slice none 0 0, .slice none 0 0] 34) rfl))
   have HB1 := hid (bel : Below w.heap.size w w1)
   obtain ⟨x0, x1, x2, x3, x4, x5, xf⟩ := row6 HT1.out
   have l1 := row_lt HT1.out
   clear hb1
   go_wp2_with fail
   exact bodyPost_ret (v := .tuple #[.agg #[.int .i64 0, .bool false, .int .i64 0, .string ⟨#[]⟩, .slice none 0 0, .slice none 0 0], .bool false]) (by simp only [results, Tryz.results114]; go_simp) rfl ⟨by rw [HF.out]; rfl, HB1.out.trans (Aside.below (S := fun q => q = w.heap.size) asd HB1.out.size (fun i hi => by omega))⟩
  ·have d3 : decide ((400 : Int) < k.size) = false := decide_eq_false h2
   have HF := hid (HR.out.trans (scal_quot HC.out HQ0.out (HK2.out.2.trans h1) (by rw [HK2.out.1]; omega)))
   rw [HK2.out.1] at HF
   clear h1
   go_enter Tryz.func114, Tryz.ntmps114
   go_wp2_with fail
   refine (HQ.out _ bel).mono ?_
   rintro e w1 ⟨rfl, hb1⟩
   have HT1 := hid ((hb1.block w.heap.size (by simp)).trans (heap_at (w := w) (o := .cells #[.int .i64 0, .bool false, .int .i64 0, .string ⟨#[]⟩, .slice none 0 0, .slice none 0 0] 34) rfl))
   have HB1 := hid (bel : Below w.heap.size w w1)
   obtain ⟨x0, x1, x2, x3, x4, x5, xf⟩ := row6 HT1.out
   have l1 := row_lt HT1.out
   clear hb1
   go_wp2_with fail
   refine (c_rs_TextTree _ _).mono ?_
   rintro e w2 ⟨rfl, hb2⟩
   have HT2 := hid ((hb2.block _ l1).trans HT1.out)
   have HB2 := hid (HB1.out.trans (hb2.mono HB1.out.size))
   clear x0 x1 x2 x3 x4 x5 xf hb2
   obtain ⟨x0, x1, x2, x3, x4, x5, xf⟩ := row6 HT2.out
   have l2 := row_lt HT2.out
   go_wp2_with fail
   exact bodyPost_ret (v := .tuple #[.agg #[.int .i64 4, .bool false, .int .i64 0, .string k, .slice none 0 0, .slice none 0 0], .bool true]) (by simp only [results, Tryz.results114]; go_simp) rfl ⟨by rw [HF.out]; rfl, HB2.out.trans (Aside.below (S := fun q => q = w.heap.size) asd HB2.out.size (fun i hi => by omega))⟩
 ·have HQ0 := hid hq
  have hq2 : (decide ((0 : Int) < s.size) = false /\ decide (0 < s.size) = false) ∨ ∃ (b : Nat) (h0 : 0 < s.size), decide ((0 : Int) < s.size) = true /\ (s[0]'h0).toNat = b /\ ((b : Int) == 34) = false := by
   by_cases h0 : 0 < s.size
   ·refine .inr ⟨(s.get! 0).toNat, h0, decide_eq_true (by omega), get_byte s 0 h0, beq_eq_false_iff_ne.2 (fun h => hq ⟨h0, ?_⟩)⟩
    unfold byteI
    have e : (34 : UInt8).toNat = 34 := rfl
    omega
   ·exact .inl ⟨decide_eq_false (by omega), decide_eq_false h0⟩
  clear hq
  have HQ := hid (fun (W : World) (hb : Below w.heap.size w W) => c_spec_ReadWhole s 0 W hs (by omega))
  have HP := hid (fun (W : World) (hb : Below w.heap.size w W) => c_spec_PlainOk s W hs)
  obtain ⟨z, a, hka⟩ : ∃ k a, wholeB s 0 = (k, a) := ⟨_, _, rfl⟩
  rw [hka] at HQ
  have hk1 : (wholeB s 0).1 = z := by rw [hka]
  have hk2 : (wholeB s 0).2 = a := by rw [hka]
  have HK2 := hid (And.intro hk1 hk2)
  clear hka hk1 hk2
  by_cases hw : a = (s.size : Int) /\ 0 < a
  ·have d2 : (a == (s.size : Int)) = true := beq_iff_eq.2 hw.1
   have d3 : decide ((0 : Int) < a) = true := decide_eq_true hw.2
   have HF := hid (HR.out.trans (scal_int HC.out HQ0.out (HK2.out.2.trans hw.1) (by rw [HK2.out.2]; exact hw.2)))
   rw [HK2.out.1] at HF
   clear hw
   rcases hq2 with ⟨h0I, h0N⟩ | ⟨b, h0, h0I, hx, hb⟩
   all_goals
    go_enter Tryz.func114, Tryz.ntmps114
    go_wp2_with fail
    refine (HQ.out _ bel).mono ?_
    rintro e w1 ⟨rfl, hb1⟩
    have HT1 := hid ((hb1.block w.heap.size (by simp)).trans (heap_at (w := w) (o := .cells #[.int .i64 0, .bool false, .int .i64 0, .string ⟨#[]⟩, .slice none 0 0, .slice none 0 0] 34) rfl))
    have HB1 := hid (bel : Below w.heap.size w w1)
    obtain ⟨x0, x1, x2, x3, x4, x5, xf⟩ := row6 HT1.out
    have l1 := row_lt HT1.out
    clear hb1
    go_wp2_with fail
    refine (c_rs_IntTree _ _).mono ?_
    rintro e w2 ⟨rfl, hb2⟩
    have HT2 := hid ((hb2.block _ l1).trans HT1.out)
    have HB2 := hid (HB1.out.trans (hb2.mono HB1.out.size))
    clear x0 x1 x2 x3 x4 x5 xf hb2
    obtain ⟨x0, x1, x2, x3, x4, x5, xf⟩ := row6 HT2.out
    have l2 := row_lt HT2.out
    go_wp2_with fail
    exact bodyPost_ret (v := .tuple #[.agg #[.int .i64 3, .bool false, .int .i64 z, .string ⟨#[]⟩, .slice none 0 0, .slice none 0 0], .bool true]) (by simp only [results, Tryz.results114]; go_simp) rfl ⟨by rw [HF.out]; rfl, HB2.out.trans (Aside.below (S := fun q => q = w.heap.size) asd HB2.out.size (fun i hi => by omega))⟩
  ·have hw2 : (a == (s.size : Int)) = false ∨ ((a == (s.size : Int)) = true /\ decide ((0 : Int) < a) = false) := by
    by_cases e : a = (s.size : Int)
    ·exact .inr ⟨beq_iff_eq.2 e, decide_eq_false (fun h => hw ⟨e, h⟩)⟩
    ·exact .inl (beq_eq_false_iff_ne.2 e)
   have HW := hid (fun h => hw (by rw [<- HK2.out.2]; exact h))
   clear hw
   rcases hpl : plainB s with _ | _
   ·rw [hpl] at HP
    have HF := hid (HR.out.trans (scal_none HC.out HQ0.out HW.out hpl))
    clear hpl
    rcases hw2 with d2 | ⟨d2, d3⟩ <;> rcases hq2 with ⟨h0I, h0N⟩ | ⟨b, h0, h0I, hx, hb⟩
    all_goals
     go_enter Tryz.func114, Tryz.ntmps114
     go_wp2_with fail
     refine (HQ.out _ bel).mono ?_
     rintro e w1 ⟨rfl, hb1⟩
     have HT1 := hid ((hb1.block w.heap.size (by simp)).trans (heap_at (w := w) (o := .cells #[.int .i64 0, .bool false, .int .i64 0, .string ⟨#[]⟩, .slice none 0 0, .slice none 0 0] 34) rfl))
     have HB1 := hid (bel : Below w.heap.size w w1)
     obtain ⟨x0, x1, x2, x3, x4, x5, xf⟩ := row6 HT1.out
     have l1 := row_lt HT1.out
     clear hb1
     go_wp2_with fail
     refine (HP.out _ HB1.out).mono ?_
     rintro e w2 ⟨rfl, hb2⟩
     have HT2 := hid ((hb2.block _ l1).trans HT1.out)
     have HB2 := hid (HB1.out.trans (hb2.mono HB1.out.size))
     clear x0 x1 x2 x3 x4 x5 xf hb2
     obtain ⟨x0, x1, x2, x3, x4, x5, xf⟩ := row6 HT2.out
     have l2 := row_lt HT2.out
     go_wp2_with fail
     exact bodyPost_ret (v := .tuple #[.agg #[.int .i64 0, .bool false, .int .i64 0, .string ⟨#[]⟩, .slice none 0 0, .slice none 0 0], .bool false]) (by simp only [results, Tryz.results114]; go_simp) rfl ⟨by rw [HF.out]; rfl, HB2.out.trans (Aside.below (S := fun q => q = w.heap.size) asd HB2.out.size (fun i hi => by omega))⟩
   ·rw [hpl] at HP
    have HF := hid (HR.out.trans (scal_yes HC.out HQ0.out HW.out hpl))
    clear hpl
    rcases hw2 with d2 | ⟨d2, d3⟩ <;> rcases hq2 with ⟨h0I, h0N⟩ | ⟨b, h0, h0I, hx, hb⟩
    all_goals
     go_enter Tryz.func114, Tryz.ntmps114
     go_wp2_with fail
     refine (HQ.out _ bel).mono ?_
     rintro e w1 ⟨rfl, hb1⟩
     have HT1 := hid ((hb1.block w.heap.size (by simp)).trans (heap_at (w := w) (o := .cells #[.int .i64 0, .bool false, .int .i64 0, .string ⟨#[]⟩, .slice none 0 0, .slice none 0 0] 34) rfl))
     have HB1 := hid (bel : Below w.heap.size w w1)
     obtain ⟨x0, x1, x2, x3, x4, x5, xf⟩ := row6 HT1.out
     have l1 := row_lt HT1.out
     clear hb1
     go_wp2_with fail
     refine (HP.out _ HB1.out).mono ?_
     rintro e w2 ⟨rfl, hb2⟩
     have HT2 := hid ((hb2.block _ l1).trans HT1.out)
     have HB2 := hid (HB1.out.trans (hb2.mono HB1.out.size))
     clear x0 x1 x2 x3 x4 x5 xf hb2
     obtain ⟨x0, x1, x2, x3, x4, x5, xf⟩ := row6 HT2.out
     have l2 := row_lt HT2.out
     go_wp2_with fail
     refine (c_rs_TextTree _ _).mono ?_
     rintro e w3 ⟨rfl, hb3⟩
     have HT3 := hid ((hb3.block _ l2).trans HT2.out)
     have HB3 := hid (HB2.out.trans (hb3.mono HB2.out.size))
     clear x0 x1 x2 x3 x4 x5 xf hb3
     obtain ⟨x0, x1, x2, x3, x4, x5, xf⟩ := row6 HT3.out
     have l3 := row_lt HT3.out
     go_wp2_with fail
     exact bodyPost_ret (v := .tuple #[.agg #[.int .i64 4, .bool false, .int .i64 0, .string s, .slice none 0 0, .slice none 0 0], .bool true]) (by simp only [results, Tryz.results114]; go_simp) rfl ⟨by rw [HF.out]; rfl, HB3.out.trans (Aside.below (S := fun q => q = w.heap.size) asd HB3.out.size (fun i hi => by omega))⟩
end Go.Proofs.YtohcpifekcehjaaGreatDoor
