/- Steps to FnExactIndentedOk and FnExactIndentedNormal and FnExactCrossed. No conditions. -/
import Derived.Test.YtohcpifekcehjaaGreatDoorKind12
import Derived.Test.YtohcpifekcehjaaGreatDoorKind8
import Derived.Test.YtohcpifekcehjaaGreatDoorKind7
import Derived.Test.YtohcpifekcehjaaGreatDoorKind5
import Derived.Test.YtohcpifekcehjaaGreatDoorKind1
import Derived.Deep.RegionLaw
import Derived.Test.YtohcpifekcehjaaGreatDoorKind2
set_option maxHeartbeats 16000000
set_option maxRecDepth 20000
namespace Go.Proofs.YtohcpifekcehjaaGreatDoor
open Go.RowKit Go.Lib
theorem map_bad {ty : TypeId} {b g N cap nT : Nat} {w wx wF : World} {r : ResI} {L : List LineD} {m : Nat} {f : Flt} {A A' : Option Addr} {n c n' c' : Nat}
  (hb : b < w.heap.size) (hg : g < w.heap.size) (hL : LBoxI b g 6 w wx (.slice A n c) (.slice A' n' c')) (hR : InAt ty b g N cap L m f wx) (hok : InOk L) (h1 : f.code ≠ 0) (h2 : r = .bad f) (hF : Aside (fun q => q = w.heap.size) wx wF) :
  OutI ty b g N cap (nT + 1) r w (.returned (.agg #[.int .i64 6, .bool false, .int .i64 0, .string ⟨#[]⟩, .slice A n c, .slice A' n' c'])) wF := by
 subst h2
 exact ⟨_, L, m, f, rfl, ⟨_, _, _, _, _, _, _, _, _, _, rfl⟩, hR.past hF (fun q => by omega) (fun q => by omega), hok, Aside.low2 (hL.aside.join hF (fun q hq _ => .inr (.inr (by omega)))), rfl, h1⟩
theorem map_good {ty : TypeId} {b g N cap nT : Nat} {w wx wF : World} {r : ResI} {L : List LineD} {m : Nat} {A A' : Option Addr} {n c n' c' : Nat} {ks : List ByteArray} {acc : List TreeD} {ess : List (List Value)} {F : Nat -> Nat -> Prop}
  (hb : b < w.heap.size) (hg : g < w.heap.size) (hL : LBoxI b g 6 w wx (.slice A n c) (.slice A' n' c')) (hM : MapG nT (w.heap.size + 2) wx.heap.size wx ks acc (.slice A n c) (.slice A' n' c') ess F) (hR : InAt ty b g N cap L m flt0 wx) (hok : InOk L) (h2 : r = .good (tMap ks acc) L m) (hF : Aside (fun q => q = w.heap.size) wx wF) :
  OutI ty b g N cap (nT + 1) r w (.returned (.agg #[.int .i64 6, .bool false, .int .i64 0, .string ⟨#[]⟩, .slice A n c, .slice A' n' c'])) wF := by
 subst h2
 exact ⟨_, L, m, flt0, rfl, ⟨_, _, _, _, _, _, _, _, _, _, rfl⟩, hR.past hF (fun q => by omega) (fun q => by omega), hok, Aside.low2 (hL.aside.join hF (fun q hq _ => .inr (.inr (by omega)))), rfl, rfl, rfl,
  hM.tree (fun q h1 h2 => hF.block q h2 (by omega)) (fun q h1 h2 => ⟨by omega, Nat.lt_of_lt_of_le h2 hF.size⟩)⟩
def PairsI (ty : TypeId) (b g N cap i n d nT : Nat) (r : ResI) (w wx : World) : Prop :=
 ∃ (KA : Option Addr) (kn kc : Nat) (VA : Option Addr) (vn vc : Nat) (L : List LineD) (m : Nat) (f : Flt), LBoxI b g 6 w wx (.slice KA kn kc) (.slice VA vn vc) /\ InAt ty b g N cap L m f wx /\ InOk L /\
  ((∃ (ks : List ByteArray) (acc : List TreeD) (ess : List (List Value)) (F : Nat -> Nat -> Prop) (k : Nat), MapG nT (w.heap.size + 2) wx.heap.size wx ks acc (.slice KA kn kc) (.slice VA vn vc) ess F /\ f = flt0 /\ m <= 300 /\ ks.length <= m /\ acc.length = ks.length /\ SortK ks /\ needI (.pairs i d ks acc) L <= k /\ k <= n /\ r = readK k (.pairs i d ks acc) L m) ∨
   (f.code ≠ 0 /\ r = .bad f))
theorem keyV_form (o : Option (ByteArray × ByteArray)) : ∃ a c q, keyV o = .tuple #[.string a, .string c, .bool q] /\ q = o.isSome /\ ∀ k r, o = some (k, r) -> a = k /\ c = r := by
 rcases o with _ | ⟨k, r⟩
 ·exact ⟨_, _, _, rfl, rfl, fun _ _ h => by cases h⟩
 ·exact ⟨_, _, _, rfl, rfl, fun _ _ h => by cases h; exact ⟨rfl, rfl⟩⟩
theorem itemV_form (o : Option (ByteArray × Nat)) : ∃ (a : ByteArray) (c : Nat) (q : Bool), itemV o = .tuple #[.string a, .int .i64 c, .bool q] /\ q = o.isSome := by
 rcases o with _ | ⟨k, r⟩
 ·exact ⟨_, 0, _, rfl, rfl⟩
 ·exact ⟨_, _, _, rfl, rfl⟩
theorem key_le {s key rest : ByteArray} (h : keyB s = some (key, rest)) (hs : s.size <= 20000) : key.size <= 1048576 /\ rest.size <= 20000 := by
 unfold keyB at h
 by_cases c1 : 0 < s.size /\ byteI s 0 = 34
 ·rw [if_pos c1] at h
  by_cases c2 : 0 <= (quotB s 0).2 /\ endsB s (quotB s 0).2.toNat = true
  ·rw [if_pos c2] at h
   cases h
   refine ⟨?_, by have := tail_le s ((quotB s 0).2.toNat + 1); omega⟩
   unfold quotB
   rw [if_pos c1.1, if_pos c1.2]
   have := quotR_size s (s.size - (0 + 1)) (0 + 1) []
   unfold quotG
   simp at this ⊢
   omega
  ·rw [if_neg c2] at h; cases h
 ·rw [if_neg c1] at h
  rcases hf : findE s s.size 0 with _ | i
  ·rw [hf] at h; cases h
  ·rw [hf] at h
   simp only at h
   by_cases c3 : plainB (bs (s.data.toList.take i)) = true
   ·rw [if_pos c3] at h
    cases h
    refine ⟨?_, by have := tail_le s (i + 1); omega⟩
    rw [bs_len, List.length_take, list_size]
    omega
   ·rw [if_neg c3] at h; cases h
theorem found_at {ks : List ByteArray} {key : ByteArray} (hso : SortK ks) : decide (posK ks key < ks.length /\ (ks[posK ks key]?).getD key = key) = ks.contains key := by
 rw [Bool.eq_iff_iff, decide_eq_true_eq, contains_hasS, hasS_mem]
 constructor
 ·rintro ⟨h1, h2⟩
  obtain ⟨a, ha⟩ := exists_at h1
  rw [ha] at h2
  exact h2 ▸ List.mem_of_getElem? ha
 ·intro hm
  obtain ⟨j, hj⟩ := List.getElem?_of_mem hm
  have hjl := (List.getElem?_eq_some_iff.1 hj).1
  have hle := posK_le ks key
  have h1 : ¬ j < posK ks key := fun h => by
   have := posK_less h hj
   unfold lessS at this
   rw [bless_self] at this
   cases this
  have h2 : posK ks key = j := by
   rcases Nat.lt_or_ge (posK ks key) j with h | h
   ·exfalso
    obtain ⟨a, ha⟩ := exists_at (l := ks) (k := posK ks key) (by omega)
    have h3 := posK_not hso (Nat.le_refl _) ha
    have h4 : lessS a key = true := by
     have := List.pairwise_iff_getElem.1 hso (posK ks key) j (by omega) hjl h
     rw [(List.getElem?_eq_some_iff.1 ha).2, (List.getElem?_eq_some_iff.1 hj).2] at this
     exact this
    rw [h4] at h3
    cases h3
   ·omega
  rw [h2, hj]
  exact ⟨hjl, rfl⟩
theorem c_BinarySearch2 (ks : List ByteArray) (key : ByteArray) (v : Value) (w : World) (lo : Nat) (hs : Sl_Str lo w.heap.size w ks v) (hso : SortK ks) (hn : ks.length <= 1048577) :
  Calls Tryz.prog 183 #[v, .string key] w fun e w' => e = .returned (.tuple #[.int .i64 (posK ks key : Nat), .bool (ks.contains key)]) /\ Below w.heap.size w w' := by
 obtain ⟨A, c, rfl, hlc, hcc, hA⟩ := hs
 by_cases hp : 0 < ks.length
 ·obtain ⟨b, o, rfl, -, -, hcell⟩ := hA hp
  have h := Any2.slices_BinarySearch_string laysBs b o ks.length c (fun t => (ks[t]?).getD key) key w (by omega) (fun j hj => by
   obtain ⟨d, hd⟩ := exists_at hj
   obtain ⟨es, -, hcs, rfl, -⟩ := hcell j d hd
   have h0 := hcs 0 (by omega)
   simp at h0
   rw [hd]
   exact h0)
  change Calls Tryz.prog 183 _ _ _ at h
  refine h.mono ?_
  rintro e w' ⟨rfl, q, rfl⟩
  have hb := Lib.bsGo_spec (fun t => Op.bytesLess ((ks[t]?).getD key).toList key.toList) (posK ks key) (fun t ht => by
    have hl := posK_le ks key
    obtain ⟨d, hd⟩ := exists_at (l := ks) (k := t) (by omega)
    simp only [hd, Option.getD_some]
    exact posK_less ht hd) (fun t ht => by
    rcases hd : ks[t]? with _ | d
    ·simp only [Option.getD_none]
     exact bless_self _
    ·simp only [Option.getD_some]
     exact posK_not hso ht hd) ks.length 0 ks.length (by omega) (Nat.zero_le _) (posK_le _ _)
  rw [hb]
  refine ⟨?_, below_drewN (Below.refl _ _) _⟩
  rw [<- found_at hso]
 ·obtain rfl : ks = [] := List.eq_nil_of_length_eq_zero (by omega)
  have h := Any2.slices_BinarySearch_string_empty laysBs A c key w
  change Calls Tryz.prog 183 _ _ _ at h
  refine h.mono ?_
  rintro e w' ⟨rfl, rfl⟩
  exact ⟨rfl, Below.refl _ _⟩
theorem empty_size (s : ByteArray) : s.toList.isEmpty = decide (s.size = 0) := by
 rw [ByteArray.toList_eq, <- list_size]
 cases s.data.toList <;> simp
theorem set6_st {w : World} {b : Nat} {a0 a1 a2 a3 a4 a5 v0 v1 v2 v3 v4 v5 : Value} {e : TypeId} (h : w.heap[b]? = some (.cells #[a0, a1, a2, a3, a4, a5] e (0, 0))) :
  ((((((w.setCell ⟨b, 0, none⟩ v0).setCell ⟨b, 1, none⟩ v1).setCell ⟨b, 2, none⟩ v2).setCell ⟨b, 3, none⟩ v3).setCell ⟨b, 4, none⟩ v4).setCell ⟨b, 5, none⟩ v5).heap[b]? = some (.cells #[v0, v1, v2, v3, v4, v5] e (0, 0)) :=
 heap_setCell_same _ b 5 _ _ _ (heap_setCell_same _ b 4 _ _ _ (heap_setCell_same _ b 3 _ _ _ (heap_setCell_same _ b 2 _ _ _ (heap_setCell_same _ b 1 _ _ _ (heap_setCell_same w b 0 _ _ _ h)))))
theorem InAt.len {ty : TypeId} {b g N cap : Nat} {L : List LineD} {m : Nat} {f : Flt} {w : World} (h : InAt ty b g N cap L m f w) : L.length <= N := by
 obtain ⟨p, hb⟩ := h.open
 have := hb.pos
 omega
def KidM (nT : Nat) (res : ResI) (w7 wx : World) (es : List Value) (L' : List LineD) (m' : Nat) (f' : Flt) : Prop := match res with
  | .bad f => f' = f /\ f.code ≠ 0
  | .good t L m => f' = flt0 /\ L' = L /\ m' = m /\ OwnT nT (fun x => w7.heap.size <= x /\ x < wx.heap.size) wx t es
def KidAt (ty : TypeId) (b g N cap nT kb : Nat) (w7 : World) (res : ResI) (wx : World) : Prop :=
 ∃ (u0 : Int) (u1 : Bool) (u2 : Int) (u3 : ByteArray) (U4 : Option Addr) (u4 u44 : Nat) (U5 : Option Addr) (u5 u55 : Nat) (L' : List LineD) (m' : Nat) (f' : Flt),
  wx.heap[kb]? = some (.cells #[.int .i64 u0, .bool u1, .int .i64 u2, .string u3, .slice U4 u4 u44, .slice U5 u5 u55] 34 (0, 0)) /\
  Aside (fun q => q = b ∨ q = g ∨ q = kb) w7 wx /\ InAt ty b g N cap L' m' f' wx /\ InOk L' /\ L'.length <= N /\ KidM nT res w7 wx [.int .i64 u0, .bool u1, .int .i64 u2, .string u3, .slice U4 u4 u44, .slice U5 u5 u55] L' m' f'
theorem kid_good {nU nT kb : Nat} {res res' : ResI} {w7 w9 wx : World} {es : List Value} {L' : List LineD} {m' : Nat} {f' : Flt} (he : res = res') (h : KidM nU res' w7 w9 es L' m' f') (hn : nU <= nT) (hF : Aside (fun q => q = kb) w9 wx) (hk : ∀ x, w7.heap.size <= x -> x < w9.heap.size -> x ≠ kb) : KidM nT res w7 wx es L' m' f' := by
 subst he
 unfold KidM at h ⊢
 cases res with
 | bad f => exact h
 | good t L m => exact ⟨h.1, h.2.1, h.2.2.1, (h.2.2.2.up hn).carry (fun x hx => hF.block x hx.2 (hk x hx.1 hx.2)) (fun x hx => ⟨hx.1, Nat.lt_of_lt_of_le hx.2 hF.size⟩)⟩
theorem kid_line {nT d m a : Nat} {res : ResI} {w7 wx : World} {es : List Value} {s : ByteArray} {t L' : List LineD} {m' : Nat} {f' : Flt} (he : res = (match beginF d m a with
      | some f => .bad f
      | none => match scalB s with
       | none => .bad (fltA 4 a)
       | some u => .good u t (m + 1))) (hsc : scA s = es) (h1 : L' = t) (h2 : m' = m + 1) (h3 : f' = scF (beginX d m a) s a) : KidM (nT + 1) res w7 wx es L' m' f' := by
 subst he h1 h2 h3 hsc
 rcases begin_or d m a with ⟨e1, e2⟩ | ⟨f, e1, e2, e3⟩
 ·rw [e1, e2]
  simp only
  unfold scF scA KidM
  rcases hs : scalB s with _ | u
  ·exact ⟨if_pos rfl, by show (4 : Int) ≠ 0; decide⟩
  ·exact ⟨rfl, rfl, rfl, (scal_own hs).2⟩
 ·rw [e1, e2]
  unfold scF KidM
  rcases hs : scalB s with _ | u
  ·exact ⟨if_neg e3, e3⟩
  ·exact ⟨rfl, e3⟩
theorem kid_lineP {nT d m a : Nat} {res : ResI} {w7 wx : World} {es : List Value} {s : ByteArray} {t L' : List LineD} {m' : Nat} {f' : Flt} (hn : 0 < nT) (he : res = (match beginF d m a with
      | some f => .bad f
      | none => match scalB s with
       | none => .bad (fltA 4 a)
       | some u => .good u t (m + 1))) (hsc : scA s = es) (h1 : L' = t) (h2 : m' = m + 1) (h3 : f' = scF (beginX d m a) s a) : KidM nT res w7 wx es L' m' f' := by
 obtain ⟨k, rfl⟩ : ∃ k, nT = k + 1 := ⟨nT - 1, by omega⟩
 exact kid_line he hsc h1 h2 h3
theorem LBoxI.set4 {b g : Nat} {kind : Int} {w wx : World} {vk vl u : Value} (h : LBoxI b g kind w wx vk vl) : LBoxI b g kind w (wx.setCell ⟨w.heap.size + 1, 4, none⟩ u) u vl :=
 ⟨(Below.heap_setCell _ _ _ _ (by simp)).trans h.zero, heap_setCell_same wx (w.heap.size + 1) 4 _ _ u h.list, aside_set (.inr (.inr (by simp))) h.aside⟩
theorem LBoxI.set5 {b g : Nat} {kind : Int} {w wx : World} {vk vl u : Value} (h : LBoxI b g kind w wx vk vl) : LBoxI b g kind w (wx.setCell ⟨w.heap.size + 1, 5, none⟩ u) vk u :=
 ⟨(Below.heap_setCell _ _ _ _ (by simp)).trans h.zero, heap_setCell_same wx (w.heap.size + 1) 5 _ _ u h.list, aside_set (.inr (.inr (by simp))) h.aside⟩
theorem pair_grow {n i d m m' : Nat} {x : LineD} {r L' : List LineD} {rest : ByteArray} {t : TreeD} (h : pairJ n i d x r rest m = .good t L' m') (hm : m <= 300) (hd : d <= 8) : m + 1 <= m' /\ m' <= 300 := by
 unfold pairJ at h
 by_cases c : rest.size = 0
 ·rw [if_pos c] at h
  exact readK_growB h hm (by omega)
 ·rw [if_neg c] at h
  rcases hb : beginF (d + 1) m x.at' with _ | f
  ·rw [hb] at h
   simp only at h
   have := (begin_none hb).2
   rcases hs : scalB rest with _ | v
   ·rw [hs] at h; cases h
   ·rw [hs] at h
    cases h
    omega
  ·rw [hb] at h; cases h
theorem pair_less {n i d m m' : Nat} {x : LineD} {r L' : List LineD} {rest : ByteArray} {t : TreeD} (h : pairJ n i d x r rest m = .good t L' m') : costL L' <= costL r := by
 unfold pairJ at h
 by_cases c : rest.size = 0
 ·rw [if_pos c] at h
  exact (readK_less _ _ _ _ _ _ _ h).1
 ·rw [if_neg c] at h
  rcases hb : beginF (d + 1) m x.at' with _ | f
  ·rw [hb] at h
   simp only at h
   rcases hs : scalB rest with _ | v
   ·rw [hs] at h; cases h
   ·rw [hs] at h
    cases h
    omega
  ·rw [hb] at h; cases h
theorem pair_len {n i d m m' : Nat} {x : LineD} {r L' : List LineD} {rest : ByteArray} {t : TreeD} (h : pairJ n i d x r rest m = .good t L' m') : L'.length <= r.length := by
 unfold pairJ at h
 by_cases c : rest.size = 0
 ·rw [if_pos c] at h
  exact readK_len_le h
 ·rw [if_neg c] at h
  rcases hb : beginF (d + 1) m x.at' with _ | f
  ·rw [hb] at h
   simp only at h
   rcases hs : scalB rest with _ | v
   ·rw [hs] at h; cases h
   ·rw [hs] at h
    cases h
    omega
  ·rw [hb] at h; cases h
theorem of_inPairs (w0 : World) (b g N cap n : Nat) (h0 : In0 w0 b g) (hbl : ∀ k, k < n -> T_bI w0 b g N cap k) : T_pI w0 b g N cap n := by
 intro i d L0 m0 w hd1 hd8 hm0 hok0 hn hw h
 have HRd := hid h
 have Hbl := hid hbl
 have HW := hid hw
 have H0 := hid h0
 have hlb := h.lt.1
 have hlg := h.lt.2
 obtain ⟨nT, hnT⟩ : ∃ k, 10 - d = k + 1 := ⟨9 - d, by omega⟩
 have HNT := hid (show 10 - (d + 1) = nT by omega)
 have hnT1 : 0 < nT := by omega
 obtain ⟨r, hr⟩ : ∃ r, r = readK n (.pairs i d [] []) L0 m0 := ⟨_, rfl⟩
 rw [<- hr, hnT]
 have HR := hid hr
 have HOk0 := hid hok0
 have HN := hid hn
 clear hr h hbl hw h0 hnT hok0 hn
 go_enter Tryz.func104, Tryz.ntmps104
 go_wp2_with fail
 go_loopw [] (fun wr => PairsI 61 b g N cap i n d nT r w wr) (fun wr => inM N b wr)
 case atStart =>
  refine ⟨none, 0, 0, none, 0, 0, L0, m0, flt0, ⟨?_, ?_, Aside.of_below bel⟩, HRd.out.below bel, HOk0.out, .inl ⟨[], [], [], _, n, MapG.nil _ _ _ _, rfl, hm0, Nat.zero_le _, rfl, List.Pairwise.nil, HN.out, Nat.le_refl _, HR.out⟩⟩
  ·exact (Below.heap_alloc _ _ _ (by simp)).trans (heap_at (by simp))
  ·exact heap_at (by simp)
 case round =>
  obtain ⟨KA, kn, kc, VA, vn, vc, L, m, f, hLb, hRr, hok, hst⟩ := hrel
  have HLb := hid hLb
  have HRr := hid hRr
  have HOk := hid hok
  have HWr := hid (H0.out.keepW HW.out hLb.aside)
  clear hok hLb hRr
  rcases hst with ⟨ks, acc, ess, F, k, hM, rfl, hm, hksm, hal, hso, hk1, hkn, hrr⟩ | ⟨hf, hrr⟩
  rotate_left
  ·have HQ : Hid (hereB f L i = false) := hid (by unfold hereB; rw [decide_eq_false hf]; rfl)
   have HF := hid (And.intro hf hrr)
   clear hf hrr
   go_wp2_with fail
   refine (c_in_here b g N cap L m i f wr HRr.out).mono ?_
   rintro e w1 ⟨rfl, hb1⟩
   rw [HQ.out]
   have HLb1 := hid (HLb.out.same (Aside.of_below (S := fun q => q = b) hb1) (fun q hq => .inl hq) hlb hlg)
   have HR1 := hid (HRr.out.below hb1)
   have HB1 := hid hb1
   clear hb1
   obtain ⟨x0, x1, x2, x3, x4, x5, xf⟩ := row6 HLb1.out.zero
   obtain ⟨y0, y1, y2, y3, y4, y5, yf⟩ := row6 HLb1.out.list
   have l0 := row_lt HLb1.out.zero
   have l1 := row_lt HLb1.out.list
   go_wp2_with fail
   exact bodyPost_ret (v := .agg #[.int .i64 6, .bool false, .int .i64 0, .string ⟨#[]⟩, .slice KA kn kc, .slice VA vn vc]) (by simp only [results, Tryz.results104]; go_simp) rfl (map_bad hlb hlg HLb1.out HR1.out HOk.out HF.out.1 HF.out.2 asd)
  have HM := hid hM
  have HJ := hid hrr
  have HNk := hid hk1
  have HSo := hid hso
  have HAL := hid hal
  have hkn2 : kn = ks.length := by
   obtain ⟨A, c, e⟩ := own_form hM.keys
   cases e
   rfl
  have hvn2 : vn = acc.length := by
   obtain ⟨A, c, e⟩ := own_form hM.kids
   cases e
   rfl
  subst hkn2 hvn2
  clear hM hrr hk1 hso hal
  rcases L with _ | ⟨x, t⟩
  ·have HQ : Hid (hereB flt0 [] i = false) := hid rfl
   have HF : Hid (r = .good (tMap ks acc) [] m) := hid (by
    have h1 := HNk.out
    obtain ⟨k1, rfl⟩ : ∃ k1, k = k1 + 1 := ⟨k - 1, by unfold needI at h1; simp only at h1; omega⟩
    rw [HJ.out, readK_pairs_nil])
   go_wp2_with fail
   refine (c_in_here b g N cap [] m i flt0 wr HRr.out).mono ?_
   rintro e w1 ⟨rfl, hb1⟩
   rw [HQ.out]
   have HLb1 := hid (HLb.out.same (Aside.of_below (S := fun q => q = b) hb1) (fun q hq => .inl hq) hlb hlg)
   have HR1 := hid (HRr.out.below hb1)
   have HB1 := hid hb1
   have HM1 := hid (HM.out.carry hb1.size (fun q _ h2 => hb1.block q h2))
   clear hb1
   obtain ⟨x0, x1, x2, x3, x4, x5, xf⟩ := row6 HLb1.out.zero
   obtain ⟨y0, y1, y2, y3, y4, y5, yf⟩ := row6 HLb1.out.list
   have l0 := row_lt HLb1.out.zero
   have l1 := row_lt HLb1.out.list
   go_wp2_with fail
   exact bodyPost_ret (v := .agg #[.int .i64 6, .bool false, .int .i64 0, .string ⟨#[]⟩, .slice KA ks.length kc, .slice VA acc.length vc]) (by simp only [results, Tryz.results104]; go_simp) rfl (map_good hlb hlg HLb1.out HM1.out HR1.out HOk.out HF.out asd)
  obtain ⟨k1, hk1⟩ : ∃ k1, k = k1 + 1 := ⟨k - 1, by have h1 := HNk.out; unfold needI at h1; simp only at h1; omega⟩
  by_cases hxi : x.ind = i
  rotate_left
  ·have HQ : Hid (hereB flt0 (x :: t) i = false) := hid (by show (decide (flt0.code = 0) && decide (x.ind = i)) = false; rw [decide_eq_false hxi]; rfl)
   have HF : Hid (r = .good (tMap ks acc) (x :: t) m) := hid (by rw [HJ.out, hk1, readK_pairs, if_pos (.inl hxi)])
   clear hk1 hxi
   go_wp2_with fail
   refine (c_in_here b g N cap (x :: t) m i flt0 wr HRr.out).mono ?_
   rintro e w1 ⟨rfl, hb1⟩
   rw [HQ.out]
   have HLb1 := hid (HLb.out.same (Aside.of_below (S := fun q => q = b) hb1) (fun q hq => .inl hq) hlb hlg)
   have HR1 := hid (HRr.out.below hb1)
   have HB1 := hid hb1
   have HM1 := hid (HM.out.carry hb1.size (fun q _ h2 => hb1.block q h2))
   clear hb1
   obtain ⟨x0, x1, x2, x3, x4, x5, xf⟩ := row6 HLb1.out.zero
   obtain ⟨y0, y1, y2, y3, y4, y5, yf⟩ := row6 HLb1.out.list
   have l0 := row_lt HLb1.out.zero
   have l1 := row_lt HLb1.out.list
   go_wp2_with fail
   exact bodyPost_ret (v := .agg #[.int .i64 6, .bool false, .int .i64 0, .string ⟨#[]⟩, .slice KA ks.length kc, .slice VA acc.length vc]) (by simp only [results, Tryz.results104]; go_simp) rfl (map_good hlb hlg HLb1.out HM1.out HR1.out HOk.out HF.out asd)
  have HQ : Hid (hereB flt0 (x :: t) i = true) := hid (by show (decide (flt0.code = 0) && decide (x.ind = i)) = true; rw [decide_eq_true hxi]; rfl)
  have hj2 : r = (if (itemB x.text).isSome = true then .good (tMap ks acc) (x :: t) m else match keyB x.text with
   | none => .good (tMap ks acc) (x :: t) m
   | some (key, rest) =>
    if 400 < key.size then .bad (fltA 8 x.at')
    else if ks.contains key then .bad (fltA 5 x.at')
    else match pairJ k1 i d x t rest m with
     | .bad f => .bad f
     | .good u L' m' => readK k1 (.pairs i d (insL ks (posK ks key) key) (insL acc (posK ks key) u)) L' m') := by
   rw [HJ.out, hk1, readK_pairs]
   by_cases c : (itemB x.text).isSome = true
   ·rw [if_pos (.inr c), if_pos c]
   ·rw [if_neg (fun e => e.elim (fun e => e hxi) c), if_neg c]
    rfl
  have hxo := HOk.out.head
  have hxz : x.text.size <= 20000 := by have := hxo.1; omega
  have hkk1 : k1 < n := by omega
  have HXI := hid hxi
  have HXO := hid hxo
  have hne := HNk.out
  rw [hk1] at hne
  have HNe := hid hne
  have HX := hid hj2
  clear hj2 hk1 hxi hxo HJ HNk hne
  go_wp2_with fail
  refine (c_in_here b g N cap (x :: t) m i flt0 wr HRr.out).mono ?_
  rintro e w1 ⟨rfl, hb1⟩
  rw [HQ.out]
  have HLb1 := hid (HLb.out.same (Aside.of_below (S := fun q => q = b) hb1) (fun q hq => .inl hq) hlb hlg)
  have HR1 := hid (HRr.out.below hb1)
  have HB1 := hid hb1
  have HM1 := hid (HM.out.carry hb1.size (fun q _ h2 => hb1.block q h2))
  clear hb1
  obtain ⟨p, hbx⟩ := HR1.out.open
  obtain ⟨a0, a1, a2, a3, a4, a5, af⟩ := row6 hbx.row
  have lb := row_lt hbx.row
  obtain ⟨c0, c1, c2, cf⟩ := hbx.line x t rfl
  have lg := hbx.lines
  have hpN : (p : Int) < N := by have := hbx.pos; rw [List.length_cons] at this; omega
  have hp0 : (0 : Int) <= p := by omega
  have hcap := hbx.cap'
  have hgb := hbx.ne
  have hN2 := hbx.small
  have HPos := hid hbx.pos
  obtain ⟨xi, xt, xa⟩ := x
  simp only at c0 c1 c2 hxz
  clear hbx
  have hl1 := row_lt HLb1.out.list
  go_upto_region 3 with fail
  go_cut [8] from 22 to 31 (fun s8 wx => s8 = .pointer (some ⟨w1.heap.size, 0, none⟩) /\ wx.heap[w1.heap.size]? = some (.cells #[.int .i64 (xi : Nat), .string xt, .int .i64 (xa : Nat)] 59 (0, 0)) /\ Below w1.heap.size w1 wx)
  case first =>
   go_region_law (fail)
   all_goals
    (try go_wp2_with fail)
    go_meet
    exact ⟨rfl, by rw [drew_heap]; exact heap_at (by simp), bel⟩
  case rest =>
   obtain ⟨rfl, hx1, hb2⟩ := hcut
   have HX2 := hid hx1
   have HLb2 := hid (HLb1.out.same (Aside.of_below (S := fun q => q = b) hb2) (fun q hq => .inl hq) hlb hlg)
   have HM2 := hid (HM1.out.carry hb2.size (fun q _ h2 => hb2.block q h2))
   have HR2 := hid (HR1.out.below hb2)
   have HB2 := hid (HB1.out.trans (hb2.mono HB1.out.size))
   have HW2 := hid (HWr.out.trans (HB2.out.mono HWr.out.size))
   have lx2 := row_lt hx1
   have hs12 := hb2.size
   clear hx1 hb2 a0 a1 a2 a3 a4 a5 af c0 c1 c2 cf lb lg hl1
   obtain ⟨v0, v1, v2, vf⟩ := row3 HX2.out
   obtain ⟨ka, kb, kq, hkv, hkq, hks⟩ := keyV_form (keyB xt)
   obtain ⟨ia, ib, iq, hiv, hiq⟩ := itemV_form (itemB xt)
   have HKy := hid (show Calls Tryz.prog 103 #[.string xt] wc fun e w' => e = .returned (.tuple #[.string ka, .string kb, .bool kq]) /\ Below wc.heap.size wc w' by
    have h := c_impl_KeyOf xt wc (by omega) (H0.out.cas.below HW2.out) (H0.out.tab.below HW2.out)
    rw [hkv] at h
    exact h)
   have HIt := hid (show ∀ W, Calls Tryz.prog 101 #[.string xt] W fun e w' => e = .returned (.tuple #[.string ia, .int .i64 ib, .bool iq]) /\ W = w' from fun W => by
    have h := c_impl_ItemOf xt W (by omega)
    rw [hiv] at h
    exact h)
   have HKS := hid hks
   have HKQ := hid hkq
   have HIQ := hid hiq
   clear hkv hkq hks hiv hiq
   go_wp2_with fail
   refine HKy.out.mono ?_
   rintro e w3 ⟨rfl, hb3⟩
   have HLb3 := hid (HLb2.out.same (Aside.of_below (S := fun q => q = b) hb3) (fun q hq => .inl hq) hlb hlg)
   have HM3 := hid (HM2.out.carry hb3.size (fun q _ h2 => hb3.block q h2))
   have HR3 := hid (HR2.out.below hb3)
   have HX3 := hid ((hb3.block _ lx2).trans HX2.out)
   have HB3 := hid (HB2.out.trans (hb3.mono HB2.out.size))
   have lx3 := row_lt HX3.out
   have hs23 := hb3.size
   clear hb3 v0 v1 v2 vf
   obtain ⟨v0, v1, v2, vf⟩ := row3 HX3.out
   go_wp2_with fail
   refine (HIt.out w3).mono ?_
   rintro e w4 ⟨rfl, rfl⟩
   have hstop : (kq = false ∨ iq = true) -> r = .good (tMap ks acc) (⟨xi, xt, xa⟩ :: t) m := fun hh => by
    rw [HX.out]
    by_cases c : (itemB xt).isSome = true
    ·rw [if_pos c]
    ·rw [if_neg c]
     have hk0 : kq = false := hh.elim id (fun h => absurd (HIQ.out ▸ h) c)
     rw [HKQ.out] at hk0
     cases hk : keyB xt with
     | none => rfl
     | some _ => rw [hk] at hk0; cases hk0
   have HStop := hid hstop
   clear hstop
   rcases kq with _ | _
   ·have HF := hid (HStop.out (.inl rfl))
    obtain ⟨x0, x1, x2, x3, x4, x5, xf⟩ := row6 HLb3.out.zero
    obtain ⟨y0, y1, y2, y3, y4, y5, yf⟩ := row6 HLb3.out.list
    have l0 := row_lt HLb3.out.zero
    have l1 := row_lt HLb3.out.list
    go_wp2_with fail
    exact bodyPost_ret (v := .agg #[.int .i64 6, .bool false, .int .i64 0, .string ⟨#[]⟩, .slice KA ks.length kc, .slice VA acc.length vc]) (by simp only [results, Tryz.results104]; go_simp) rfl (map_good hlb hlg HLb3.out HM3.out HR3.out HOk.out HF.out asd)
   rcases iq with _ | _
   rotate_left
   ·have HF := hid (HStop.out (.inr rfl))
    obtain ⟨x0, x1, x2, x3, x4, x5, xf⟩ := row6 HLb3.out.zero
    obtain ⟨y0, y1, y2, y3, y4, y5, yf⟩ := row6 HLb3.out.list
    have l0 := row_lt HLb3.out.zero
    have l1 := row_lt HLb3.out.list
    go_wp2_with fail
    exact bodyPost_ret (v := .agg #[.int .i64 6, .bool false, .int .i64 0, .string ⟨#[]⟩, .slice KA ks.length kc, .slice VA acc.length vc]) (by simp only [results, Tryz.results104]; go_simp) rfl (map_good hlb hlg HLb3.out HM3.out HR3.out HOk.out HF.out asd)
   obtain ⟨rest, hkr⟩ : ∃ rest, keyB xt = some (ka, rest) /\ kb = rest := by
    have h := HKQ.out
    cases hk : keyB xt with
    | none => rw [hk] at h; cases h
    | some kr => exact ⟨kr.2, by rw [(HKS.out kr.1 kr.2 hk).1], (HKS.out kr.1 kr.2 hk).2⟩
   obtain ⟨hkr, rfl⟩ := hkr
   have hx3 : r = (if 400 < ka.size then .bad (fltA 8 xa)
    else if ks.contains ka then .bad (fltA 5 xa)
    else match pairJ k1 i d ⟨xi, xt, xa⟩ t kb m with
     | .bad f => .bad f
     | .good u L' m' => readK k1 (.pairs i d (insL ks (posK ks ka) ka) (insL acc (posK ks ka) u)) L' m') := by
    rw [HX.out, if_neg (fun c => by rw [<- HIQ.out] at c; cases c), hkr]
   have HX4 := hid hx3
   have hkz := key_le hkr hxz
   obtain ⟨hkz1, hkz2⟩ := hkz
   have HKr := hid hkr
   clear hx3 hkr HX HStop HKS HKQ HIQ HKy HIt
   by_cases hwide : (400 : Int) < ka.size
   ·have d4 : decide ((400 : Int) < ka.size) = true := decide_eq_true hwide
    have HF := hid (show r = .bad (fltA 8 xa) by rw [HX4.out, if_pos (by omega)])
    go_wp2_with fail
    refine (c_in_fail b g N cap _ m flt0 8 xa w3 HR3.out).mono ?_
    rintro e w4 ⟨rfl, hR4, hA4⟩
    have HR4 := hid (show InAt 61 b g N cap (⟨xi, xt, xa⟩ :: t) m (fltA 8 xa) w4 from hR4)
    have HLb4 := hid (HLb3.out.same hA4 (fun q hq => .inl hq) hlb hlg)
    have HM4 := hid (HM3.out.carry hA4.size (fun q h1 h2 => hA4.block q h2 (by omega)))
    have HX4' := hid ((hA4.block _ lx3 (by have := HLb1.out.list; have := row_lt this; omega)).trans HX3.out)
    have hs34 := hA4.size
    clear hR4 hA4 v0 v1 v2 vf
    obtain ⟨v0, v1, v2, vf⟩ := row3 HX4'.out
    have lx4 := row_lt HX4'.out
    obtain ⟨y0, y1, y2, y3, y4, y5, yf⟩ := row6 HLb4.out.list
    have ly4 := row_lt HLb4.out.list
    go_wp2_with fail
    refine (c_BinarySearch2 ks ka _ _ (w.heap.size + 2) (own_strs HM4.out.keys HM4.out.size) HSo.out (by omega)).mono ?_
    rintro e w5 ⟨rfl, hb5⟩
    have HLb5 := hid (HLb4.out.same (Aside.of_below (S := fun q => q = b) hb5) (fun q hq => .inl hq) hlb hlg)
    have HM5 := hid (HM4.out.carry hb5.size (fun q _ h2 => hb5.block q h2))
    have HR5 := hid (HR4.out.below hb5)
    have HX5 := hid ((hb5.block _ lx4).trans HX4'.out)
    have lx5 := row_lt HX5.out
    clear hb5 v0 v1 v2 vf y0 y1 y2 y3 y4 y5 yf
    obtain ⟨v0, v1, v2, vf⟩ := row3 HX5.out
    rcases hfd : ks.contains ka with _ | _
    ·clear hfd
     obtain ⟨p5, hbx⟩ := HR5.out.open
     obtain ⟨a0, a1, a2, a3, a4, a5, af⟩ := row6 hbx.row
     have lb := row_lt hbx.row
     clear hbx
     have a3' : w5.cell? ⟨b, 3, none⟩ = some (.int .i64 8) := a3
     clear a3
     obtain ⟨x0, x1, x2, x3, x4, x5, xf⟩ := row6 HLb5.out.zero
     obtain ⟨y0, y1, y2, y3, y4, y5, yf⟩ := row6 HLb5.out.list
     have l0 := row_lt HLb5.out.zero
     have l1 := row_lt HLb5.out.list
     go_wp2_with fail
     exact bodyPost_ret (v := .agg #[.int .i64 6, .bool false, .int .i64 0, .string ⟨#[]⟩, .slice KA ks.length kc, .slice VA acc.length vc]) (by simp only [results, Tryz.results104]; go_simp) rfl (map_bad hlb hlg HLb5.out HR5.out HOk.out (by show (8 : Int) ≠ 0; decide) HF.out asd)
    ·clear hfd
     go_wp2_with fail
     refine (c_in_fail b g N cap _ m (fltA 8 xa) 5 xa w5 HR5.out).mono ?_
     rintro e w6 ⟨rfl, hR6, hA6⟩
     have HR6 := hid (show InAt 61 b g N cap (⟨xi, xt, xa⟩ :: t) m (fltA 8 xa) w6 from hR6)
     have HLb6 := hid (HLb5.out.same hA6 (fun q hq => .inl hq) hlb hlg)
     clear hR6 hA6 v0 v1 v2 vf
     obtain ⟨p6, hbx⟩ := HR6.out.open
     obtain ⟨a0, a1, a2, a3, a4, a5, af⟩ := row6 hbx.row
     have lb := row_lt hbx.row
     clear hbx
     have a3' : w6.cell? ⟨b, 3, none⟩ = some (.int .i64 8) := a3
     clear a3
     obtain ⟨x0, x1, x2, x3, x4, x5, xf⟩ := row6 HLb6.out.zero
     obtain ⟨y0, y1, y2, y3, y4, y5, yf⟩ := row6 HLb6.out.list
     have l0 := row_lt HLb6.out.zero
     have l1 := row_lt HLb6.out.list
     go_wp2_with fail
     exact bodyPost_ret (v := .agg #[.int .i64 6, .bool false, .int .i64 0, .string ⟨#[]⟩, .slice KA ks.length kc, .slice VA acc.length vc]) (by simp only [results, Tryz.results104]; go_simp) rfl (map_bad hlb hlg HLb6.out HR6.out HOk.out (by show (8 : Int) ≠ 0; decide) HF.out asd)
   have d4 : decide ((400 : Int) < ka.size) = false := decide_eq_false hwide
   obtain ⟨y0, y1, y2, y3, y4, y5, yf⟩ := row6 HLb3.out.list
   have ly3 := row_lt HLb3.out.list
   go_wp2_with fail
   refine (c_BinarySearch2 ks ka _ _ (w.heap.size + 2) (own_strs HM3.out.keys HM3.out.size) HSo.out (by omega)).mono ?_
   rintro e w5 ⟨rfl, hb5⟩
   have HLb5 := hid (HLb3.out.same (Aside.of_below (S := fun q => q = b) hb5) (fun q hq => .inl hq) hlb hlg)
   have HM5 := hid (HM3.out.carry hb5.size (fun q _ h2 => hb5.block q h2))
   have HR5 := hid (HR3.out.below hb5)
   have HX5 := hid ((hb5.block _ lx3).trans HX3.out)
   have HB5 := hid (HB3.out.trans (hb5.mono HB3.out.size))
   have lx5 := row_lt HX5.out
   have hs35 := hb5.size
   clear hb5 v0 v1 v2 vf y0 y1 y2 y3 y4 y5 yf
   obtain ⟨v0, v1, v2, vf⟩ := row3 HX5.out
   rcases hfd : ks.contains ka with _ | _
   rotate_left
   ·have HF := hid (show r = .bad (fltA 5 xa) by rw [HX4.out, if_neg (by omega), if_pos hfd])
    clear hfd
    go_wp2_with fail
    refine (c_in_fail b g N cap _ m flt0 5 xa w5 HR5.out).mono ?_
    rintro e w6 ⟨rfl, hR6, hA6⟩
    have HR6 := hid (show InAt 61 b g N cap (⟨xi, xt, xa⟩ :: t) m (fltA 5 xa) w6 from hR6)
    have HLb6 := hid (HLb5.out.same hA6 (fun q hq => .inl hq) hlb hlg)
    clear hR6 hA6 v0 v1 v2 vf
    obtain ⟨p6, hbx⟩ := HR6.out.open
    obtain ⟨a0, a1, a2, a3, a4, a5, af⟩ := row6 hbx.row
    have lb := row_lt hbx.row
    clear hbx
    have a3' : w6.cell? ⟨b, 3, none⟩ = some (.int .i64 5) := a3
    clear a3
    obtain ⟨x0, x1, x2, x3, x4, x5, xf⟩ := row6 HLb6.out.zero
    obtain ⟨y0, y1, y2, y3, y4, y5, yf⟩ := row6 HLb6.out.list
    have l0 := row_lt HLb6.out.zero
    have l1 := row_lt HLb6.out.list
    go_wp2_with fail
    exact bodyPost_ret (v := .agg #[.int .i64 6, .bool false, .int .i64 0, .string ⟨#[]⟩, .slice KA ks.length kc, .slice VA acc.length vc]) (by simp only [results, Tryz.results104]; go_simp) rfl (map_bad hlb hlg HLb6.out HR6.out HOk.out (by show (5 : Int) ≠ 0; decide) HF.out asd)
   have hx5 : r = (match pairJ k1 i d ⟨xi, xt, xa⟩ t kb m with
     | .bad f => .bad f
     | .good u L' m' => readK k1 (.pairs i d (insL ks (posK ks ka) ka) (insL acc (posK ks ka) u)) L' m') := by
    rw [HX4.out, if_neg (by omega), if_neg (by rw [hfd]; decide)]
   have HX6 := hid hx5
   have HNo := hid hfd
   clear hx5 hfd HX4
   obtain ⟨p5, hbx⟩ := HR5.out.open
   obtain ⟨a0, a1, a2, a3, a4, a5, af⟩ := row6 hbx.row
   have lb := row_lt hbx.row
   clear hbx
   have a3' : w5.cell? ⟨b, 3, none⟩ = some (.int .i64 0) := a3
   clear a3
   obtain ⟨q, hqd⟩ : ∃ q, q = decide (kb.size = 0) := ⟨_, rfl⟩
   have q1 : kb.toList.isEmpty = q := by rw [hqd]; exact empty_size kb
   have q2 : (kb.toList == []) = q := by rw [hqd, <- empty_size kb]; cases kb.toList <;> rfl
   have HQd := hid hqd
   clear hqd
   go_upto_if 78 with (fail)
   obtain ⟨w7, hw7⟩ : ∃ W, W = w5.alloc (.cells #[.int .i64 0, .bool false, .int .i64 0, .string ⟨#[]⟩, .slice none 0 0, .slice none 0 0] 34) := ⟨_, rfl⟩
   have hb7 : Below w5.heap.size w5 w7 := by rw [hw7]; exact bel
   have hK7 : w7.heap[w5.heap.size]? = some (.cells #[.int .i64 0, .bool false, .int .i64 0, .string ⟨#[]⟩, .slice none 0 0, .slice none 0 0] 34 (0, 0)) := by rw [hw7]; exact heap_at rfl
   rw [<- hw7]
   have HK7 := hid hK7
   have HLb7 := hid (HLb5.out.same (Aside.of_below (S := fun q => q = b) hb7) (fun q hq => .inl hq) hlb hlg)
   have HM7 := hid (HM5.out.carry hb7.size (fun q _ h2 => hb7.block q h2))
   have HR7 := hid (HR5.out.below hb7)
   have HX7 := hid ((hb7.block _ lx5).trans HX5.out)
   have HW7 := hid (HWr.out.trans ((HB5.out.trans (hb7.mono HB5.out.size)).mono HWr.out.size))
   have hs57 := hb7.size
   have lk7 := row_lt hK7
   have lx7 := row_lt HX7.out
   obtain ⟨kidR, hkid⟩ : ∃ q, q = pairJ k1 i d ⟨xi, xt, xa⟩ t kb m := ⟨_, rfl⟩
   have HKid := hid hkid
   rw [<- hkid] at HX6
   obtain ⟨kb0, hkb0⟩ : ∃ q, q = w5.heap.size := ⟨_, rfl⟩
   rw [<- hkb0] at lk7 HK7 ⊢
   have HKb := hid hkb0
   have HMk := hid (show MapG nT (w.heap.size + 2) kb0 w7 ks acc (.slice KA ks.length kc) (.slice VA acc.length vc) ess F by rw [HKb.out]; exact HM5.out.carry (Nat.le_refl _) (fun q _ h2 => hb7.block q h2))
   have hok2 := HOk.out.tail
   have HOk2 := hid hok2
   have hmm : m <= 1000 := by omega
   have hw1 : w.heap.size + 1 < w1.heap.size := row_lt HLb1.out.list
   have hk5 : w.heap.size + 2 <= kb0 := by rw [hkb0]; have := row_lt HLb5.out.list; omega
   have hk5' : w1.heap.size < kb0 := by rw [hkb0]; omega
   clear hw7 hb7 hK7 hkid hkb0 v0 v1 v2 vf a0 a1 a2 a3' a4 a5 af lb hok2
   obtain ⟨v0, v1, v2, vf⟩ := row3 HX7.out
   go_cut [] from 79 to 94 (fun wx => KidAt 61 b g N cap nT kb0 w7 kidR wx)
   case first =>
    rcases q with _ | _
    rotate_left
    ·have hrz : kb.size = 0 := of_decide_eq_true HQd.out.symm
     have hdd : IntKind.i64.wrap ((d : Int) + 1) = ((d + 1 : Nat) : Int) := by rw [IntKind.wrap_i64] <;> omega
     obtain ⟨dz, hdz⟩ : ∃ dz : Int, dz = ((d + 1 : Nat) : Int) := ⟨_, rfl⟩
     have HC := hid (Hbl.out k1 hkk1 i (d + 1) ⟨xi, xt, xa⟩ t m w7 (by omega) (by omega) hm HOk.out (by have := HNe.out; unfold needI at this ⊢; simp only [cost_cons] at this ⊢; omega) HW7.out HR7.out)
     have HKR := hid (HKid.out.trans (if_pos hrz))
     rw [<- hdz] at hdd HC
     clear hdz hrz
     go_wp2_with fail
     refine HC.out.mono ?_
     intro e w9 hv9
     obtain ⟨cs, L', m', f', rfl, ht9, hR9, hok9, hA9, hm9⟩ := hv9
     obtain ⟨u0, u1, u2, u3, U4, u4, u44, U5, u5, u55, rfl⟩ := ht9
     have HK9 := hid ((hA9.block kb0 lk7 (by omega)).trans HK7.out)
     have HR9 := hid hR9
     have HOk9 := hid hok9
     have HA9 := hid hA9
     have HM9 := hid hm9
     have hs79 := hA9.size
     clear hR9 hok9 hA9 hm9 v0 v1 v2 vf
     obtain ⟨z0, z1, z2, z3, z4, z5, zf⟩ := row6 HK9.out
     have lk9 := row_lt HK9.out
     go_wp2_with fail
     go_meet
     exact ⟨u0, u1, u2, u3, U4, u4, u44, U5, u5, u55, L', m', f', set6_st HK9.out, (HA9.out.mono (fun q hq => hq.elim .inl (fun h => .inr (.inl h)))).trans ((asd : Aside (fun q => q = kb0) w9 _).mono (fun q hq => .inr (.inr hq))), HR9.out.past (S := fun q => q = kb0) asd (by omega) (by omega), HOk9.out, InAt.len HR9.out, kid_good (kb := kb0) HKR.out HM9.out (by rw [HNT.out]; exact Nat.le_refl _) asd (fun x h1 h2 => by omega)⟩
    ·have hrz : ¬ kb.size = 0 := of_decide_eq_false HQd.out.symm
     have hdd : IntKind.i64.wrap ((d : Int) + 1) = ((d + 1 : Nat) : Int) := by rw [IntKind.wrap_i64] <;> omega
     obtain ⟨dz, hdz⟩ : ∃ dz : Int, dz = ((d + 1 : Nat) : Int) := ⟨_, rfl⟩
     have HC := hid (c_in_begin b g N cap _ m (d + 1) xa w7 HR7.out hmm (by omega))
     have HKR := hid (HKid.out.trans (if_neg hrz))
     rw [<- hdz] at hdd HC
     clear hdz hrz
     go_wp2_with fail
     refine HC.out.mono ?_
     rintro e w8 ⟨rfl, hR8, hA8⟩
     have HR8 := hid hR8
     have HA8 := hid (hA8.mono (fun q hq => (.inl hq : q = b ∨ q = g)))
     have HX8 := hid ((hA8.block _ lx7 (by omega)).trans HX7.out)
     have HK8 := hid ((hA8.block _ lk7 (by omega)).trans HK7.out)
     have HW8 := hid (H0.out.keep HW7.out HA8.out)
     clear hR8 hA8 v0 v1 v2 vf
     obtain ⟨v0, v1, v2, vf⟩ := row3 HX8.out
     have lx8 := row_lt HX8.out
     go_wp2_with fail
     refine (c_in_scalar w0 b g N cap _ t (m + 1) (beginX (d + 1) m xa) kb xa w8 H0.out HW8.out (by omega) HR8.out).mono ?_
     rintro e w9 ⟨rfl, hR9, hA9⟩
     obtain ⟨u0, u1, u2, u3, U4, u4, u44, U5, u5, u55, hsc⟩ := scA_tree kb
     rw [hsc]
     have HSc := hid hsc
     have HK9 := hid ((hA9.block kb0 (row_lt HK8.out) (by omega)).trans HK8.out)
     have HR9 := hid hR9
     have HA9 := hid (HA8.out.trans (hA9.mono (fun q hq => (.inl hq : q = b ∨ q = g))))
     have HOk9 := HOk2
     obtain ⟨L', hL'⟩ : ∃ q, q = t := ⟨_, rfl⟩
     obtain ⟨m', hm'⟩ : ∃ q, q = m + 1 := ⟨_, rfl⟩
     obtain ⟨f', hf'⟩ : ∃ q, q = scF (beginX (d + 1) m xa) kb xa := ⟨_, rfl⟩
     rw [<- hL', <- hm', <- hf'] at HR9
     rw [<- hL'] at HOk9
     have HL := hid (And.intro hL' (And.intro hm' hf'))
     clear hR9 hA9 hsc hL' hm' hf' v0 v1 v2 vf
     obtain ⟨z0, z1, z2, z3, z4, z5, zf⟩ := row6 HK9.out
     have lk9 := row_lt HK9.out
     go_wp2_with fail
     go_meet
     exact ⟨u0, u1, u2, u3, U4, u4, u44, U5, u5, u55, L', m', f', set6_st HK9.out, (HA9.out.mono (fun q hq => hq.elim .inl (fun h => .inr (.inl h)))).trans ((asd : Aside (fun q => q = kb0) w9 _).mono (fun q hq => .inr (.inr hq))), HR9.out.past (S := fun q => q = kb0) asd (by omega) (by omega), HOk9.out, InAt.len HR9.out, kid_lineP hnT1 HKR.out HSc.out HL.out.1 HL.out.2.1 HL.out.2.2⟩
   case rest =>
    obtain ⟨u0, u1, u2, u3, U4, u4, u44, U5, u5, u55, L', m', f', hK, hA, hR, hok', hlen', hKm⟩ := hcut
    have HKc := hid hK
    have HRc := hid hR
    have HOkc := hid hok'
    have HKm := hid hKm
    have HLc := hid (HLb7.out.same hA (fun q hq => by omega) hlb hlg)
    have HMc := hid (HMk.out.carry (Nat.le_refl _) (fun q h1 h2 => hA.block q (by omega) (by omega)))
    have hs7c := hA.size
    have hkc := row_lt hK
    clear hK hA hR hok' hKm v0 v1 v2 vf q1 q2 HQd
    obtain ⟨pi, hpi⟩ : ∃ q, q = posK ks ka := ⟨_, rfl⟩
    rw [<- hpi]
    have HPi := hid hpi
    have hiks : pi <= ks.length := by rw [hpi]; exact posK_le ks ka
    have hial : pi <= acc.length := by have := HAL.out; omega
    have halz : acc.length <= 300 := by have := HAL.out; omega
    have Hone : Hid (∀ z ∈ ([.int .i64 u0, .bool u1, .int .i64 u2, .string u3, .slice U4 u4 u44, .slice U5 u5 u55] : List Value), z.oneCell' = true) := hid (TreeV.one ⟨u0, u1, u2, u3, U4, u4, u44, U5, u5, u55, rfl⟩)
    clear hpi
    obtain ⟨y0, y1, y2, y3, y4, y5, yf⟩ := row6 HLc.out.list
    have lyc := row_lt HLc.out.list
    go_wp2_with fail
    obtain ⟨wa, hwa⟩ : ∃ W, W = wc.alloc (.cells #[.string ka] 9) := ⟨_, rfl⟩
    have hba : Below wc.heap.size wc wa := by rw [hwa]; exact bel
    have hza : wa.heap.size <= wc.heap.size + 1 := by rw [hwa]; simp
    have hzb : wc.heap.size + 1 <= wa.heap.size := by rw [hwa]; simp
    have Xa : wa.heap[wc.heap.size]? = some (.cells #[.string ka] 9 (0, 0)) := by rw [hwa]; exact heap_at rfl
    rw [<- hwa]
    have HBa := hid hba
    have HXa := hid Xa
    have HLa := hid (HLc.out.same (Aside.of_below (S := fun q => q = b) hba) (fun q hq => .inl hq) hlb hlg)
    have HRa := hid (HRc.out.below hba)
    have HKa := hid ((hba.block _ hkc).trans HKc.out)
    have HMa := hid (HMc.out.carry (Nat.le_refl _) (fun q h1 h2 => hba.block q (by omega)))
    clear y0 y1 y2 y3 y4 y5 yf hwa Xa hba
    refine (c_Insert_Str (w.heap.size + 2) ks.length pi wc.heap.size _ (.string ka) (ks.map Value.string) _ HMa.out.keys hiks HXa.out (one_strs ks) rfl (by omega) (by omega) (fun h => by have := HMa.out.hk _ h; omega)).mono ?_
    rintro e w8 ⟨g8, cap, rfl, hown8, hgrow8, hat8, hlt8⟩
    have hA8 := aside_grown hgrow8
    have hkb : ∀ q, (Value.slice KA ks.length kc).ownBlock = some q -> w.heap.size + 2 <= q /\ q < kb0 := fun q hq => ⟨(HMa.out.keys.lt q hq).1, HMa.out.hk q hq⟩
    have hlb8 : ∀ q, (Value.slice VA acc.length vc).ownBlock = some q -> w.heap.size + 2 <= q /\ q < kb0 := fun q hq => ⟨(HMa.out.kids.lt q hq).1, HMa.out.hl q hq⟩
    have hvv := own_apart HMa.out.kids HMa.out.keys (by decide)
    have hs8 := hgrow8.size
    have HL8 := hid (HLa.out.same hA8 (fun q hq => .inr (.inr (hkb q hq.symm).1)) hlb hlg)
    have HR8 := hid (HRa.out.past hA8 (fun hq => by have := (hkb _ hq.symm).1; omega) (fun hq => by have := (hkb _ hq.symm).1; omega))
    have HK8 := hid ((hA8.block _ (by omega) (fun h => by have := (hkb _ h.symm).2; omega)).trans HKa.out)
    have HV8 := hid (ownsRow_carry HMa.out.kids (fun q hq => hA8.block q (by have := (hlb8 q hq).2; omega) (fun h => hvv q hq h.symm)))
    have hg8 : w.heap.size + 2 <= g8 := (hown8.lt g8 rfl).1
    obtain ⟨y0, y1, y2, y3, y4, y5, yf⟩ := row6 HL8.out.list
    have ly8 := row_lt HL8.out.list
    have HOwn8 := hid hown8
    have HGr8 := hid (And.intro hgrow8 hat8)
    have HKB := hid hkb
    have HLB := hid hlb8
    clear hown8 hgrow8 hat8 hA8 hkb hlb8 hvv
    go_upto_region 19 with fail
    obtain ⟨w9, hw9⟩ : ∃ W, W = w8.setCell ⟨w.heap.size + 1, 4, none⟩ (.slice (some ⟨g8, 0, none⟩) (ks.length + 1) cap) := ⟨_, rfl⟩
    rw [<- hw9]
    have hz9a : w9.heap.size <= w8.heap.size := by rw [hw9]; simp
    have hz9b : w8.heap.size <= w9.heap.size := by rw [hw9]; simp
    have hA9 : Aside (fun q => q = w.heap.size + 1) w8 w9 := by rw [hw9]; exact aside_set rfl (Aside.refl _ _)
    have HL9 := hid (show LBoxI b g 6 w w9 (.slice (some ⟨g8, 0, none⟩) (ks.length + 1) cap) (.slice VA acc.length vc) by rw [hw9]; exact HL8.out.set4)
    have HR9 := hid (HR8.out.past hA9 (fun hq => by omega) (fun hq => by omega))
    have HK9 := hid ((hA9.block _ (by omega) (by omega)).trans HK8.out)
    have HV9 := hid (ownsRow_carry HV8.out (fun q hq => hA9.block q (by have := (HLB.out q hq).2; omega) (by have := (HLB.out q hq).1; omega)))
    have HQ9 := hid (ownsRow_carry HOwn8.out (fun q hq => hA9.block q (HOwn8.out.lt q hq).2 (by have := (HOwn8.out.lt q hq).1; omega)))
    have HF01 := hid (show ∀ q, w.heap.size + 2 <= q -> q < wc.heap.size -> (Value.slice KA ks.length kc).ownBlock ≠ some q -> w9.heap[q]? = wc.heap[q]? from fun q h1 h2 h3 => (hA9.block q (by omega) (by omega)).trans ((HGr8.out.1.block q (by omega) (fun h => h3 h.symm)).trans (HBa.out.block q (by omega))))
    have HG9 := hid (show ∀ q, (Value.slice (some ⟨g8, 0, none⟩) (ks.length + 1) cap).ownBlock = some q -> (Value.slice KA ks.length kc).ownBlock = some q ∨ wc.heap.size <= q from fun q hq => by
     simp [Value.ownBlock] at hq
     subst hq
     rcases HGr8.out.2 with h | h
     ·exact .inl h
     ·exact .inr (by omega))
    have hs59 : wc.heap.size <= w9.heap.size := by omega
    clear y0 y1 y2 y3 y4 y5 yf hw9 hA9
    obtain ⟨y0, y1, y2, y3, y4, y5, yf⟩ := row6 HL9.out.list
    obtain ⟨v0, v1, v2, v3, v4, v5, vf⟩ := row6 HK9.out
    have ly9 := row_lt HL9.out.list
    have lx9 := row_lt HK9.out
    go_wp2_with fail
    obtain ⟨w10, hw10⟩ : ∃ W, W = w9.alloc (.cells #[.int .i64 u0, .bool u1, .int .i64 u2, .string u3, .slice U4 u4 u44, .slice U5 u5 u55] 34) := ⟨_, rfl⟩
    have hb10 : Below w9.heap.size w9 w10 := by rw [hw10]; exact bel
    have hz10a : w10.heap.size <= w9.heap.size + 1 := by rw [hw10]; simp
    have hz10b : w9.heap.size + 1 <= w10.heap.size := by rw [hw10]; simp
    have X10 : w10.heap[w9.heap.size]? = some (.cells #[.int .i64 u0, .bool u1, .int .i64 u2, .string u3, .slice U4 u4 u44, .slice U5 u5 u55] 34 (0, 0)) := by rw [hw10]; exact heap_at rfl
    rw [<- hw10]
    have HB10 := hid hb10
    have HX10 := hid X10
    have HL10 := hid (HL9.out.same (Aside.of_below (S := fun q => q = b) hb10) (fun q hq => .inl hq) hlb hlg)
    have HR10 := hid (HR9.out.below hb10)
    have HV10 := hid (ownsRow_carry HV9.out (fun q hq => hb10.block q (by have := (HLB.out q hq).2; omega)))
    clear y0 y1 y2 y3 y4 y5 yf v0 v1 v2 v3 v4 v5 vf hw10 X10 hb10
    refine (c_Insert_Tree (w.heap.size + 2) acc.length pi w9.heap.size _ ess.flatten [.int .i64 u0, .bool u1, .int .i64 u2, .string u3, .slice U4 u4 u44, .slice U5 u5 u55] _ HV10.out hial HX10.out rfl HMa.out.one Hone.out (by omega) (by omega) (fun h => by have := (HLB.out _ h).2; omega)).mono ?_
    rintro e w12 ⟨g2, cap2, rfl, hown12, hgrow12, hat12, hlt12⟩
    have hA12 := aside_grown hgrow12
    have hs12 := hgrow12.size
    have HL12 := hid (HL10.out.same hA12 (fun q hq => .inr (.inr (HLB.out q hq.symm).1)) hlb hlg)
    have HR12 := hid (HR10.out.past hA12 (fun hq => by have := (HLB.out _ hq.symm).1; omega) (fun hq => by have := (HLB.out _ hq.symm).1; omega))
    obtain ⟨y0, y1, y2, y3, y4, y5, yf⟩ := row6 HL12.out.list
    have ly12 := row_lt HL12.out.list
    have HOwn12 := hid hown12
    have HGr12 := hid (And.intro hgrow12 hat12)
    clear hown12 hgrow12 hat12 hA12
    go_wp2_with fail
    obtain ⟨w13, hw13⟩ : ∃ W, W = w12.setCell ⟨w.heap.size + 1, 5, none⟩ (.slice (some ⟨g2, 0, none⟩) (acc.length + 1) cap2) := ⟨_, rfl⟩
    rw [<- hw13]
    have hz13a : w13.heap.size <= w12.heap.size := by rw [hw13]; simp
    have hz13b : w12.heap.size <= w13.heap.size := by rw [hw13]; simp
    have hA13 : Aside (fun q => q = w.heap.size + 1) w12 w13 := by rw [hw13]; exact aside_set rfl (Aside.refl _ _)
    have HL13 := hid (show LBoxI b g 6 w w13 (.slice (some ⟨g8, 0, none⟩) (ks.length + 1) cap) (.slice (some ⟨g2, 0, none⟩) (acc.length + 1) cap2) by rw [hw13]; exact HL12.out.set5)
    have HR13 := hid (HR12.out.past hA13 (fun hq => by omega) (fun hq => by omega))
    have HL13k := hid (ownsRow_carry HOwn12.out (fun q hq => hA13.block q (HOwn12.out.lt q hq).2 (by have := (HOwn12.out.lt q hq).1; omega)))
    have HF12 := hid (show ∀ q, w.heap.size + 2 <= q -> q < w9.heap.size -> (Value.slice VA acc.length vc).ownBlock ≠ some q -> w13.heap[q]? = w9.heap[q]? from fun q h1 h2 h3 => (hA13.block q (by omega) (by omega)).trans ((HGr12.out.1.block q (by omega) (fun h => h3 h.symm)).trans (HB10.out.block q h2)))
    have HG13 := hid (show ∀ q, (Value.slice (some ⟨g2, 0, none⟩) (acc.length + 1) cap2).ownBlock = some q -> (Value.slice VA acc.length vc).ownBlock = some q ∨ w9.heap.size <= q from fun q hq => by
     simp [Value.ownBlock] at hq
     subst hq
     rcases HGr12.out.2 with h | h
     ·exact .inl h
     ·exact .inr (by omega))
    have hs913 : w9.heap.size <= w13.heap.size := by omega
    clear y0 y1 y2 y3 y4 y5 yf hw13 hA13
    go_roundw
    case rel =>
     refine ⟨_, _, _, _, _, _, L', m', f', HL13.out, HR13.out, HOkc.out, ?_⟩
     have hm9 := HKm.out
     have hx6 := HX6.out
     rcases hres : kidR with f1 | ⟨u, L1, m1⟩
     ·rw [hres] at hm9 hx6
      exact .inr ⟨by rw [hm9.1]; exact hm9.2, by rw [hm9.1]; exact hx6⟩
     ·rw [hres] at hm9 hx6
      obtain ⟨e1, e2, e3, e4⟩ := hm9
      have hpj := HKid.out.symm.trans hres
      obtain ⟨hgw1, hgw2⟩ := pair_grow hpj hm (by omega)
      have hMG := MapG.ins (i := pi) (w0 := wc) (w1 := w9) (w2 := w13) (vk' := .slice (some ⟨g8, 0, none⟩) (ks.length + 1) cap) (vl' := .slice (some ⟨g2, 0, none⟩) (acc.length + 1) cap2) (key := ka) HMc.out (by omega) (by omega) hiks hial e4 (fun x hx => ⟨by have := hx.1; omega, hx.2⟩) (by omega)
       HF01.out hs59 HQ9.out HG9.out HF12.out hs913 HL13k.out HG13.out
      refine .inl ⟨insL ks pi ka, insL acc pi u, _, _, k1, hMG, e1, by omega, by rw [ins_len hiks]; omega, by rw [ins_len hiks, ins_len hial, HAL.out], by rw [HPi.out]; exact ins_sorted HSo.out (by rw [<- contains_hasS]; exact HNo.out), ?_, by omega, by rw [hx6, e2, e3, HPi.out]⟩
      have h1 := pair_less hpj
      have h2 := HNe.out
      rw [e2]
      unfold needI at h2 ⊢
      simp only [cost_cons] at h1 h2 ⊢
      omega
    case measure =>
     rw [HR13.out.meas, HRr.out.meas, if_pos (show flt0.code = 0 from rfl)]
     have hm9 := HKm.out
     rcases hres : kidR with f1 | ⟨u, L1, m1⟩
     ·rw [hres] at hm9
      rw [hm9.1, if_neg hm9.2]
      omega
     ·rw [hres] at hm9
      rw [hm9.1, hm9.2.1, if_pos (show flt0.code = 0 from rfl)]
      have := pair_len (HKid.out.symm.trans hres)
      simp only [List.length_cons]
      omega
open Go.RowKit
theorem c_laws_eqFault (c n : Int) (p : ByteArray) (w : World) :
  Calls Tryz.prog 13 #[.agg #[.int .i64 c, .int .i64 n, .string p], .agg #[.int .i64 c, .int .i64 n, .string p]] w fun e w' => e = .returned (.bool true) /\ Below w.heap.size w w' := by
 go_enter Tryz.func13, Tryz.ntmps13
 go_wp2_with fail
 go_ret
 exact ⟨rfl, bel⟩
theorem six_push {css : List (List Value)} {es : List Value} (h : ∀ es ∈ css, es.length = 6) (he : es.length = 6) : ∀ fs ∈ css ++ [es], fs.length = 6 := by
 intro fs hf
 rcases List.mem_append.1 hf with hf | hf
 ·exact h fs hf
 ·rw [List.mem_singleton.1 hf]; exact he
structure MapRows (base : Nat) (w : World) (ks : List ByteArray) (css : List (List Value)) (vk vl : Value) : Prop where
 keys : w.ownsRow base 9 1 vk ks.length (ks.map Value.string)
 kids : w.ownsRow base 34 6 vl css.length css.flatten
 six : ∀ es ∈ css, es.length = 6
 one : ∀ x ∈ css.flatten, x.oneCell' = true
theorem lay_fin {g g5 cap cap5 B : Nat} {w w4 wF : World} {ks : List ByteArray} {vs : List (List Value)} {key : ByteArray} {kc : List Value} {k0 m0 : Int} {f0 : Bool} {t0 : ByteArray} (hlen : vs.length = ks.length) (h6 : ∀ es ∈ vs, es.length = 6) (h1 : ∀ x ∈ vs.flatten, x.oneCell' = true) (hk6 : kc.length = 6) (hk1 : ∀ x ∈ kc, x.oneCell' = true)
  (hw4 : Below w.heap.size w w4) (hF : Aside (fun b => b = w.heap.size ∨ b = w.heap.size + 1 + 1) w4 wF) (hB : w.heap.size + 1 + 1 < B) (hgB : B <= g)
  (KK : w4.ownsRow w.heap.size 9 1 (.slice (some ⟨g, 0, none⟩) (ks.length + 1) cap) (ks.length + 1) (ks.map Value.string ++ [.string key]))
  (KV : w4.ownsRow B 34 6 (.slice (some ⟨g5, 0, none⟩) (ks.length + 1) cap5) (ks.length + 1) (vs.flatten ++ kc)) :
  ∃ vk' vl', Ending.returned (.agg #[.int .i64 k0, .bool f0, .int .i64 m0, .string t0, .slice (some ⟨g, 0, none⟩) (ks.length + 1) cap, .slice (some ⟨g5, 0, none⟩) (ks.length + 1) cap5]) = Ending.returned (.agg #[.int .i64 k0, .bool f0, .int .i64 m0, .string t0, vk', vl']) /\ MapRows w.heap.size wF (ks ++ [key]) (vs ++ [kc]) vk' vl' /\ Below w.heap.size w wF := by
 refine ⟨_, _, rfl, ⟨?_, ?_, six_push h6 hk6, ?_⟩, hw4.trans (hF.below hw4.size (fun i hi => by omega))⟩
 ·have := ownsRow_carry KK (fun q hq => by
   simp [Value.ownBlock] at hq
   subst hq
   exact hF.block g (KK.lt g rfl).2 (by omega))
  simpa using this
 ·have := ownsRow_carry (own_less KV (show w.heap.size <= B by omega)) (fun q hq => by
   have h3 := KV.lt q hq
   exact hF.block q h3.2 (by omega))
  simp only [List.flatten_append, List.length_append, List.flatten_cons, List.flatten_nil, List.append_nil, List.length_cons, List.length_nil, hlen]
  exact this
 ·intro x hx
  simp only [List.flatten_append, List.flatten_cons, List.flatten_nil, List.append_nil, List.mem_append] at hx
  rcases hx with hx | hx
  ·exact h1 x hx
  ·exact hk1 x hx
theorem c_lay (ks : List ByteArray) (vs : List (List Value)) (key t : ByteArray) (k0 m0 k m : Int) (f0 f : Bool) (t0 : ByteArray) (B4 B5 : Option Addr) (n4 d4 n5 d5 : Nat) (vk vl : Value) (base : Nat) (w : World) (h : MapRows base w ks vs vk vl) (hlen : vs.length = ks.length) (hks : ∀ x ∈ ks, x.size <= 9223372036854775807) (hlt : ∀ x ∈ ks, lessS x key = true) (hk : ks.length <= 1048576) :
  Calls Tryz.prog 193 #[.agg #[.int .i64 k0, .bool f0, .int .i64 m0, .string t0, vk, vl], .string key, .agg #[.int .i64 k, .bool f, .int .i64 m, .string t, .slice B4 n4 d4, .slice B5 n5 d5]] w fun e w' => ∃ vk' vl', e = .returned (.agg #[.int .i64 k0, .bool f0, .int .i64 m0, .string t0, vk', vl']) /\ MapRows w.heap.size w' (ks ++ [key]) (vs ++ [[.int .i64 k, .bool f, .int .i64 m, .string t, .slice B4 n4 d4, .slice B5 n5 d5]]) vk' vl' /\ Below w.heap.size w w' := by
 obtain ⟨i0, hi, hz0, hz1, hz2⟩ := info_parts (show (Tryz.prog.info? 34).map (fun i => (i.zero, i.size, i.bytes)) = some (some (.agg #[.int .i64 0, .bool false, .int .i64 0, .string ⟨#[]⟩, .slice none 0 0, .slice none 0 0]), 6, 88) from by kernel_rfl)
 obtain ⟨j0, gi, gz0, gz1, gz2⟩ := info_parts (show (Tryz.prog.info? 9).map (fun i => (i.zero, i.size, i.bytes)) = some (some (.string ⟨#[]⟩), 1, 16) from by kernel_rfl)
 obtain ⟨hkeys, hkids, h6, h1⟩ := h
 rw [hlen] at hkids
 have hS := own_strs hkeys hks
 obtain ⟨A4, c4, rfl⟩ := own_form hkeys
 obtain ⟨A5, c5, rfl⟩ := own_form hkids
 have Hkeys := Lib.hid hkeys
 have Hkids := Lib.hid hkids
 have H1 := Lib.hid h1
 have hlc5 : ks.length <= c5 := own_cap hkids
 clear h1
 have Hlen := Lib.hid hlen
 have Hlt := Lib.hid hlt
 obtain ⟨A4', c4', hv, hlc, hcc, hA⟩ := hS
 simp only [Value.slice.injEq, true_and] at hv
 obtain ⟨rfl, rfl⟩ := hv
 clear hkeys hkids hlen hlt hks
 go_enter Tryz.func193, Tryz.ntmps193
 go_wp2_with fail
 go_loopw [7] (fun i wr => ∃ j : Nat, j <= ks.length /\ i = .int .i64 j /\ wr.heap[w.heap.size]? = some (.cells #[.int .i64 k0, .bool f0, .int .i64 m0, .string t0, .slice A4 ks.length c4, .slice A5 ks.length c5] 34 (0, 0)) /\ wr.heap[w.heap.size + 1]? = some (.cells #[.int .i64 k, .bool f, .int .i64 m, .string t, .slice B4 n4 d4, .slice B5 n5 d5] 34 (0, 0)) /\ wr.heap[w.heap.size + 1 + 1]? = some (.cells #[.int .i64 0, .bool false, .int .i64 0, .string ⟨#[]⟩, .slice none 0 0, .slice none 0 0] 34 (0, 0)) /\ Below w.heap.size w wr) (fun i _ => ks.length - (intOf i).toNat)
 case atStart => exact ⟨0, Nat.zero_le _, rfl, (Below.heap_alloc _ _ _ (by simp; omega)).trans ((Below.heap_alloc _ _ _ (by simp)).trans (heap_alloc_new _ _)), (Below.heap_alloc _ _ _ (by simp)).trans (heap_at (by simp)), heap_at (by simp), bel⟩
 case round =>
  obtain ⟨j, hj, rfl, hT, hK, hZ, hbr⟩ := hrel
  obtain ⟨x0, x1, x2, x3, x4, x5, xf⟩ := row6 hT
  have hl1 := row_lt hT
  have hl2 := row_lt hK
  have hl8 := row_lt hZ
  have HT := Lib.hid hT
  have HK := Lib.hid hK
  have HZ := Lib.hid hZ
  clear hT hK hZ
  by_cases hlt : j < ks.length
  ·obtain ⟨b, o, rfl, -, hb2, hcell⟩ := hA (by omega)
   obtain ⟨d, hd⟩ := exists_at hlt
   obtain ⟨es, -, hcs, rfl, hd2⟩ := hcell j d hd
   have hc0 := (hbr.cell (p := ⟨b, o + j * 1 + 0, none⟩) (by simp; omega)).trans (hcs 0 (by omega))
   simp at hc0
   have hbl : b < wr.heap.size := Nat.lt_of_lt_of_le hb2 hbr.size
   have hj0 : (0 : Int) <= j := by omega
   have hj1 : (j : Int) < ks.length := by omega
   have hcmp := Hlt.out d (List.mem_of_getElem? hd)
   unfold lessS at hcmp
   clear hcs hcell hA hd
   go_wp2_with fail
   go_roundw
   case rel => exact ⟨j + 1, by omega, by go_num, HT.out, HK.out, HZ.out, bel⟩
   case measure => simp [intOf]; omega
  ·obtain rfl : j = ks.length := by omega
   clear hA
   have hK0 : wr.ownsRow base 9 1 (.slice A4 ks.length c4) ks.length (ks.map Value.string) := ownsRow_carry Hkeys.out (fun q hq => hbr.block q (Hkeys.out.lt q hq).2)
   obtain ⟨v1, w1, hr1, ho1, hg1, ha1⟩ := run_append_row (P := Tryz.prog) (wr.alloc (.cells #[] 9)) 31 31 w.heap.size 9 j0 (.string ⟨#[]⟩) 1 16 Tryz.underlying31 gi gz0 gz1 gz2 rfl (by decide) (.slice (some ⟨wr.heap.size, 0, none⟩) 0 0) 0 [] (own_empty rfl (by omega)) base ks.length (ks.map Value.string) (.slice A4 ks.length c4) (hK0.alloc _) (one_strs ks) (by unfold maxLen; omega) (by omega) (by simp; omega)
   rw [Nat.zero_add, List.nil_append] at ho1
   obtain ⟨E4, e4, rfl⟩ := own_form ho1
   obtain ⟨g, cap, w2, hr2, ho2, hg2, ha2, hl3⟩ := run_append_lies (P := Tryz.prog) (w1.alloc (.cells #[.string key] 9)) 31 31 w.heap.size 9 j0 (.string ⟨#[]⟩) 1 16 Tryz.underlying31 gi gz0 gz1 gz2 rfl (by decide) (.slice E4 ks.length e4) ks.length (ks.map Value.string) (ho1.alloc _) ⟨w1.heap.size, 0, none⟩ 1 1 [.string key] rfl (World.news_of_block (heap_at rfl)) (by intro u hu; simp at hu; subst hu; rfl) (by decide) (by unfold maxLen; omega) (by omega) (by have := hg1.size; simp at this ⊢; omega) _ rfl
   go_wp2_with (at_builtin; first | refine wpList_append_of rfl (.tmp 26) (.tmp 30) 31 rfl _ _ _ w1 rfl rfl hr1 ?_ | refine wpList_append_of rfl (.tmp 31) (.tmp 33) 31 rfl _ _ _ w2 rfl rfl hr2 ?_)
   have hq1 : ∀ q, (Value.slice E4 ks.length e4).ownBlock = some q -> wr.heap.size <= q := fun q hq => by
    rw [hq] at ha1
    simp [Value.ownBlock] at ha1
    omega
   have hs1 := hg1.size
   have hs2 := hg2.size
   simp at hs1 hs2
   have hb1 : Below wr.heap.size wr w1 := Below.grown (bel : Below wr.heap.size wr (wr.alloc (.cells #[] 9))) hg1 (by simp) (fun q hq => by simp [Value.ownBlock] at hq; omega)
   have hb2 : Below wr.heap.size wr w2 := Below.grown (hb1.alloc hb1.size _) hg2 (by simp; omega) hq1
   have HT2 := Lib.hid ((hb2.block _ hl1).trans HT.out)
   have HK2 := Lib.hid ((hb2.block _ hl2).trans HK.out)
   have HZ2 := Lib.hid ((hb2.block _ hl8).trans HZ.out)
   have hw2 : Below w.heap.size w w2 := hbr.trans (hb2.mono hbr.size)
   have Ho2 := Lib.hid ho2
   have hgw : wr.heap.size <= g := by
    rcases ha2 with h | h
    ·exact hq1 g h
    ·simp at h; omega
   clear x0 x1 x2 x3 x4 x5 xf ho1 ho2 hg1 hg2 ha1 ha2 hr1 hr2 HT HK HZ hq1 hK0 hb1 hb2
   obtain ⟨x0, x1, x2, x3, x4, x5, xf⟩ := row6 HT2.out
   obtain ⟨y0, y1, y2, y3, y4, y5, yf⟩ := row6 HK2.out
   have hl4 := row_lt HT2.out
   have hl5 := row_lt HK2.out
   have hl9 := row_lt HZ2.out
   have hcapK : ks.length + 1 <= cap := own_cap Ho2.out
   have hww : wr.heap.size <= w2.heap.size := by omega
   have hone : ∀ x ∈ [Value.int .i64 k, .bool f, .int .i64 m, .string t, .slice B4 n4 d4, .slice B5 n5 d5], x.oneCell' = true := by intro u hu; simp at hu; rcases hu with rfl | rfl | rfl | rfl | rfl | rfl <;> rfl
   go_region_law (first | (refine step_append_row rfl (.tmp 35) (.tmp 39) 32 rfl w2.heap.size 34 i0 (.agg #[.int .i64 0, .bool false, .int .i64 0, .string ⟨#[]⟩, .slice none 0 0, .slice none 0 0]) 6 88 Tryz.underlying32 hi hz0 hz1 hz2 rfl (by decide) (.slice (some ⟨_, 0, none⟩) 0 0) 0 [] rfl (by first | exact own_eq (own_empty (w := w2) rfl (Nat.le_refl _)) rfl | exact own_eq ((own_empty (w := w2) rfl (Nat.le_refl _)).alloc (.cells #[.int .i64 k, .bool f, .int .i64 m, .string t, .slice B4 n4 d4, .slice B5 n5 d5] 34)) rfl | exact own_eq (own_empty (w := w2.alloc (.cells #[.int .i64 k, .bool f, .int .i64 m, .string t, .slice B4 n4 d4, .slice B5 n5 d5] 34)) (by simp) (by simp)) rfl) base ks.length vs.flatten (.slice A5 ks.length c5) rfl (ownsRow_carry Hkids.out (fun q hq => Below.block (bel : Below w.heap.size w _) q (Hkids.out.lt q hq).2)) H1.out (by unfold maxLen; omega) (by omega) (by simp <;> omega) ?_; intro v3 w3 ho3 hg3 ha3; rw [Nat.zero_add, List.nil_append] at ho3; obtain ⟨E5, e5, rfl⟩ := own_form ho3; have hb3 : Below w2.heap.size w2 w3 := Below.grown (bel : Below w2.heap.size w2 _) hg3 (by simp <;> omega) (fun q hq => (by simp [Value.ownBlock] at hq; omega)); obtain ⟨z0, z1, z2, z3, z4, z5, zf⟩ := row6 ((hb3.block _ hl5).trans HK2.out); have hl6 : w.heap.size + 1 < w3.heap.size := Nat.lt_of_lt_of_le hl5 hb3.size) | (refine step_append_lies _ rfl (.tmp 40) (.tmp 42) 32 rfl w2.heap.size 34 i0 (.agg #[.int .i64 0, .bool false, .int .i64 0, .string ⟨#[]⟩, .slice none 0 0, .slice none 0 0]) 6 88 Tryz.underlying32 hi hz0 hz1 hz2 rfl (by decide) (.slice E5 ks.length e5) ks.length vs.flatten rfl (by first | exact ho3 | exact ho3.alloc _) _ 1 1 [.int .i64 k, .bool f, .int .i64 m, .string t, .slice B4 n4 d4, .slice B5 n5 d5] rfl rfl (by first | exact World.news_of_block (heap_alloc_new _ _) | exact World.news_of_block ((hg3.block _ (by simp <;> omega) (by simp [Value.ownBlock] <;> omega)).trans (heap_at (by simp))) | exact World.news_of_block ((hg3.block _ (by simp <;> omega) (by simp [Value.ownBlock] <;> omega)).trans ((Below.heap_alloc _ _ _ (by simp)).trans (heap_at (by simp))))) hone (by decide) (by unfold maxLen; omega) (by omega) (by have := hb3.size; simp; omega) _ rfl ?_; intro g5 cap5 w4 ho5 hg5 ha5 hl7))
   all_goals
    have hq5 : ∀ q, (Value.slice E5 ks.length e5).ownBlock = some q -> w2.heap.size <= q := fun q hq => by
     rw [hq] at ha3
     simp [Value.ownBlock] at ha3
     omega
    have hb4 : Below w2.heap.size w2 w4 := Below.grown (bel : Below w2.heap.size w2 _) hg5 (by have := hb3.size; first | omega | (simp; omega)) hq5
    have HT4 := Lib.hid ((hb4.block _ hl4).trans HT2.out)
    have HZ4 := Lib.hid ((hb4.block _ hl9).trans HZ2.out)
    have Ho4 := Lib.hid ho5
    have Hk4 := Lib.hid (ownsRow_carry Ho2.out (fun q hq => hb4.block q (Ho2.out.lt q hq).2))
    have hcapV : ks.length + 1 <= cap5 := own_cap ho5
    have hw4 : Below w.heap.size w w4 := hw2.trans (hb4.mono hw2.size)
    have hg5w : w2.heap.size <= g5 := by
     rcases ha5 with h | h
     ·exact hq5 g5 h
     ·have := hb3.size
      (try simp at h)
      omega
    clear x0 x1 x2 x3 x4 x5 xf y0 y1 y2 y3 y4 y5 yf z0 z1 z2 z3 z4 z5 zf ho3 ho5 hg3 hg5 ha3 ha5 hb3
    obtain ⟨x0, x1, x2, x3, x4, x5, xf⟩ := row6 HT4.out
    obtain ⟨y0, y1, y2, y3, y4, y5, yf⟩ := row6 HZ4.out
    have hl10 := row_lt HT4.out
    have hl11 := row_lt HZ4.out
    go_wp2_with (at_builtin; first | refine wpList_append_of rfl (.tmp 44) (.tmp 48) 31 rfl _ _ _ _ rfl rfl (run_append_zero _ _ _ 9 j0 Tryz.underlying31 gi ⟨g, 0, none⟩ (ks.length + 1) cap hcapK _ _) ?_ | refine wpList_append_of rfl (.tmp 51) (.tmp 55) 32 rfl _ _ _ _ rfl rfl (run_append_zero _ _ _ 34 i0 Tryz.underlying32 hi ⟨g5, 0, none⟩ (ks.length + 1) cap5 hcapV _ _) ?_)
    all_goals
     refine bodyPost_ret (v := .agg #[.int .i64 k0, .bool f0, .int .i64 m0, .string t0, .slice (some ⟨g, 0, none⟩) (ks.length + 1) cap, .slice (some ⟨g5, 0, none⟩) (ks.length + 1) cap5]) (by simp only [results, Tryz.results193]; go_simp) rfl (lay_fin (B := wr.heap.size) Hlen.out h6 H1.out rfl hone hw4 asd hl8 hgw Hk4.out (own_less Ho4.out hww))
theorem own_take {w : World} {base : Nat} {e : TypeId} {size g n c : Nat} {xs : List Value} (h : w.ownsRow base e size (.slice (some ⟨g, 0, none⟩) n c) n xs) (i : Nat) (hi : i <= n) : w.ownsRow base e size (.slice (some ⟨g, 0, none⟩) i c) i (xs.take (i * size)) := by
 obtain ⟨cur, hg, hn, hcm, hcs, ht, hb⟩ := own_row h
 have hm := Nat.mul_le_mul_right size hi
 refine ⟨by rw [List.length_take, h.1]; omega, .inr ⟨g, c, cur, rfl, hb, hg, by omega, hcm, hcs, ?_⟩⟩
 rw [<- ht, List.take_take, Nat.min_eq_left hm]
theorem own_from {w : World} {base : Nat} {e : TypeId} {size g n c : Nat} {xs : List Value} (h : w.ownsRow base e size (.slice (some ⟨g, 0, none⟩) n c) n xs) (i : Nat) : ∀ j u, (xs.drop (i * size))[j]? = some u -> w.cell? ((⟨g, i * size, none⟩ : Addr).add j) = some u := by
 intro j u hu
 obtain ⟨cur, hg, hn, hcm, hcs, ht, hb⟩ := own_row h
 rw [List.getElem?_drop, <- ht, List.getElem?_take] at hu
 rw [add_at, cell_of_row w g _ cur _ _ hg]
 split at hu
 ·simpa using hu
 ·cases hu
theorem own_some {w : World} {base : Nat} {e : TypeId} {size n : Nat} {v : Value} {xs : List Value} (h : w.ownsRow base e size v n xs) (hn : 0 < n) : ∃ g c, v = .slice (some ⟨g, 0, none⟩) n c := by
 rcases h.2 with ⟨-, h0⟩ | ⟨g, cap, cur, rfl, -⟩
 ·omega
 ·exact ⟨g, cap, rfl⟩
theorem drop_len (ks : List ByteArray) (i : Nat) : ((ks.map Value.string).drop (i * 1)).length = (ks.length - i) * 1 := by simp
theorem layI_fin {g g5 cap cap5 i n B : Nat} {w w4 wF : World} {ks : List ByteArray} {vs : List (List Value)} {key : ByteArray} {kc : List Value} {k0 m0 : Int} {f0 : Bool} {t0 : ByteArray} (hn : ks.length = n) (hlen : vs.length = n) (hi : i < n) (h6 : ∀ es ∈ vs, es.length = 6) (h1 : ∀ x ∈ vs.flatten, x.oneCell' = true) (hk6 : kc.length = 6) (hk1 : ∀ x ∈ kc, x.oneCell' = true)
  (hw4 : Below w.heap.size w w4) (hF : Aside (fun b => b = w.heap.size ∨ b = w.heap.size + 1 + 1) w4 wF) (hB : w.heap.size + 1 + 1 < B) (hgB : B <= g) (hgB5 : B <= g5)
  (KK : w4.ownsRow w.heap.size 9 1 (.slice (some ⟨g, 0, none⟩) (n + 1) cap) (n + 1) ((ks.take i).map Value.string ++ [.string key] ++ (ks.map Value.string).drop (i * 1)))
  (KV : w4.ownsRow w.heap.size 34 6 (.slice (some ⟨g5, 0, none⟩) (n + 1) cap5) (n + 1) (vs.flatten.take (i * 6) ++ kc ++ vs.flatten.drop (i * 6))) :
  ∃ vk' vl', Ending.returned (.agg #[.int .i64 k0, .bool f0, .int .i64 m0, .string t0, .slice (some ⟨g, 0, none⟩) (n + 1) cap, .slice (some ⟨g5, 0, none⟩) (n + 1) cap5]) = Ending.returned (.agg #[.int .i64 k0, .bool f0, .int .i64 m0, .string t0, vk', vl']) /\ MapRows w.heap.size wF (insL ks i key) (insL vs i kc) vk' vl' /\ Below w.heap.size w wF := by
 have KK' := ownsRow_carry KK (fun q hq => by
   simp [Value.ownBlock] at hq
   subst hq
   exact hF.block g (KK.lt g rfl).2 (by omega))
 have KV' := ownsRow_carry KV (fun q hq => by
   simp [Value.ownBlock] at hq
   subst hq
   exact hF.block g5 (KV.lt g5 rfl).2 (by omega))
 refine ⟨_, _, rfl, ⟨?_, ?_, ?_, ?_⟩, hw4.trans (hF.below hw4.size (fun i hi => by omega))⟩
 ·rw [ins_len (by omega), hn, ins_map, ins_append, <- List.map_take]
  rw [Nat.mul_one] at KK'
  exact KK'
 ·rw [ins_len (by omega), hlen, flat_ins vs i kc h6]
  exact KV'
 ·intro es hes
  rcases ins_mem hes with rfl | hes
  ·exact hk6
  ·exact h6 es hes
 ·intro x hx
  rw [flat_ins vs i kc h6] at hx
  rcases List.mem_append.1 hx with hx | hx
  ·rcases List.mem_append.1 hx with hx | hx
   ·exact h1 x (List.mem_of_mem_take hx)
   ·exact hk1 x hx
  ·exact h1 x (List.mem_of_mem_drop hx)
theorem c_layI (ks : List ByteArray) (vs : List (List Value)) (key t : ByteArray) (k0 m0 k m : Int) (f0 f : Bool) (t0 : ByteArray) (B4 B5 : Option Addr) (n4 d4 n5 d5 : Nat) (vk vl : Value) (base i n : Nat) (w : World) (h : MapRows base w ks vs vk vl) (hn : ks.length = n) (hlen : vs.length = n) (hks : ∀ x ∈ ks, x.size <= 9223372036854775807) (hi : i < n)
  (hlt : ∀ j d, j < i -> ks[j]? = some d -> lessS d key = true) (hge : ∀ d, ks[i]? = some d -> lessS d key = false) (hk : n <= 1048576) :
  Calls Tryz.prog 193 #[.agg #[.int .i64 k0, .bool f0, .int .i64 m0, .string t0, vk, vl], .string key, .agg #[.int .i64 k, .bool f, .int .i64 m, .string t, .slice B4 n4 d4, .slice B5 n5 d5]] w fun e w' => ∃ vk' vl', e = .returned (.agg #[.int .i64 k0, .bool f0, .int .i64 m0, .string t0, vk', vl']) /\ MapRows w.heap.size w' (insL ks i key) (insL vs i [.int .i64 k, .bool f, .int .i64 m, .string t, .slice B4 n4 d4, .slice B5 n5 d5]) vk' vl' /\ Below w.heap.size w w' := by
 obtain ⟨i0, gt, hz0, hz1, hz2⟩ := info_parts (show (Tryz.prog.info? 34).map (fun i => (i.zero, i.size, i.bytes)) = some (some (.agg #[.int .i64 0, .bool false, .int .i64 0, .string ⟨#[]⟩, .slice none 0 0, .slice none 0 0]), 6, 88) from by kernel_rfl)
 obtain ⟨j0, gi, gz0, gz1, gz2⟩ := info_parts (show (Tryz.prog.info? 9).map (fun i => (i.zero, i.size, i.bytes)) = some (some (.string ⟨#[]⟩), 1, 16) from by kernel_rfl)
 obtain ⟨hkeys, hkids, h6, h1⟩ := h
 rw [hlen] at hkids
 have hS := own_strs hkeys hks
 rw [hn] at hkeys
 obtain ⟨gk, c4, rfl⟩ := own_some hkeys (by omega)
 obtain ⟨gl, c5, rfl⟩ := own_some hkids (by omega)
 have Hkeys := Lib.hid hkeys
 have Hkids := Lib.hid hkids
 have H1 := Lib.hid h1
 have hlc5 : n <= c5 := own_cap hkids
 clear h1
 have Hlen := Lib.hid hlen
 have Hn := Lib.hid hn
 have Hlt := Lib.hid hlt
 have Hge := Lib.hid hge
 obtain ⟨A4', c4', hv, hlc, hcc, hA⟩ := hS
 rw [hn] at hv hlc hA
 simp only [Value.slice.injEq, true_and] at hv
 obtain ⟨rfl, rfl⟩ := hv
 clear hkeys hkids hlen hlt hge hks hn
 go_enter Tryz.func193, Tryz.ntmps193
 go_wp2_with fail
 go_loopw [7] (fun v wr => ∃ j : Nat, j <= i /\ v = .int .i64 j /\ wr.heap[w.heap.size]? = some (.cells #[.int .i64 k0, .bool f0, .int .i64 m0, .string t0, .slice (some ⟨gk, 0, none⟩) n c4, .slice (some ⟨gl, 0, none⟩) n c5] 34 (0, 0)) /\ wr.heap[w.heap.size + 1]? = some (.cells #[.int .i64 k, .bool f, .int .i64 m, .string t, .slice B4 n4 d4, .slice B5 n5 d5] 34 (0, 0)) /\ wr.heap[w.heap.size + 1 + 1]? = some (.cells #[.int .i64 0, .bool false, .int .i64 0, .string ⟨#[]⟩, .slice none 0 0, .slice none 0 0] 34 (0, 0)) /\ Below w.heap.size w wr) (fun v _ => i - (intOf v).toNat)
 case atStart => exact ⟨0, Nat.zero_le _, rfl, (Below.heap_alloc _ _ _ (by simp; omega)).trans ((Below.heap_alloc _ _ _ (by simp)).trans (heap_alloc_new _ _)), (Below.heap_alloc _ _ _ (by simp)).trans (heap_at (by simp)), heap_at (by simp), bel⟩
 case round =>
  obtain ⟨j, hj, rfl, hT, hK, hZ, hbr⟩ := hrel
  obtain ⟨x0, x1, x2, x3, x4, x5, xf⟩ := row6 hT
  have hl1 := row_lt hT
  have hl2 := row_lt hK
  have hl8 := row_lt hZ
  have HT := Lib.hid hT
  have HK := Lib.hid hK
  have HZ := Lib.hid hZ
  clear hT hK hZ
  have hjn : j < n := by omega
  have hj0 : (0 : Int) <= j := by omega
  have hj1 : (j : Int) < n := by omega
  obtain ⟨b, o, hbo, -, hb2, hcell⟩ := hA (by omega)
  simp only [Option.some.injEq, Addr.mk.injEq, and_true] at hbo
  obtain ⟨rfl, rfl⟩ := hbo
  have hbl : gk < wr.heap.size := Nat.lt_of_lt_of_le hb2 hbr.size
  obtain ⟨d, hd⟩ := exists_at (l := ks) (k := j) (by rw [Hn.out]; exact hjn)
  obtain ⟨es, -, hcs, rfl, hd2⟩ := hcell j d hd
  have hc0 := (hbr.cell (p := ⟨gk, 0 + j * 1 + 0, none⟩) (by simp; omega)).trans (hcs 0 (by omega))
  simp at hc0
  by_cases hlt : j < i
  ·have hcmp := Hlt.out j d hlt hd
   unfold lessS at hcmp
   clear hcs hcell hA hd
   go_wp2_with fail
   go_roundw
   case rel => exact ⟨j + 1, by omega, by go_num, HT.out, HK.out, HZ.out, bel⟩
   case measure => simp [intOf]; omega
  ·obtain rfl : j = i := by omega
   have hcmp := Hge.out d hd
   unfold lessS at hcmp
   clear hcs hcell hA hd
   have hjc4 : (j : Int) <= c4 := by omega
   have hjc5 : (j : Int) <= c5 := by omega
   have htn : ((j : Int)).toNat = j := by omega
   have hK0 : wr.ownsRow base 9 1 (.slice (some ⟨gk, 0, none⟩) n c4) n (ks.map Value.string) := ownsRow_carry Hkeys.out (fun q hq => hbr.block q (Hkeys.out.lt q hq).2)
   have hkt : (ks.map Value.string).take (j * 1) = (ks.take j).map Value.string := by rw [Nat.mul_one, List.map_take]
   have hto := own_take hK0 j (by omega)
   rw [hkt] at hto
   obtain ⟨v1, w1, hr1, ho1, hg1, ha1⟩ := run_append_row (P := Tryz.prog) (wr.alloc (.cells #[] 9)) 31 31 w.heap.size 9 j0 (.string ⟨#[]⟩) 1 16 Tryz.underlying31 gi gz0 gz1 gz2 rfl (by decide) (.slice (some ⟨wr.heap.size, 0, none⟩) 0 0) 0 [] (own_empty rfl (by omega)) base j ((ks.take j).map Value.string) (.slice (some ⟨gk, 0, none⟩) j c4) (hto.alloc _) (one_strs _) (by unfold maxLen; omega) (by omega) (by simp; omega)
   rw [Nat.zero_add, List.nil_append] at ho1
   obtain ⟨E4, e4, rfl⟩ := own_form ho1
   obtain ⟨g, cap, w2, hr2, ho2, hg2, ha2, hl3⟩ := run_append_lies (P := Tryz.prog) (w1.alloc (.cells #[.string key] 9)) 31 31 w.heap.size 9 j0 (.string ⟨#[]⟩) 1 16 Tryz.underlying31 gi gz0 gz1 gz2 rfl (by decide) (.slice E4 j e4) j ((ks.take j).map Value.string) (ho1.alloc _) ⟨w1.heap.size, 0, none⟩ 1 1 [.string key] rfl (World.news_of_block (heap_at rfl)) (by intro u hu; simp at hu; subst hu; rfl) (by decide) (by unfold maxLen; omega) (by omega) (by have := hg1.size; simp at this ⊢; omega) _ rfl
   clear hto hkt
   go_upto_region 5 with (at_builtin; first | refine wpList_append_of rfl (.tmp 26) (.tmp 30) 31 rfl _ _ _ w1 rfl rfl hr1 ?_ | refine wpList_append_of rfl (.tmp 31) (.tmp 33) 31 rfl _ _ _ w2 rfl rfl hr2 ?_)
   have hq1 : ∀ q, (Value.slice E4 j e4).ownBlock = some q -> wr.heap.size <= q := fun q hq => by
    rw [hq] at ha1
    simp [Value.ownBlock] at ha1
    omega
   have hs1 := hg1.size
   have hs2 := hg2.size
   simp at hs1 hs2
   have hb1 : Below wr.heap.size wr w1 := Below.grown (bel : Below wr.heap.size wr (wr.alloc (.cells #[] 9))) hg1 (by simp) (fun q hq => by simp [Value.ownBlock] at hq; omega)
   have hb2 : Below wr.heap.size wr w2 := Below.grown (hb1.alloc hb1.size _) hg2 (by simp; omega) hq1
   have HT2 := Lib.hid ((hb2.block _ hl1).trans HT.out)
   have HK2 := Lib.hid ((hb2.block _ hl2).trans HK.out)
   have HZ2 := Lib.hid ((hb2.block _ hl8).trans HZ.out)
   have hw2 : Below w.heap.size w w2 := hbr.trans (hb2.mono hbr.size)
   have Ho2 := Lib.hid ho2
   have hgw : wr.heap.size <= g := by
    rcases ha2 with h | h
    ·exact hq1 g h
    ·simp at h; omega
   clear x0 x1 x2 x3 x4 x5 xf ho1 ho2 hg1 hg2 ha1 ha2 hr1 hr2 HT HK HZ hq1 hK0 hb1 hb2 hc0
   obtain ⟨x0, x1, x2, x3, x4, x5, xf⟩ := row6 HT2.out
   obtain ⟨y0, y1, y2, y3, y4, y5, yf⟩ := row6 HK2.out
   have hl4 := row_lt HT2.out
   have hl5 := row_lt HK2.out
   have hl9 := row_lt HZ2.out
   have hcapK : j + 1 <= cap := own_cap Ho2.out
   have hww : wr.heap.size <= w2.heap.size := by omega
   have hone : ∀ x ∈ ([.int .i64 k, .bool f, .int .i64 m, .string t, .slice B4 n4 d4, .slice B5 n5 d5] : List Value), x.oneCell' = true := by intro u hu; simp at hu; rcases hu with rfl | rfl | rfl | rfl | rfl | rfl <;> rfl
   have h1t : ∀ x ∈ vs.flatten.take (j * 6), x.oneCell' = true := fun x hx => H1.out x (List.mem_of_mem_take hx)
   go_cut [9] from 35 to 43 (fun s9 wx => ∃ (g5 cap5 : Nat), s9 = .slice (some ⟨g5, 0, none⟩) (j + 1) cap5 /\ w2.heap.size <= g5 /\ wx.ownsRow w2.heap.size 34 6 (.slice (some ⟨g5, 0, none⟩) (j + 1) cap5) (j + 1) (vs.flatten.take (j * 6) ++ [.int .i64 k, .bool f, .int .i64 m, .string t, .slice B4 n4 d4, .slice B5 n5 d5]) /\ Below w2.heap.size w2 wx)
   case first =>
    go_region_law (first | (refine step_append_row rfl (.tmp 35) (.tmp 39) 32 rfl w2.heap.size 34 i0 (.agg #[.int .i64 0, .bool false, .int .i64 0, .string ⟨#[]⟩, .slice none 0 0, .slice none 0 0]) 6 88 Tryz.underlying32 gt hz0 hz1 hz2 rfl (by decide) (.slice (some ⟨_, 0, none⟩) 0 0) 0 [] rfl (by first | exact own_eq (own_empty (w := w2) rfl (Nat.le_refl _)) rfl | exact own_eq ((own_empty (w := w2) rfl (Nat.le_refl _)).alloc (.cells #[.int .i64 k, .bool f, .int .i64 m, .string t, .slice B4 n4 d4, .slice B5 n5 d5] 34)) rfl | exact own_eq (own_empty (w := w2.alloc (.cells #[.int .i64 k, .bool f, .int .i64 m, .string t, .slice B4 n4 d4, .slice B5 n5 d5] 34)) (by simp) (by simp)) rfl) base j (vs.flatten.take (j * 6)) (.slice (some ⟨gl, 0, none⟩) j c5) rfl (own_take (ownsRow_carry Hkids.out (fun q hq => Below.block (bel : Below w.heap.size w _) q (Hkids.out.lt q hq).2)) j (by omega)) h1t (by unfold maxLen; omega) (by omega) (by simp <;> omega) ?_; intro v3 w3 ho3 hg3 ha3; rw [Nat.zero_add, List.nil_append] at ho3; obtain ⟨E5, e5, rfl⟩ := own_form ho3; have hb3 : Below w2.heap.size w2 w3 := Below.grown (bel : Below w2.heap.size w2 _) hg3 (by simp <;> omega) (fun q hq => (by simp [Value.ownBlock] at hq; omega)); obtain ⟨z0, z1, z2, z3, z4, z5, zf⟩ := row6 ((hb3.block _ hl5).trans HK2.out); have hl6 : w.heap.size + 1 < w3.heap.size := Nat.lt_of_lt_of_le hl5 hb3.size) | (refine step_append_lies _ rfl (.tmp 40) (.tmp 42) 32 rfl w2.heap.size 34 i0 (.agg #[.int .i64 0, .bool false, .int .i64 0, .string ⟨#[]⟩, .slice none 0 0, .slice none 0 0]) 6 88 Tryz.underlying32 gt hz0 hz1 hz2 rfl (by decide) (.slice E5 j e5) j (vs.flatten.take (j * 6)) rfl (by first | exact ho3 | exact ho3.alloc _) _ 1 1 [.int .i64 k, .bool f, .int .i64 m, .string t, .slice B4 n4 d4, .slice B5 n5 d5] rfl rfl (by first | exact World.news_of_block (heap_alloc_new _ _) | exact World.news_of_block ((hg3.block _ (by simp <;> omega) (by simp [Value.ownBlock] <;> omega)).trans (heap_at (by simp))) | exact World.news_of_block ((hg3.block _ (by simp <;> omega) (by simp [Value.ownBlock] <;> omega)).trans ((Below.heap_alloc _ _ _ (by simp)).trans (heap_at (by simp))))) hone (by decide) (by unfold maxLen; omega) (by omega) (by have := hb3.size; simp; omega) _ rfl ?_; intro g5 cap5 w4 ho5 hg5 ha5 hl7))
    all_goals
     have hq5 : ∀ q, (Value.slice E5 j e5).ownBlock = some q -> w2.heap.size <= q := fun q hq => by
      rw [hq] at ha3
      simp [Value.ownBlock] at ha3
      omega
     have hb4 : Below w2.heap.size w2 w4 := Below.grown (bel : Below w2.heap.size w2 _) hg5 (by have := hb3.size; first | omega | (simp; omega)) hq5
     have hg5w : w2.heap.size <= g5 := by
      rcases ha5 with h | h
      ·exact hq5 g5 h
      ·have := hb3.size
       (try simp at h)
       omega
     go_wp2_with fail
     go_meet
     exact ⟨g5, cap5, rfl, hg5w, ho5, hb4⟩
   case rest =>
    obtain ⟨g5, cap5, rfl, hg5w, ho5, hb4⟩ := hcut
    clear x0 x1 x2 x3 x4 x5 xf y0 y1 y2 y3 y4 y5 yf
    have HT4 := Lib.hid ((hb4.block _ hl4).trans HT2.out)
    have HZ4 := Lib.hid ((hb4.block _ hl9).trans HZ2.out)
    have Ho4 := Lib.hid ho5
    have Hk4 := Lib.hid (ownsRow_carry Ho2.out (fun q hq => hb4.block q (Ho2.out.lt q hq).2))
    have hw4 : Below w.heap.size w wc := hw2.trans (hb4.mono hw2.size)
    clear ho5
    obtain ⟨x0, x1, x2, x3, x4, x5, xf⟩ := row6 HT4.out
    have hl10 := row_lt HT4.out
    have hl11 := row_lt HZ4.out
    have hjj : j + 1 + (n - j) = n + 1 := by omega
    have hKsrc : wc.ownsRow base 9 1 (.slice (some ⟨gk, 0, none⟩) n c4) n (ks.map Value.string) := ownsRow_carry Hkeys.out (fun q hq => hw4.block q (Hkeys.out.lt q hq).2)
    obtain ⟨g6, cap6, w5, hr6, ho6, hg6, ha6, hl6'⟩ := run_append_lies (P := Tryz.prog) wc 31 31 w.heap.size 9 j0 (.string ⟨#[]⟩) 1 16 Tryz.underlying31 gi gz0 gz1 gz2 rfl (by decide) (.slice (some ⟨g, 0, none⟩) (j + 1) cap) (j + 1) ((ks.take j).map Value.string ++ [.string key]) Hk4.out ⟨gk, j * 1, none⟩ (n - j) (c4 - j) ((ks.map Value.string).drop (j * 1)) ((drop_len ks j).trans (by rw [Hn.out])) (own_from hKsrc j) (fun x hx => one_strs ks x (List.mem_of_mem_drop hx)) (by omega) (by unfold maxLen; omega) (by omega) hw4.size _ rfl
    rw [hjj] at hr6 ho6
    rw [Nat.mul_one] at hr6
    have hgwr : w.heap.size < g := by omega
    have hg6g : wr.heap.size <= g6 := by
     rcases ha6 with h | h
     ·simp [Value.ownBlock] at h; omega
     ·have := hb4.size; omega
    have hne : ∀ q, q < wr.heap.size -> some q ≠ (Value.slice (some ⟨g, 0, none⟩) (j + 1) cap).ownBlock := fun q hq e => by simp [Value.ownBlock] at e; omega
    have HT5 := Lib.hid ((hg6.block _ hl10 (hne _ hl1)).trans HT4.out)
    have HZ5 := Lib.hid ((hg6.block _ hl11 (hne _ hl8)).trans HZ4.out)
    have hw5 : Below w.heap.size w w5 := Below.grown hw4 hg6 hw4.size (fun q hq => by simp [Value.ownBlock] at hq; omega)
    have Hv5 := Lib.hid (ownsRow_carry Ho4.out (fun q hq => hg6.block q (Ho4.out.lt q hq).2 (fun e => own_apart Ho4.out Hk4.out (by decide) q hq e.symm)))
    have Ho6 := Lib.hid ho6
    have hs5 := hg6.size
    have hs4 := hb4.size
    clear hKsrc ho6 hg6 ha6 hne hl6' hjj
    obtain ⟨y0, y1, y2, y3, y4, y5, yf⟩ := row6 HT5.out
    have hl14 := row_lt HT5.out
    have Hr6 := Lib.hid hr6
    go_upto_region 7 with (at_builtin; refine wpList_append_of rfl (.tmp 44) (.tmp 48) 31 rfl _ _ _ w5 rfl rfl Hr6.out ?_)
    obtain ⟨W6, hW6⟩ : ∃ W6, W6 = w5.setCell ⟨w.heap.size, 4, none⟩ (.slice (some ⟨g6, 0, none⟩) (n + 1) cap6) := ⟨_, rfl⟩
    rw [<- hW6]
    have hA6 : Aside (fun b => b = w.heap.size) w5 W6 := by rw [hW6]; exact Aside.setCell (Aside.refl _ _) rfl
    have hw6 : Below w.heap.size w W6 := hw5.trans (hA6.below hw5.size (fun i hi => by omega))
    have HT6 := Lib.hid (show W6.heap[w.heap.size]? = some (.cells #[.int .i64 k0, .bool f0, .int .i64 m0, .string t0, .slice (some ⟨g6, 0, none⟩) (n + 1) cap6, .slice (some ⟨gl, 0, none⟩) n c5] 34 (0, 0)) by rw [hW6]; exact heap_setCell_same _ _ 4 _ _ _ HT5.out)
    have HZ6 := Lib.hid ((hA6.block _ (row_lt HZ5.out) (by omega)).trans HZ5.out)
    have hVsrc : W6.ownsRow base 34 6 (.slice (some ⟨gl, 0, none⟩) n c5) n vs.flatten := ownsRow_carry Hkids.out (fun q hq => hw6.block q (Hkids.out.lt q hq).2)
    have Hv6 := ownsRow_carry Hv5.out (fun q hq => hA6.block q (Hv5.out.lt q hq).2 (by have := (Hv5.out.lt q hq).1; omega))
    have Hk6 := ownsRow_carry Ho6.out (fun q hq => hA6.block q (Ho6.out.lt q hq).2 (by simp [Value.ownBlock] at hq; omega))
    have hs6 := hA6.size
    obtain ⟨g7, cap7, w7, hr7, ho7, hg7, ha7, hl7'⟩ := run_append_lies (P := Tryz.prog) W6 32 32 w2.heap.size 34 i0 (.agg #[.int .i64 0, .bool false, .int .i64 0, .string ⟨#[]⟩, .slice none 0 0, .slice none 0 0]) 6 88 Tryz.underlying32 gt hz0 hz1 hz2 rfl (by decide) (.slice (some ⟨g5, 0, none⟩) (j + 1) cap5) (j + 1) (vs.flatten.take (j * 6) ++ [.int .i64 k, .bool f, .int .i64 m, .string t, .slice B4 n4 d4, .slice B5 n5 d5]) Hv6 ⟨gl, j * 6, none⟩ (n - j) (c5 - j) (vs.flatten.drop (j * 6)) (by rw [List.length_drop, Hkids.out.1]; omega) (own_from hVsrc j) (fun x hx => H1.out x (List.mem_of_mem_drop hx)) (by omega) (by unfold maxLen; omega) (by omega) (by omega) _ rfl
    rw [show j + 1 + (n - j) = n + 1 by omega] at hr7 ho7
    have hg7g : w2.heap.size <= g7 := by
     rcases ha7 with h | h
     ·simp [Value.ownBlock] at h; omega
     ·omega
    have hne7 : ∀ q, q < w2.heap.size -> some q ≠ (Value.slice (some ⟨g5, 0, none⟩) (j + 1) cap5).ownBlock := fun q hq e => by simp [Value.ownBlock] at e; omega
    have HT7 := Lib.hid ((hg7.block _ (row_lt HT6.out) (hne7 _ hl4)).trans HT6.out)
    have HZ7 := Lib.hid ((hg7.block _ (row_lt HZ6.out) (hne7 _ hl9)).trans HZ6.out)
    have hw7 : Below w.heap.size w w7 := Below.grown hw6 hg7 hw6.size (fun q hq => by simp [Value.ownBlock] at hq; omega)
    have Hk7 := Lib.hid (ownsRow_carry Hk6 (fun q hq => hg7.block q (Hk6.lt q hq).2 (fun e => own_apart Hv6 Hk6 (by decide) q e.symm hq)))
    have Ho7 := Lib.hid (own_less ho7 (show w.heap.size <= w2.heap.size by omega))
    have Hr7 := Lib.hid hr7
    clear x0 x1 x2 x3 x4 x5 xf y0 y1 y2 y3 y4 y5 yf hr6 hr7 hW6 hVsrc Hv6 Hk6 ho7 hg7 ha7 hne7 hl7' hA6 hw6
    obtain ⟨y0, y1, y2, y3, y4, y5, yf⟩ := row6 HT6.out
    have hl15 := row_lt HT6.out
    obtain ⟨x0, x1, x2, x3, x4, x5, xf⟩ := row6 HT7.out
    obtain ⟨u0', u1', u2', u3', u4', u5', uf'⟩ := row6 HZ7.out
    have hl16 := row_lt HT7.out
    have hl17 := row_lt HZ7.out
    go_wp2_with (at_builtin; refine wpList_append_of rfl (.tmp 51) (.tmp 55) 32 rfl _ _ _ w7 rfl rfl Hr7.out ?_)
    refine bodyPost_ret (v := .agg #[.int .i64 k0, .bool f0, .int .i64 m0, .string t0, .slice (some ⟨g6, 0, none⟩) (n + 1) cap6, .slice (some ⟨g7, 0, none⟩) (n + 1) cap7]) (by simp only [results, Tryz.results193]; go_simp) rfl ?_
    exact (layI_fin (B := wr.heap.size) Hn.out Hlen.out hi h6 H1.out rfl (by intro u hu; simp at hu; rcases hu with rfl | rfl | rfl | rfl | rfl | rfl <;> rfl) hw7 asd hl8 hg6g (by omega) Hk7.out Ho7.out)
end Go.Proofs.YtohcpifekcehjaaGreatDoor
