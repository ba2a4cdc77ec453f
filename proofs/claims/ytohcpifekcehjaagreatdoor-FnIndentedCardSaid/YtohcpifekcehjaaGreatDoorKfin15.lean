/- Steps to FnIndented. No conditions. -/
import Derived.Test.YtohcpifekcehjaaGreatDoorKfin14
import Derived.Test.YtohcpifekcehjaaGreatDoorKfin8
import Derived.Test.YtohcpifekcehjaaGreatDoorKfin7
import Derived.Test.YtohcpifekcehjaaGreatDoorKfin13
import Derived.Test.YtohcpifekcehjaaGreatDoorKfin3
import Derived.Test.YtohcpifekcehjaaGreatDoorKfin6
set_option maxHeartbeats 16000000
set_option maxRecDepth 20000
namespace Go.Proofs.YtohcpifekcehjaaGreatDoor
open Go.RowKit Go.Lib
theorem map_bad {ty : TypeId} {b g N cap nT : Nat} {w wx wF : World} {r : ResI} {L : List LineD} {m : Nat} {f : Flt} {A A' : Option Addr} {n c n' c' : Nat}
  (hb : b < w.heap.size) (hg : g < w.heap.size) (hL : LBoxI b g 6 w wx (.slice A n c) (.slice A' n' c')) (hR : InAt ty b g N cap L m f wx) (hok : InOk L) (h1 : f.code ≠ 0) (h2 : r = .bad f) (hF : Aside (fun q => q = w.heap.size) wx wF) :
  OutI ty b g N cap (nT + 1) r w (.returned (.agg #[.int .i64 6, .bool false, .int .i64 0, .string ⟨#[]⟩, .slice A n c, .slice A' n' c'])) wF := by
 subst h2
 exact ⟨_, L, m, f, rfl, ⟨_, _, _, _, _, _, _, _, _, _, rfl⟩, hR.past hF (fun q => by omega) (fun q => by omega), hok, Aside.low2 (hL.aside.join hF (fun q hq _ => .inr (.inr (by omega)))), rfl, h1⟩
theorem map_good {ty : TypeId} {b g N cap nT : Nat} {w wx wF : World} {r : ResI} {L : List LineD} {m : Nat} {A A' : Option Addr} {n c n' c' : Nat} {ks : List ByteArray} {acc : List TreeD} {ess : List (List Value)} {F : Nat -> Nat -> Prop}
  (hb : b < w.heap.size) (hg : g < w.heap.size) (hL : LBoxI b g 6 w wx (.slice A n c) (.slice A' n' c')) (hM : MapG nT (w.heap.size + 2) wx.heap.size wx ks acc (.slice A n c) (.slice A' n' c') ess F) (hR : InAt ty b g N cap L m flt0 wx) (hok : InOk L) (h2 : r = .good (tMap ks acc) L m) (hF : Aside (fun q => q = w.heap.size) wx wF) :
  OutI ty b g N cap (nT + 1) r w (.returned (.agg #[.int .i64 6, .bool false, .int .i64 0, .string ⟨#[]⟩, .slice A n c, .slice A' n' c'])) wF := by
 subst h2
 exact ⟨_, L, m, flt0, rfl, ⟨_, _, _, _, _, _, _, _, _, _, rfl⟩, hR.past hF (fun q => by omega) (fun q => by omega), hok, Aside.low2 (hL.aside.join hF (fun q hq _ => .inr (.inr (by omega)))), rfl, rfl, rfl,
  hM.tree (fun q h1 h2 => hF.block q h2 (by omega)) (fun q h1 h2 => ⟨by omega, Nat.lt_of_lt_of_le h2 hF.size⟩)⟩
def PairsI (ty : TypeId) (b g N cap i n d nT : Nat) (r : ResI) (w wx : World) : Prop :=
 ∃ (KA : Option Addr) (kn kc : Nat) (VA : Option Addr) (vn vc : Nat) (L : List LineD) (m : Nat) (f : Flt), LBoxI b g 6 w wx (.slice KA kn kc) (.slice VA vn vc) /\ InAt ty b g N cap L m f wx /\ InOk L /\
  ((∃ (ks : List ByteArray) (acc : List TreeD) (ess : List (List Value)) (F : Nat -> Nat -> Prop) (k : Nat), MapG nT (w.heap.size + 2) wx.heap.size wx ks acc (.slice KA kn kc) (.slice VA vn vc) ess F /\ f = flt0 /\ m <= 300 /\ ks.length <= m /\ acc.length = ks.length /\ SortK ks /\ needI (.pairs i d ks acc) L <= k /\ k <= n /\ r = readK k (.pairs i d ks acc) L m) ∨
   (f.code ≠ 0 /\ r = .bad f))
theorem keyV_form (o : Option (ByteArray × ByteArray)) : ∃ a c q, keyV o = .tuple #[.string a, .string c, .bool q] /\ q = o.isSome /\ ∀ k r, o = some (k, r) -> a = k /\ c = r := by
 rcases o with _ | ⟨k, r⟩
 ·exact ⟨_, _, _, rfl, rfl, fun _ _ h => by cases h⟩
 ·exact ⟨_, _, _, rfl, rfl, fun _ _ h => by cases h; exact ⟨rfl, rfl⟩⟩
theorem itemV_form (o : Option (ByteArray × Nat)) : ∃ (a : ByteArray) (c : Nat) (q : Bool), itemV o = .tuple #[.string a, .int .i64 c, .bool q] /\ q = o.isSome := by
 rcases o with _ | ⟨k, r⟩
 ·exact ⟨_, 0, _, rfl, rfl⟩
 ·exact ⟨_, _, _, rfl, rfl⟩
theorem key_le {s key rest : ByteArray} (h : keyB s = some (key, rest)) (hs : s.size <= 20000) : key.size <= 1048576 /\ rest.size <= 20000 := by
 unfold keyB at h
 by_cases c1 : 0 < s.size /\ byteI s 0 = 34
 ·rw [if_pos c1] at h
  by_cases c2 : 0 <= (quotB s 0).2 /\ endsB s (quotB s 0).2.toNat = true
  ·rw [if_pos c2] at h
   cases h
   refine ⟨?_, by have := tail_le s ((quotB s 0).2.toNat + 1); omega⟩
   unfold quotB
   rw [if_pos c1.1, if_pos c1.2]
   have := quotR_size s (s.size - (0 + 1)) (0 + 1) []
   unfold quotG
   simp at this ⊢
   omega
  ·rw [if_neg c2] at h; cases h
 ·rw [if_neg c1] at h
  rcases hf : findE s s.size 0 with _ | i
  ·rw [hf] at h; cases h
  ·rw [hf] at h
   simp only at h
   by_cases c3 : plainB (bs (s.data.toList.take i)) = true
   ·rw [if_pos c3] at h
    cases h
    refine ⟨?_, by have := tail_le s (i + 1); omega⟩
    rw [bs_len, List.length_take, list_size]
    omega
   ·rw [if_neg c3] at h; cases h
theorem found_at {ks : List ByteArray} {key : ByteArray} (hso : SortK ks) : decide (posK ks key < ks.length /\ (ks[posK ks key]?).getD key = key) = ks.contains key := by
 rw [Bool.eq_iff_iff, decide_eq_true_eq, contains_hasS, hasS_mem]
 constructor
 ·rintro ⟨h1, h2⟩
  obtain ⟨a, ha⟩ := exists_at h1
  rw [ha] at h2
  exact h2 ▸ List.mem_of_getElem? ha
 ·intro hm
  obtain ⟨j, hj⟩ := List.getElem?_of_mem hm
  have hjl := (List.getElem?_eq_some_iff.1 hj).1
  have hle := posK_le ks key
  have h1 : ¬ j < posK ks key := fun h => by
   have := posK_less h hj
   unfold lessS at this
   rw [bless_self] at this
   cases this
  have h2 : posK ks key = j := by
   rcases Nat.lt_or_ge (posK ks key) j with h | h
   ·exfalso
    obtain ⟨a, ha⟩ := exists_at (l := ks) (k := posK ks key) (by omega)
    have h3 := posK_not hso (Nat.le_refl _) ha
    have h4 : lessS a key = true := by
     have := List.pairwise_iff_getElem.1 hso (posK ks key) j (by omega) hjl h
     rw [(List.getElem?_eq_some_iff.1 ha).2, (List.getElem?_eq_some_iff.1 hj).2] at this
     exact this
    rw [h4] at h3
    cases h3
   ·omega
  rw [h2, hj]
  exact ⟨hjl, rfl⟩
theorem c_BinarySearch2 (ks : List ByteArray) (key : ByteArray) (v : Value) (w : World) (lo : Nat) (hs : Sl_Str lo w.heap.size w ks v) (hso : SortK ks) (hn : ks.length <= 1048577) :
  Calls Tryz.prog 183 #[v, .string key] w fun e w' => e = .returned (.tuple #[.int .i64 (posK ks key : Nat), .bool (ks.contains key)]) /\ Below w.heap.size w w' := by
 obtain ⟨A, c, rfl, hlc, hcc, hA⟩ := hs
 by_cases hp : 0 < ks.length
 ·obtain ⟨b, o, rfl, -, -, hcell⟩ := hA hp
  have h := Any2.slices_BinarySearch_string laysBs b o ks.length c (fun t => (ks[t]?).getD key) key w (by omega) (fun j hj => by
   obtain ⟨d, hd⟩ := exists_at hj
   obtain ⟨es, -, hcs, rfl, -⟩ := hcell j d hd
   have h0 := hcs 0 (by omega)
   simp at h0
   rw [hd]
   exact h0)
  change Calls Tryz.prog 183 _ _ _ at h
  refine h.mono ?_
  rintro e w' ⟨rfl, q, rfl⟩
  have hb := Lib.bsGo_spec (fun t => Op.bytesLess ((ks[t]?).getD key).toList key.toList) (posK ks key) (fun t ht => by
    have hl := posK_le ks key
    obtain ⟨d, hd⟩ := exists_at (l := ks) (k := t) (by omega)
    simp only [hd, Option.getD_some]
    exact posK_less ht hd) (fun t ht => by
    rcases hd : ks[t]? with _ | d
    ·simp only [Option.getD_none]
     exact bless_self _
    ·simp only [Option.getD_some]
     exact posK_not hso ht hd) ks.length 0 ks.length (by omega) (Nat.zero_le _) (posK_le _ _)
  rw [hb]
  refine ⟨?_, below_drewN (Below.refl _ _) _⟩
  rw [<- found_at hso]
 ·obtain rfl : ks = [] := List.eq_nil_of_length_eq_zero (by omega)
  have h := Any2.slices_BinarySearch_string_empty laysBs A c key w
  change Calls Tryz.prog 183 _ _ _ at h
  refine h.mono ?_
  rintro e w' ⟨rfl, rfl⟩
  exact ⟨rfl, Below.refl _ _⟩
theorem empty_size (s : ByteArray) : s.toList.isEmpty = decide (s.size = 0) := by
 rw [ByteArray.toList_eq, <- list_size]
 cases s.data.toList <;> simp
theorem set6_st {w : World} {b : Nat} {a0 a1 a2 a3 a4 a5 v0 v1 v2 v3 v4 v5 : Value} {e : TypeId} (h : w.heap[b]? = some (.cells #[a0, a1, a2, a3, a4, a5] e (0, 0))) :
  ((((((w.setCell ⟨b, 0, none⟩ v0).setCell ⟨b, 1, none⟩ v1).setCell ⟨b, 2, none⟩ v2).setCell ⟨b, 3, none⟩ v3).setCell ⟨b, 4, none⟩ v4).setCell ⟨b, 5, none⟩ v5).heap[b]? = some (.cells #[v0, v1, v2, v3, v4, v5] e (0, 0)) :=
 heap_setCell_same _ b 5 _ _ _ (heap_setCell_same _ b 4 _ _ _ (heap_setCell_same _ b 3 _ _ _ (heap_setCell_same _ b 2 _ _ _ (heap_setCell_same _ b 1 _ _ _ (heap_setCell_same w b 0 _ _ _ h)))))
theorem InAt.len {ty : TypeId} {b g N cap : Nat} {L : List LineD} {m : Nat} {f : Flt} {w : World} (h : InAt ty b g N cap L m f w) : L.length <= N := by
 obtain ⟨p, hb⟩ := h.open
 have := hb.pos
 omega
def KidM (nT : Nat) (res : ResI) (w7 wx : World) (es : List Value) (L' : List LineD) (m' : Nat) (f' : Flt) : Prop := match res with
  | .bad f => f' = f /\ f.code ≠ 0
  | .good t L m => f' = flt0 /\ L' = L /\ m' = m /\ OwnT nT (fun x => w7.heap.size <= x /\ x < wx.heap.size) wx t es
def KidAt (ty : TypeId) (b g N cap nT kb : Nat) (w7 : World) (res : ResI) (wx : World) : Prop :=
 ∃ (u0 : Int) (u1 : Bool) (u2 : Int) (u3 : ByteArray) (U4 : Option Addr) (u4 u44 : Nat) (U5 : Option Addr) (u5 u55 : Nat) (L' : List LineD) (m' : Nat) (f' : Flt),
  wx.heap[kb]? = some (.cells #[.int .i64 u0, .bool u1, .int .i64 u2, .string u3, .slice U4 u4 u44, .slice U5 u5 u55] 34 (0, 0)) /\
  Aside (fun q => q = b ∨ q = g ∨ q = kb) w7 wx /\ InAt ty b g N cap L' m' f' wx /\ InOk L' /\ L'.length <= N /\ KidM nT res w7 wx [.int .i64 u0, .bool u1, .int .i64 u2, .string u3, .slice U4 u4 u44, .slice U5 u5 u55] L' m' f'
theorem kid_good {nU nT kb : Nat} {res res' : ResI} {w7 w9 wx : World} {es : List Value} {L' : List LineD} {m' : Nat} {f' : Flt} (he : res = res') (h : KidM nU res' w7 w9 es L' m' f') (hn : nU <= nT) (hF : Aside (fun q => q = kb) w9 wx) (hk : ∀ x, w7.heap.size <= x -> x < w9.heap.size -> x ≠ kb) : KidM nT res w7 wx es L' m' f' := by
 subst he
 unfold KidM at h ⊢
 cases res with
 | bad f => exact h
 | good t L m => exact ⟨h.1, h.2.1, h.2.2.1, (h.2.2.2.up hn).carry (fun x hx => hF.block x hx.2 (hk x hx.1 hx.2)) (fun x hx => ⟨hx.1, Nat.lt_of_lt_of_le hx.2 hF.size⟩)⟩
theorem kid_line {nT d m a : Nat} {res : ResI} {w7 wx : World} {es : List Value} {s : ByteArray} {t L' : List LineD} {m' : Nat} {f' : Flt} (he : res = (match beginF d m a with
      | some f => .bad f
      | none => match scalB s with
       | none => .bad (fltA 4 a)
       | some u => .good u t (m + 1))) (hsc : scA s = es) (h1 : L' = t) (h2 : m' = m + 1) (h3 : f' = scF (beginX d m a) s a) : KidM (nT + 1) res w7 wx es L' m' f' := by
 subst he h1 h2 h3 hsc
 rcases begin_or d m a with ⟨e1, e2⟩ | ⟨f, e1, e2, e3⟩
 ·rw [e1, e2]
  simp only
  unfold scF scA KidM
  rcases hs : scalB s with _ | u
  ·exact ⟨if_pos rfl, by show (4 : Int) ≠ 0; decide⟩
  ·exact ⟨rfl, rfl, rfl, (scal_own hs).2⟩
 ·rw [e1, e2]
  unfold scF KidM
  rcases hs : scalB s with _ | u
  ·exact ⟨if_neg e3, e3⟩
  ·exact ⟨rfl, e3⟩
theorem kid_lineP {nT d m a : Nat} {res : ResI} {w7 wx : World} {es : List Value} {s : ByteArray} {t L' : List LineD} {m' : Nat} {f' : Flt} (hn : 0 < nT) (he : res = (match beginF d m a with
      | some f => .bad f
      | none => match scalB s with
       | none => .bad (fltA 4 a)
       | some u => .good u t (m + 1))) (hsc : scA s = es) (h1 : L' = t) (h2 : m' = m + 1) (h3 : f' = scF (beginX d m a) s a) : KidM nT res w7 wx es L' m' f' := by
 obtain ⟨k, rfl⟩ : ∃ k, nT = k + 1 := ⟨nT - 1, by omega⟩
 exact kid_line he hsc h1 h2 h3
theorem LBoxI.set4 {b g : Nat} {kind : Int} {w wx : World} {vk vl u : Value} (h : LBoxI b g kind w wx vk vl) : LBoxI b g kind w (wx.setCell ⟨w.heap.size + 1, 4, none⟩ u) u vl :=
 ⟨(Below.heap_setCell _ _ _ _ (by simp)).trans h.zero, heap_setCell_same wx (w.heap.size + 1) 4 _ _ u h.list, aside_set (.inr (.inr (by simp))) h.aside⟩
theorem LBoxI.set5 {b g : Nat} {kind : Int} {w wx : World} {vk vl u : Value} (h : LBoxI b g kind w wx vk vl) : LBoxI b g kind w (wx.setCell ⟨w.heap.size + 1, 5, none⟩ u) vk u :=
 ⟨(Below.heap_setCell _ _ _ _ (by simp)).trans h.zero, heap_setCell_same wx (w.heap.size + 1) 5 _ _ u h.list, aside_set (.inr (.inr (by simp))) h.aside⟩
theorem pair_grow {n i d m m' : Nat} {x : LineD} {r L' : List LineD} {rest : ByteArray} {t : TreeD} (h : pairJ n i d x r rest m = .good t L' m') (hm : m <= 300) (hd : d <= 8) : m + 1 <= m' /\ m' <= 300 := by
 unfold pairJ at h
 by_cases c : rest.size = 0
 ·rw [if_pos c] at h
  exact readK_growB h hm (by omega)
 ·rw [if_neg c] at h
  rcases hb : beginF (d + 1) m x.at' with _ | f
  ·rw [hb] at h
   simp only at h
   have := (begin_none hb).2
   rcases hs : scalB rest with _ | v
   ·rw [hs] at h; cases h
   ·rw [hs] at h
    cases h
    omega
  ·rw [hb] at h; cases h
theorem pair_less {n i d m m' : Nat} {x : LineD} {r L' : List LineD} {rest : ByteArray} {t : TreeD} (h : pairJ n i d x r rest m = .good t L' m') : costL L' <= costL r := by
 unfold pairJ at h
 by_cases c : rest.size = 0
 ·rw [if_pos c] at h
  exact (readK_less _ _ _ _ _ _ _ h).1
 ·rw [if_neg c] at h
  rcases hb : beginF (d + 1) m x.at' with _ | f
  ·rw [hb] at h
   simp only at h
   rcases hs : scalB rest with _ | v
   ·rw [hs] at h; cases h
   ·rw [hs] at h
    cases h
    omega
  ·rw [hb] at h; cases h
theorem pair_len {n i d m m' : Nat} {x : LineD} {r L' : List LineD} {rest : ByteArray} {t : TreeD} (h : pairJ n i d x r rest m = .good t L' m') : L'.length <= r.length := by
 unfold pairJ at h
 by_cases c : rest.size = 0
 ·rw [if_pos c] at h
  exact readK_len_le h
 ·rw [if_neg c] at h
  rcases hb : beginF (d + 1) m x.at' with _ | f
  ·rw [hb] at h
   simp only at h
   rcases hs : scalB rest with _ | v
   ·rw [hs] at h; cases h
   ·rw [hs] at h
    cases h
    omega
  ·rw [hb] at h; cases h
theorem of_inPairs (w0 : World) (b g N cap n : Nat) (h0 : In0 w0 b g) (hbl : ∀ k, k < n -> T_bI w0 b g N cap k) : T_pI w0 b g N cap n := by
 intro i d L0 m0 w hd1 hd8 hm0 hok0 hn hw h
 have HRd := hid h
 have Hbl := hid hbl
 have HW := hid hw
 have H0 := hid h0
 have hlb := h.lt.1
 have hlg := h.lt.2
 obtain ⟨nT, hnT⟩ : ∃ k, 10 - d = k + 1 := ⟨9 - d, by omega⟩
 have HNT := hid (show 10 - (d + 1) = nT by omega)
 have hnT1 : 0 < nT := by omega
 obtain ⟨r, hr⟩ : ∃ r, r = readK n (.pairs i d [] []) L0 m0 := ⟨_, rfl⟩
 rw [<- hr, hnT]
 have HR := hid hr
 have HOk0 := hid hok0
 have HN := hid hn
 clear hr h hbl hw h0 hnT hok0 hn
 go_enter Tryz.func104, Tryz.ntmps104
 go_wp2_with fail
 go_loopw [] (fun wr => PairsI 61 b g N cap i n d nT r w wr) (fun wr => inM N b wr)
 case atStart =>
  refine ⟨none, 0, 0, none, 0, 0, L0, m0, flt0, ⟨?_, ?_, Aside.of_below bel⟩, HRd.out.below bel, HOk0.out, .inl ⟨[], [], [], _, n, MapG.nil _ _ _ _, rfl, hm0, Nat.zero_le _, rfl, List.Pairwise.nil, HN.out, Nat.le_refl _, HR.out⟩⟩
  ·exact (Below.heap_alloc _ _ _ (by simp)).trans (heap_at (by simp))
  ·exact heap_at (by simp)
 case round =>
  obtain ⟨KA, kn, kc, VA, vn, vc, L, m, f, hLb, hRr, hok, hst⟩ := hrel
  have HLb := hid hLb
  have HRr := hid hRr
  have HOk := hid hok
  have HWr := hid (H0.out.keepW HW.out hLb.aside)
  clear hok hLb hRr
  rcases hst with ⟨ks, acc, ess, F, k, hM, rfl, hm, hksm, hal, hso, hk1, hkn, hrr⟩ | ⟨hf, hrr⟩
  rotate_left
  ·have HQ : Hid (hereB f L i = false) := hid (by unfold hereB; rw [decide_eq_false hf]; rfl)
   have HF := hid (And.intro hf hrr)
   clear hf hrr
   go_wp2_with fail
   refine (c_in_here b g N cap L m i f wr HRr.out).mono ?_
   rintro e w1 ⟨rfl, hb1⟩
   rw [HQ.out]
   have HLb1 := hid (HLb.out.same (Aside.of_below (S := fun q => q = b) hb1) (fun q hq => .inl hq) hlb hlg)
   have HR1 := hid (HRr.out.below hb1)
   have HB1 := hid hb1
   clear hb1
   obtain ⟨x0, x1, x2, x3, x4, x5, xf⟩ := row6 HLb1.out.zero
   obtain ⟨y0, y1, y2, y3, y4, y5, yf⟩ := row6 HLb1.out.list
   have l0 := row_lt HLb1.out.zero
   have l1 := row_lt HLb1.out.list
   go_wp2_with fail
   exact bodyPost_ret (v := .agg #[.int .i64 6, .bool false, .int .i64 0, .string ⟨#[]⟩, .slice KA kn kc, .slice VA vn vc]) (by simp only [results, Tryz.results104]; go_simp) rfl (map_bad hlb hlg HLb1.out HR1.out HOk.out HF.out.1 HF.out.2 asd)
  have HM := hid hM
  have HJ := hid hrr
  have HNk := hid hk1
  have HSo := hid hso
  have HAL := hid hal
  have hkn2 : kn = ks.length := by
   obtain ⟨A, c, e⟩ := own_form hM.keys
   cases e
   rfl
  have hvn2 : vn = acc.length := by
   obtain ⟨A, c, e⟩ := own_form hM.kids
   cases e
   rfl
  subst hkn2 hvn2
  clear hM hrr hk1 hso hal
  rcases L with _ | ⟨x, t⟩
  ·have HQ : Hid (hereB flt0 [] i = false) := hid rfl
   have HF : Hid (r = .good (tMap ks acc) [] m) := hid (by
    have h1 := HNk.out
    obtain ⟨k1, rfl⟩ : ∃ k1, k = k1 + 1 := ⟨k - 1, by unfold needI at h1; simp only at h1; omega⟩
    rw [HJ.out, readK_pairs_nil])
   go_wp2_with fail
   refine (c_in_here b g N cap [] m i flt0 wr HRr.out).mono ?_
   rintro e w1 ⟨rfl, hb1⟩
   rw [HQ.out]
   have HLb1 := hid (HLb.out.same (Aside.of_below (S := fun q => q = b) hb1) (fun q hq => .inl hq) hlb hlg)
   have HR1 := hid (HRr.out.below hb1)
   have HB1 := hid hb1
   have HM1 := hid (HM.out.carry hb1.size (fun q _ h2 => hb1.block q h2))
   clear hb1
   obtain ⟨x0, x1, x2, x3, x4, x5, xf⟩ := row6 HLb1.out.zero
   obtain ⟨y0, y1, y2, y3, y4, y5, yf⟩ := row6 HLb1.out.list
   have l0 := row_lt HLb1.out.zero
   have l1 := row_lt HLb1.out.list
   go_wp2_with fail
   exact bodyPost_ret (v := .agg #[.int .i64 6, .bool false, .int .i64 0, .string ⟨#[]⟩, .slice KA ks.length kc, .slice VA acc.length vc]) (by simp only [results, Tryz.results104]; go_simp) rfl (map_good hlb hlg HLb1.out HM1.out HR1.out HOk.out HF.out asd)
  obtain ⟨k1, hk1⟩ : ∃ k1, k = k1 + 1 := ⟨k - 1, by have h1 := HNk.out; unfold needI at h1; simp only at h1; omega⟩
  by_cases hxi : x.ind = i
  rotate_left
  ·have HQ : Hid (hereB flt0 (x :: t) i = false) := hid (by show (decide (flt0.code = 0) && decide (x.ind = i)) = false; rw [decide_eq_false hxi]; rfl)
   have HF : Hid (r = .good (tMap ks acc) (x :: t) m) := hid (by rw [HJ.out, hk1, readK_pairs, if_pos (.inl hxi)])
   clear hk1 hxi
   go_wp2_with fail
   refine (c_in_here b g N cap (x :: t) m i flt0 wr HRr.out).mono ?_
   rintro e w1 ⟨rfl, hb1⟩
   rw [HQ.out]
   have HLb1 := hid (HLb.out.same (Aside.of_below (S := fun q => q = b) hb1) (fun q hq => .inl hq) hlb hlg)
   have HR1 := hid (HRr.out.below hb1)
   have HB1 := hid hb1
   have HM1 := hid (HM.out.carry hb1.size (fun q _ h2 => hb1.block q h2))
   clear hb1
   obtain ⟨x0, x1, x2, x3, x4, x5, xf⟩ := row6 HLb1.out.zero
   obtain ⟨y0, y1, y2, y3, y4, y5, yf⟩ := row6 HLb1.out.list
   have l0 := row_lt HLb1.out.zero
   have l1 := row_lt HLb1.out.list
   go_wp2_with fail
   exact bodyPost_ret (v := .agg #[.int .i64 6, .bool false, .int .i64 0, .string ⟨#[]⟩, .slice KA ks.length kc, .slice VA acc.length vc]) (by simp only [results, Tryz.results104]; go_simp) rfl (map_good hlb hlg HLb1.out HM1.out HR1.out HOk.out HF.out asd)
  have HQ : Hid (hereB flt0 (x :: t) i = true) := hid (by show (decide (flt0.code = 0) && decide (x.ind = i)) = true; rw [decide_eq_true hxi]; rfl)
  have hj2 : r = (if (itemB x.text).isSome = true then .good (tMap ks acc) (x :: t) m else match keyB x.text with
   | none => .good (tMap ks acc) (x :: t) m
   | some (key, rest) =>
    if 400 < key.size then .bad (fltA 8 x.at')
    else if ks.contains key then .bad (fltA 5 x.at')
    else match pairJ k1 i d x t rest m with
     | .bad f => .bad f
     | .good u L' m' => readK k1 (.pairs i d (insL ks (posK ks key) key) (insL acc (posK ks key) u)) L' m') := by
   rw [HJ.out, hk1, readK_pairs]
   by_cases c : (itemB x.text).isSome = true
   ·rw [if_pos (.inr c), if_pos c]
   ·rw [if_neg (fun e => e.elim (fun e => e hxi) c), if_neg c]
    rfl
  have hxo := HOk.out.head
  have hxz : x.text.size <= 20000 := by have := hxo.1; omega
  have hkk1 : k1 < n := by omega
  have HXI := hid hxi
  have HXO := hid hxo
  have hne := HNk.out
  rw [hk1] at hne
  have HNe := hid hne
  have HX := hid hj2
  clear hj2 hk1 hxi hxo HJ HNk hne
  go_wp2_with fail
  refine (c_in_here b g N cap (x :: t) m i flt0 wr HRr.out).mono ?_
  rintro e w1 ⟨rfl, hb1⟩
  rw [HQ.out]
  have HLb1 := hid (HLb.out.same (Aside.of_below (S := fun q => q = b) hb1) (fun q hq => .inl hq) hlb hlg)
  have HR1 := hid (HRr.out.below hb1)
  have HB1 := hid hb1
  have HM1 := hid (HM.out.carry hb1.size (fun q _ h2 => hb1.block q h2))
  clear hb1
  obtain ⟨p, hbx⟩ := HR1.out.open
  obtain ⟨a0, a1, a2, a3, a4, a5, af⟩ := row6 hbx.row
  have lb := row_lt hbx.row
  obtain ⟨c0, c1, c2, cf⟩ := hbx.line x t rfl
  have lg := hbx.lines
  have hpN : (p : Int) < N := by have := hbx.pos; rw [List.length_cons] at this; omega
  have hp0 : (0 : Int) <= p := by omega
  have hcap := hbx.cap'
  have hgb := hbx.ne
  have hN2 := hbx.small
  have HPos := hid hbx.pos
  obtain ⟨xi, xt, xa⟩ := x
  simp only at c0 c1 c2 hxz
  clear hbx
  have hl1 := row_lt HLb1.out.list
  go_upto_region 3 with fail
  go_cut [8] from 22 to 31 (fun s8 wx => s8 = .pointer (some ⟨w1.heap.size, 0, none⟩) /\ wx.heap[w1.heap.size]? = some (.cells #[.int .i64 (xi : Nat), .string xt, .int .i64 (xa : Nat)] 59 (0, 0)) /\ Below w1.heap.size w1 wx)
  case first =>
   go_region_law (fail)
   all_goals
    (try go_wp2_with fail)
    go_meet
    exact ⟨rfl, by rw [drew_heap]; exact heap_at (by simp), bel⟩
  case rest =>
   obtain ⟨rfl, hx1, hb2⟩ := hcut
   have HX2 := hid hx1
   have HLb2 := hid (HLb1.out.same (Aside.of_below (S := fun q => q = b) hb2) (fun q hq => .inl hq) hlb hlg)
   have HM2 := hid (HM1.out.carry hb2.size (fun q _ h2 => hb2.block q h2))
   have HR2 := hid (HR1.out.below hb2)
   have HB2 := hid (HB1.out.trans (hb2.mono HB1.out.size))
   have HW2 := hid (HWr.out.trans (HB2.out.mono HWr.out.size))
   have lx2 := row_lt hx1
   have hs12 := hb2.size
   clear hx1 hb2 a0 a1 a2 a3 a4 a5 af c0 c1 c2 cf lb lg hl1
   obtain ⟨v0, v1, v2, vf⟩ := row3 HX2.out
   obtain ⟨ka, kb, kq, hkv, hkq, hks⟩ := keyV_form (keyB xt)
   obtain ⟨ia, ib, iq, hiv, hiq⟩ := itemV_form (itemB xt)
   have HKy := hid (show Calls Tryz.prog 103 #[.string xt] wc fun e w' => e = .returned (.tuple #[.string ka, .string kb, .bool kq]) /\ Below wc.heap.size wc w' by
    have h := c_impl_KeyOf xt wc (by omega) (H0.out.cas.below HW2.out) (H0.out.tab.below HW2.out)
    rw [hkv] at h
    exact h)
   have HIt := hid (show ∀ W, Calls Tryz.prog 101 #[.string xt] W fun e w' => e = .returned (.tuple #[.string ia, .int .i64 ib, .bool iq]) /\ W = w' from fun W => by
    have h := c_impl_ItemOf xt W (by omega)
    rw [hiv] at h
    exact h)
   have HKS := hid hks
   have HKQ := hid hkq
   have HIQ := hid hiq
   clear hkv hkq hks hiv hiq
   go_wp2_with fail
   refine HKy.out.mono ?_
   rintro e w3 ⟨rfl, hb3⟩
   have HLb3 := hid (HLb2.out.same (Aside.of_below (S := fun q => q = b) hb3) (fun q hq => .inl hq) hlb hlg)
   have HM3 := hid (HM2.out.carry hb3.size (fun q _ h2 => hb3.block q h2))
   have HR3 := hid (HR2.out.below hb3)
   have HX3 := hid ((hb3.block _ lx2).trans HX2.out)
   have HB3 := hid (HB2.out.trans (hb3.mono HB2.out.size))
   have lx3 := row_lt HX3.out
   have hs23 := hb3.size
   clear hb3 v0 v1 v2 vf
   obtain ⟨v0, v1, v2, vf⟩ := row3 HX3.out
   go_wp2_with fail
   refine (HIt.out w3).mono ?_
   rintro e w4 ⟨rfl, rfl⟩
   have hstop : (kq = false ∨ iq = true) -> r = .good (tMap ks acc) (⟨xi, xt, xa⟩ :: t) m := fun hh => by
    rw [HX.out]
    by_cases c : (itemB xt).isSome = true
    ·rw [if_pos c]
    ·rw [if_neg c]
     have hk0 : kq = false := hh.elim id (fun h => absurd (HIQ.out ▸ h) c)
     rw [HKQ.out] at hk0
     cases hk : keyB xt with
     | none => rfl
     | some _ => rw [hk] at hk0; cases hk0
   have HStop := hid hstop
   clear hstop
   rcases kq with _ | _
   ·have HF := hid (HStop.out (.inl rfl))
    obtain ⟨x0, x1, x2, x3, x4, x5, xf⟩ := row6 HLb3.out.zero
    obtain ⟨y0, y1, y2, y3, y4, y5, yf⟩ := row6 HLb3.out.list
    have l0 := row_lt HLb3.out.zero
    have l1 := row_lt HLb3.out.list
    go_wp2_with fail
    exact bodyPost_ret (v := .agg #[.int .i64 6, .bool false, .int .i64 0, .string ⟨#[]⟩, .slice KA ks.length kc, .slice VA acc.length vc]) (by simp only [results, Tryz.results104]; go_simp) rfl (map_good hlb hlg HLb3.out HM3.out HR3.out HOk.out HF.out asd)
   rcases iq with _ | _
   rotate_left
   ·have HF := hid (HStop.out (.inr rfl))
    obtain ⟨x0, x1, x2, x3, x4, x5, xf⟩ := row6 HLb3.out.zero
    obtain ⟨y0, y1, y2, y3, y4, y5, yf⟩ := row6 HLb3.out.list
    have l0 := row_lt HLb3.out.zero
    have l1 := row_lt HLb3.out.list
    go_wp2_with fail
    exact bodyPost_ret (v := .agg #[.int .i64 6, .bool false, .int .i64 0, .string ⟨#[]⟩, .slice KA ks.length kc, .slice VA acc.length vc]) (by simp only [results, Tryz.results104]; go_simp) rfl (map_good hlb hlg HLb3.out HM3.out HR3.out HOk.out HF.out asd)
   obtain ⟨rest, hkr⟩ : ∃ rest, keyB xt = some (ka, rest) /\ kb = rest := by
    have h := HKQ.out
    cases hk : keyB xt with
    | none => rw [hk] at h; cases h
    | some kr => exact ⟨kr.2, by rw [(HKS.out kr.1 kr.2 hk).1], (HKS.out kr.1 kr.2 hk).2⟩
   obtain ⟨hkr, rfl⟩ := hkr
   have hx3 : r = (if 400 < ka.size then .bad (fltA 8 xa)
    else if ks.contains ka then .bad (fltA 5 xa)
    else match pairJ k1 i d ⟨xi, xt, xa⟩ t kb m with
     | .bad f => .bad f
     | .good u L' m' => readK k1 (.pairs i d (insL ks (posK ks ka) ka) (insL acc (posK ks ka) u)) L' m') := by
    rw [HX.out, if_neg (fun c => by rw [<- HIQ.out] at c; cases c), hkr]
   have HX4 := hid hx3
   have hkz := key_le hkr hxz
   obtain ⟨hkz1, hkz2⟩ := hkz
   have HKr := hid hkr
   clear hx3 hkr HX HStop HKS HKQ HIQ HKy HIt
   by_cases hwide : (400 : Int) < ka.size
   ·have d4 : decide ((400 : Int) < ka.size) = true := decide_eq_true hwide
    have HF := hid (show r = .bad (fltA 8 xa) by rw [HX4.out, if_pos (by omega)])
    go_wp2_with fail
    refine (c_in_fail b g N cap _ m flt0 8 xa w3 HR3.out).mono ?_
    rintro e w4 ⟨rfl, hR4, hA4⟩
    have HR4 := hid (show InAt 61 b g N cap (⟨xi, xt, xa⟩ :: t) m (fltA 8 xa) w4 from hR4)
    have HLb4 := hid (HLb3.out.same hA4 (fun q hq => .inl hq) hlb hlg)
    have HM4 := hid (HM3.out.carry hA4.size (fun q h1 h2 => hA4.block q h2 (by omega)))
    have HX4' := hid ((hA4.block _ lx3 (by have := HLb1.out.list; have := row_lt this; omega)).trans HX3.out)
    have hs34 := hA4.size
    clear hR4 hA4 v0 v1 v2 vf
    obtain ⟨v0, v1, v2, vf⟩ := row3 HX4'.out
    have lx4 := row_lt HX4'.out
    obtain ⟨y0, y1, y2, y3, y4, y5, yf⟩ := row6 HLb4.out.list
    have ly4 := row_lt HLb4.out.list
    go_wp2_with fail
    refine (c_BinarySearch2 ks ka _ _ (w.heap.size + 2) (own_strs HM4.out.keys HM4.out.size) HSo.out (by omega)).mono ?_
    rintro e w5 ⟨rfl, hb5⟩
    have HLb5 := hid (HLb4.out.same (Aside.of_below (S := fun q => q = b) hb5) (fun q hq => .inl hq) hlb hlg)
    have HM5 := hid (HM4.out.carry hb5.size (fun q _ h2 => hb5.block q h2))
    have HR5 := hid (HR4.out.below hb5)
    have HX5 := hid ((hb5.block _ lx4).trans HX4'.out)
    have lx5 := row_lt HX5.out
    clear hb5 v0 v1 v2 vf y0 y1 y2 y3 y4 y5 yf
    obtain ⟨v0, v1, v2, vf⟩ := row3 HX5.out
    rcases hfd : ks.contains ka with _ | _
    ·clear hfd
     obtain ⟨p5, hbx⟩ := HR5.out.open
     obtain ⟨a0, a1, a2, a3, a4, a5, af⟩ := row6 hbx.row
     have lb := row_lt hbx.row
     clear hbx
     have a3' : w5.cell? ⟨b, 3, none⟩ = some (.int .i64 8) := a3
     clear a3
     obtain ⟨x0, x1, x2, x3, x4, x5, xf⟩ := row6 HLb5.out.zero
     obtain ⟨y0, y1, y2, y3, y4, y5, yf⟩ := row6 HLb5.out.list
     have l0 := row_lt HLb5.out.zero
     have l1 := row_lt HLb5.out.list
     go_wp2_with fail
     exact bodyPost_ret (v := .agg #[.int .i64 6, .bool false, .int .i64 0, .string ⟨#[]⟩, .slice KA ks.length kc, .slice VA acc.length vc]) (by simp only [results, Tryz.results104]; go_simp) rfl (map_bad hlb hlg HLb5.out HR5.out HOk.out (by show (8 : Int) ≠ 0; decide) HF.out asd)
    ·clear hfd
     go_wp2_with fail
     refine (c_in_fail b g N cap _ m (fltA 8 xa) 5 xa w5 HR5.out).mono ?_
     rintro e w6 ⟨rfl, hR6, hA6⟩
     have HR6 := hid (show InAt 61 b g N cap (⟨xi, xt, xa⟩ :: t) m (fltA 8 xa) w6 from hR6)
     have HLb6 := hid (HLb5.out.same hA6 (fun q hq => .inl hq) hlb hlg)
     clear hR6 hA6 v0 v1 v2 vf
     obtain ⟨p6, hbx⟩ := HR6.out.open
     obtain ⟨a0, a1, a2, a3, a4, a5, af⟩ := row6 hbx.row
     have lb := row_lt hbx.row
     clear hbx
     have a3' : w6.cell? ⟨b, 3, none⟩ = some (.int .i64 8) := a3
     clear a3
     obtain ⟨x0, x1, x2, x3, x4, x5, xf⟩ := row6 HLb6.out.zero
     obtain ⟨y0, y1, y2, y3, y4, y5, yf⟩ := row6 HLb6.out.list
     have l0 := row_lt HLb6.out.zero
     have l1 := row_lt HLb6.out.list
     go_wp2_with fail
     exact bodyPost_ret (v := .agg #[.int .i64 6, .bool false, .int .i64 0, .string ⟨#[]⟩, .slice KA ks.length kc, .slice VA acc.length vc]) (by simp only [results, Tryz.results104]; go_simp) rfl (map_bad hlb hlg HLb6.out HR6.out HOk.out (by show (8 : Int) ≠ 0; decide) HF.out asd)
   have d4 : decide ((400 : Int) < ka.size) = false := decide_eq_false hwide
   obtain ⟨y0, y1, y2, y3, y4, y5, yf⟩ := row6 HLb3.out.list
   have ly3 := row_lt HLb3.out.list
   go_wp2_with fail
   refine (c_BinarySearch2 ks ka _ _ (w.heap.size + 2) (own_strs HM3.out.keys HM3.out.size) HSo.out (by omega)).mono ?_
   rintro e w5 ⟨rfl, hb5⟩
   have HLb5 := hid (HLb3.out.same (Aside.of_below (S := fun q => q = b) hb5) (fun q hq => .inl hq) hlb hlg)
   have HM5 := hid (HM3.out.carry hb5.size (fun q _ h2 => hb5.block q h2))
   have HR5 := hid (HR3.out.below hb5)
   have HX5 := hid ((hb5.block _ lx3).trans HX3.out)
   have HB5 := hid (HB3.out.trans (hb5.mono HB3.out.size))
   have lx5 := row_lt HX5.out
   have hs35 := hb5.size
   clear hb5 v0 v1 v2 vf y0 y1 y2 y3 y4 y5 yf
   obtain ⟨v0, v1, v2, vf⟩ := row3 HX5.out
   rcases hfd : ks.contains ka with _ | _
   rotate_left
   ·have HF := hid (show r = .bad (fltA 5 xa) by rw [HX4.out, if_neg (by omega), if_pos hfd])
    clear hfd
    go_wp2_with fail
    refine (c_in_fail b g N cap _ m flt0 5 xa w5 HR5.out).mono ?_
    rintro e w6 ⟨rfl, hR6, hA6⟩
    have HR6 := hid (show InAt 61 b g N cap (⟨xi, xt, xa⟩ :: t) m (fltA 5 xa) w6 from hR6)
    have HLb6 := hid (HLb5.out.same hA6 (fun q hq => .inl hq) hlb hlg)
    clear hR6 hA6 v0 v1 v2 vf
    obtain ⟨p6, hbx⟩ := HR6.out.open
    obtain ⟨a0, a1, a2, a3, a4, a5, af⟩ := row6 hbx.row
    have lb := row_lt hbx.row
    clear hbx
    have a3' : w6.cell? ⟨b, 3, none⟩ = some (.int .i64 5) := a3
    clear a3
    obtain ⟨x0, x1, x2, x3, x4, x5, xf⟩ := row6 HLb6.out.zero
    obtain ⟨y0, y1, y2, y3, y4, y5, yf⟩ := row6 HLb6.out.list
    have l0 := row_lt HLb6.out.zero
    have l1 := row_lt HLb6.out.list
    go_wp2_with fail
    exact bodyPost_ret (v := .agg #[.int .i64 6, .bool false, .int .i64 0, .string ⟨#[]⟩, .slice KA ks.length kc, .slice VA acc.length vc]) (by simp only [results, Tryz.results104]; go_simp) rfl (map_bad hlb hlg HLb6.out HR6.out HOk.out (by show (5 : Int) ≠ 0; decide) HF.out asd)
   have hx5 : r = (match pairJ k1 i d ⟨xi, xt, xa⟩ t kb m with
     | .bad f => .bad f
     | .good u L' m' => readK k1 (.pairs i d (insL ks (posK ks ka) ka) (insL acc (posK ks ka) u)) L' m') := by
    rw [HX4.out, if_neg (by omega), if_neg (by rw [hfd]; decide)]
   have HX6 := hid hx5
   have HNo := hid hfd
   clear hx5 hfd HX4
   obtain ⟨p5, hbx⟩ := HR5.out.open
   obtain ⟨a0, a1, a2, a3, a4, a5, af⟩ := row6 hbx.row
   have lb := row_lt hbx.row
   clear hbx
   have a3' : w5.cell? ⟨b, 3, none⟩ = some (.int .i64 0) := a3
   clear a3
   obtain ⟨q, hqd⟩ : ∃ q, q = decide (kb.size = 0) := ⟨_, rfl⟩
   have q1 : kb.toList.isEmpty = q := by rw [hqd]; exact empty_size kb
   have q2 : (kb.toList == []) = q := by rw [hqd, <- empty_size kb]; cases kb.toList <;> rfl
   have HQd := hid hqd
   clear hqd
   go_upto_if 78 with (fail)
   obtain ⟨w7, hw7⟩ : ∃ W, W = w5.alloc (.cells #[.int .i64 0, .bool false, .int .i64 0, .string ⟨#[]⟩, .slice none 0 0, .slice none 0 0] 34) := ⟨_, rfl⟩
   have hb7 : Below w5.heap.size w5 w7 := by rw [hw7]; exact bel
   have hK7 : w7.heap[w5.heap.size]? = some (.cells #[.int .i64 0, .bool false, .int .i64 0, .string ⟨#[]⟩, .slice none 0 0, .slice none 0 0] 34 (0, 0)) := by rw [hw7]; exact heap_at rfl
   rw [<- hw7]
   have HK7 := hid hK7
   have HLb7 := hid (HLb5.out.same (Aside.of_below (S := fun q => q = b) hb7) (fun q hq => .inl hq) hlb hlg)
   have HM7 := hid (HM5.out.carry hb7.size (fun q _ h2 => hb7.block q h2))
   have HR7 := hid (HR5.out.below hb7)
   have HX7 := hid ((hb7.block _ lx5).trans HX5.out)
   have HW7 := hid (HWr.out.trans ((HB5.out.trans (hb7.mono HB5.out.size)).mono HWr.out.size))
   have hs57 := hb7.size
   have lk7 := row_lt hK7
   have lx7 := row_lt HX7.out
   obtain ⟨kidR, hkid⟩ : ∃ q, q = pairJ k1 i d ⟨xi, xt, xa⟩ t kb m := ⟨_, rfl⟩
   have HKid := hid hkid
   rw [<- hkid] at HX6
   obtain ⟨kb0, hkb0⟩ : ∃ q, q = w5.heap.size := ⟨_, rfl⟩
   rw [<- hkb0] at lk7 HK7 ⊢
   have HKb := hid hkb0
   have HMk := hid (show MapG nT (w.heap.size + 2) kb0 w7 ks acc (.slice KA ks.length kc) (.slice VA acc.length vc) ess F by rw [HKb.out]; exact HM5.out.carry (Nat.le_refl _) (fun q _ h2 => hb7.block q h2))
   have hok2 := HOk.out.tail
   have HOk2 := hid hok2
   have hmm : m <= 1000 := by omega
   have hw1 : w.heap.size + 1 < w1.heap.size := row_lt HLb1.out.list
   have hk5 : w.heap.size + 2 <= kb0 := by rw [hkb0]; have := row_lt HLb5.out.list; omega
   have hk5' : w1.heap.size < kb0 := by rw [hkb0]; omega
   clear hw7 hb7 hK7 hkid hkb0 v0 v1 v2 vf a0 a1 a2 a3' a4 a5 af lb hok2
   obtain ⟨v0, v1, v2, vf⟩ := row3 HX7.out
   go_cut [] from 79 to 94 (fun wx => KidAt 61 b g N cap nT kb0 w7 kidR wx)
   case first =>
    rcases q with _ | _
    rotate_left
    ·have hrz : kb.size = 0 := of_decide_eq_true HQd.out.symm
     have hdd : IntKind.i64.wrap ((d : Int) + 1) = ((d + 1 : Nat) : Int) := by rw [IntKind.wrap_i64] <;> omega
     obtain ⟨dz, hdz⟩ : ∃ dz : Int, dz = ((d + 1 : Nat) : Int) := ⟨_, rfl⟩
     have HC := hid (Hbl.out k1 hkk1 i (d + 1) ⟨xi, xt, xa⟩ t m w7 (by omega) (by omega) hm HOk.out (by have := HNe.out; unfold needI at this ⊢; simp only [cost_cons] at this ⊢; omega) HW7.out HR7.out)
     have HKR := hid (HKid.out.trans (if_pos hrz))
     rw [<- hdz] at hdd HC
     clear hdz hrz
     go_wp2_with fail
     refine HC.out.mono ?_
     intro e w9 hv9
     obtain ⟨cs, L', m', f', rfl, ht9, hR9, hok9, hA9, hm9⟩ := hv9
     obtain ⟨u0, u1, u2, u3, U4, u4, u44, U5, u5, u55, rfl⟩ := ht9
     have HK9 := hid ((hA9.block kb0 lk7 (by omega)).trans HK7.out)
     have HR9 := hid hR9
     have HOk9 := hid hok9
     have HA9 := hid hA9
     have HM9 := hid hm9
     have hs79 := hA9.size
     clear hR9 hok9 hA9 hm9 v0 v1 v2 vf
     obtain ⟨z0, z1, z2, z3, z4, z5, zf⟩ := row6 HK9.out
     have lk9 := row_lt HK9.out
     go_wp2_with fail
     go_meet
     exact ⟨u0, u1, u2, u3, U4, u4, u44, U5, u5, u55, L', m', f', set6_st HK9.out, (HA9.out.mono (fun q hq => hq.elim .inl (fun h => .inr (.inl h)))).trans ((asd : Aside (fun q => q = kb0) w9 _).mono (fun q hq => .inr (.inr hq))), HR9.out.past (S := fun q => q = kb0) asd (by omega) (by omega), HOk9.out, InAt.len HR9.out, kid_good (kb := kb0) HKR.out HM9.out (by rw [HNT.out]; exact Nat.le_refl _) asd (fun x h1 h2 => by omega)⟩
    ·have hrz : ¬ kb.size = 0 := of_decide_eq_false HQd.out.symm
     have hdd : IntKind.i64.wrap ((d : Int) + 1) = ((d + 1 : Nat) : Int) := by rw [IntKind.wrap_i64] <;> omega
     obtain ⟨dz, hdz⟩ : ∃ dz : Int, dz = ((d + 1 : Nat) : Int) := ⟨_, rfl⟩
     have HC := hid (c_in_begin b g N cap _ m (d + 1) xa w7 HR7.out hmm (by omega))
     have HKR := hid (HKid.out.trans (if_neg hrz))
     rw [<- hdz] at hdd HC
     clear hdz hrz
     go_wp2_with fail
     refine HC.out.mono ?_
     rintro e w8 ⟨rfl, hR8, hA8⟩
     have HR8 := hid hR8
     have HA8 := hid (hA8.mono (fun q hq => (.inl hq : q = b ∨ q = g)))
     have HX8 := hid ((hA8.block _ lx7 (by omega)).trans HX7.out)
     have HK8 := hid ((hA8.block _ lk7 (by omega)).trans HK7.out)
     have HW8 := hid (H0.out.keep HW7.out HA8.out)
     clear hR8 hA8 v0 v1 v2 vf
     obtain ⟨v0, v1, v2, vf⟩ := row3 HX8.out
     have lx8 := row_lt HX8.out
     go_wp2_with fail
     refine (c_in_scalar w0 b g N cap _ t (m + 1) (beginX (d + 1) m xa) kb xa w8 H0.out HW8.out (by omega) HR8.out).mono ?_
     rintro e w9 ⟨rfl, hR9, hA9⟩
     obtain ⟨u0, u1, u2, u3, U4, u4, u44, U5, u5, u55, hsc⟩ := scA_tree kb
     rw [hsc]
     have HSc := hid hsc
     have HK9 := hid ((hA9.block kb0 (row_lt HK8.out) (by omega)).trans HK8.out)
     have HR9 := hid hR9
     have HA9 := hid (HA8.out.trans (hA9.mono (fun q hq => (.inl hq : q = b ∨ q = g))))
     have HOk9 := HOk2
     obtain ⟨L', hL'⟩ : ∃ q, q = t := ⟨_, rfl⟩
     obtain ⟨m', hm'⟩ : ∃ q, q = m + 1 := ⟨_, rfl⟩
     obtain ⟨f', hf'⟩ : ∃ q, q = scF (beginX (d + 1) m xa) kb xa := ⟨_, rfl⟩
     rw [<- hL', <- hm', <- hf'] at HR9
     rw [<- hL'] at HOk9
     have HL := hid (And.intro hL' (And.intro hm' hf'))
     clear hR9 hA9 hsc hL' hm' hf' v0 v1 v2 vf
     obtain ⟨z0, z1, z2, z3, z4, z5, zf⟩ := row6 HK9.out
     have lk9 := row_lt HK9.out
     go_wp2_with fail
     go_meet
     exact ⟨u0, u1, u2, u3, U4, u4, u44, U5, u5, u55, L', m', f', set6_st HK9.out, (HA9.out.mono (fun q hq => hq.elim .inl (fun h => .inr (.inl h)))).trans ((asd : Aside (fun q => q = kb0) w9 _).mono (fun q hq => .inr (.inr hq))), HR9.out.past (S := fun q => q = kb0) asd (by omega) (by omega), HOk9.out, InAt.len HR9.out, kid_lineP hnT1 HKR.out HSc.out HL.out.1 HL.out.2.1 HL.out.2.2⟩
   case rest =>
    obtain ⟨u0, u1, u2, u3, U4, u4, u44, U5, u5, u55, L', m', f', hK, hA, hR, hok', hlen', hKm⟩ := hcut
    have HKc := hid hK
    have HRc := hid hR
    have HOkc := hid hok'
    have HKm := hid hKm
    have HLc := hid (HLb7.out.same hA (fun q hq => by omega) hlb hlg)
    have HMc := hid (HMk.out.carry (Nat.le_refl _) (fun q h1 h2 => hA.block q (by omega) (by omega)))
    have hs7c := hA.size
    have hkc := row_lt hK
    clear hK hA hR hok' hKm v0 v1 v2 vf q1 q2 HQd
    obtain ⟨pi, hpi⟩ : ∃ q, q = posK ks ka := ⟨_, rfl⟩
    rw [<- hpi]
    have HPi := hid hpi
    have hiks : pi <= ks.length := by rw [hpi]; exact posK_le ks ka
    have hial : pi <= acc.length := by have := HAL.out; omega
    have halz : acc.length <= 300 := by have := HAL.out; omega
    have Hone : Hid (∀ z ∈ ([.int .i64 u0, .bool u1, .int .i64 u2, .string u3, .slice U4 u4 u44, .slice U5 u5 u55] : List Value), z.oneCell' = true) := hid (TreeV.one ⟨u0, u1, u2, u3, U4, u4, u44, U5, u5, u55, rfl⟩)
    clear hpi
    obtain ⟨y0, y1, y2, y3, y4, y5, yf⟩ := row6 HLc.out.list
    have lyc := row_lt HLc.out.list
    go_wp2_with fail
    obtain ⟨wa, hwa⟩ : ∃ W, W = wc.alloc (.cells #[.string ka] 9) := ⟨_, rfl⟩
    have hba : Below wc.heap.size wc wa := by rw [hwa]; exact bel
    have hza : wa.heap.size <= wc.heap.size + 1 := by rw [hwa]; simp
    have hzb : wc.heap.size + 1 <= wa.heap.size := by rw [hwa]; simp
    have Xa : wa.heap[wc.heap.size]? = some (.cells #[.string ka] 9 (0, 0)) := by rw [hwa]; exact heap_at rfl
    rw [<- hwa]
    have HBa := hid hba
    have HXa := hid Xa
    have HLa := hid (HLc.out.same (Aside.of_below (S := fun q => q = b) hba) (fun q hq => .inl hq) hlb hlg)
    have HRa := hid (HRc.out.below hba)
    have HKa := hid ((hba.block _ hkc).trans HKc.out)
    have HMa := hid (HMc.out.carry (Nat.le_refl _) (fun q h1 h2 => hba.block q (by omega)))
    clear y0 y1 y2 y3 y4 y5 yf hwa Xa hba
    refine (c_Insert_Str (w.heap.size + 2) ks.length pi wc.heap.size _ (.string ka) (ks.map Value.string) _ HMa.out.keys hiks HXa.out (one_strs ks) rfl (by omega) (by omega) (fun h => by have := HMa.out.hk _ h; omega)).mono ?_
    rintro e w8 ⟨g8, cap, rfl, hown8, hgrow8, hat8, hlt8⟩
    have hA8 := aside_grown hgrow8
    have hkb : ∀ q, (Value.slice KA ks.length kc).ownBlock = some q -> w.heap.size + 2 <= q /\ q < kb0 := fun q hq => ⟨(HMa.out.keys.lt q hq).1, HMa.out.hk q hq⟩
    have hlb8 : ∀ q, (Value.slice VA acc.length vc).ownBlock = some q -> w.heap.size + 2 <= q /\ q < kb0 := fun q hq => ⟨(HMa.out.kids.lt q hq).1, HMa.out.hl q hq⟩
    have hvv := own_apart HMa.out.kids HMa.out.keys (by decide)
    have hs8 := hgrow8.size
    have HL8 := hid (HLa.out.same hA8 (fun q hq => .inr (.inr (hkb q hq.symm).1)) hlb hlg)
    have HR8 := hid (HRa.out.past hA8 (fun hq => by have := (hkb _ hq.symm).1; omega) (fun hq => by have := (hkb _ hq.symm).1; omega))
    have HK8 := hid ((hA8.block _ (by omega) (fun h => by have := (hkb _ h.symm).2; omega)).trans HKa.out)
    have HV8 := hid (ownsRow_carry HMa.out.kids (fun q hq => hA8.block q (by have := (hlb8 q hq).2; omega) (fun h => hvv q hq h.symm)))
    have hg8 : w.heap.size + 2 <= g8 := (hown8.lt g8 rfl).1
    obtain ⟨y0, y1, y2, y3, y4, y5, yf⟩ := row6 HL8.out.list
    have ly8 := row_lt HL8.out.list
    have HOwn8 := hid hown8
    have HGr8 := hid (And.intro hgrow8 hat8)
    have HKB := hid hkb
    have HLB := hid hlb8
    clear hown8 hgrow8 hat8 hA8 hkb hlb8 hvv
    go_upto_region 19 with fail
    obtain ⟨w9, hw9⟩ : ∃ W, W = w8.setCell ⟨w.heap.size + 1, 4, none⟩ (.slice (some ⟨g8, 0, none⟩) (ks.length + 1) cap) := ⟨_, rfl⟩
    rw [<- hw9]
    have hz9a : w9.heap.size <= w8.heap.size := by rw [hw9]; simp
    have hz9b : w8.heap.size <= w9.heap.size := by rw [hw9]; simp
    have hA9 : Aside (fun q => q = w.heap.size + 1) w8 w9 := by rw [hw9]; exact aside_set rfl (Aside.refl _ _)
    have HL9 := hid (show LBoxI b g 6 w w9 (.slice (some ⟨g8, 0, none⟩) (ks.length + 1) cap) (.slice VA acc.length vc) by rw [hw9]; exact HL8.out.set4)
    have HR9 := hid (HR8.out.past hA9 (fun hq => by omega) (fun hq => by omega))
    have HK9 := hid ((hA9.block _ (by omega) (by omega)).trans HK8.out)
    have HV9 := hid (ownsRow_carry HV8.out (fun q hq => hA9.block q (by have := (HLB.out q hq).2; omega) (by have := (HLB.out q hq).1; omega)))
    have HQ9 := hid (ownsRow_carry HOwn8.out (fun q hq => hA9.block q (HOwn8.out.lt q hq).2 (by have := (HOwn8.out.lt q hq).1; omega)))
    have HF01 := hid (show ∀ q, w.heap.size + 2 <= q -> q < wc.heap.size -> (Value.slice KA ks.length kc).ownBlock ≠ some q -> w9.heap[q]? = wc.heap[q]? from fun q h1 h2 h3 => (hA9.block q (by omega) (by omega)).trans ((HGr8.out.1.block q (by omega) (fun h => h3 h.symm)).trans (HBa.out.block q (by omega))))
    have HG9 := hid (show ∀ q, (Value.slice (some ⟨g8, 0, none⟩) (ks.length + 1) cap).ownBlock = some q -> (Value.slice KA ks.length kc).ownBlock = some q ∨ wc.heap.size <= q from fun q hq => by
     simp [Value.ownBlock] at hq
     subst hq
     rcases HGr8.out.2 with h | h
     ·exact .inl h
     ·exact .inr (by omega))
    have hs59 : wc.heap.size <= w9.heap.size := by omega
    clear y0 y1 y2 y3 y4 y5 yf hw9 hA9
    obtain ⟨y0, y1, y2, y3, y4, y5, yf⟩ := row6 HL9.out.list
    obtain ⟨v0, v1, v2, v3, v4, v5, vf⟩ := row6 HK9.out
    have ly9 := row_lt HL9.out.list
    have lx9 := row_lt HK9.out
    go_wp2_with fail
    obtain ⟨w10, hw10⟩ : ∃ W, W = w9.alloc (.cells #[.int .i64 u0, .bool u1, .int .i64 u2, .string u3, .slice U4 u4 u44, .slice U5 u5 u55] 34) := ⟨_, rfl⟩
    have hb10 : Below w9.heap.size w9 w10 := by rw [hw10]; exact bel
    have hz10a : w10.heap.size <= w9.heap.size + 1 := by rw [hw10]; simp
    have hz10b : w9.heap.size + 1 <= w10.heap.size := by rw [hw10]; simp
    have X10 : w10.heap[w9.heap.size]? = some (.cells #[.int .i64 u0, .bool u1, .int .i64 u2, .string u3, .slice U4 u4 u44, .slice U5 u5 u55] 34 (0, 0)) := by rw [hw10]; exact heap_at rfl
    rw [<- hw10]
    have HB10 := hid hb10
    have HX10 := hid X10
    have HL10 := hid (HL9.out.same (Aside.of_below (S := fun q => q = b) hb10) (fun q hq => .inl hq) hlb hlg)
    have HR10 := hid (HR9.out.below hb10)
    have HV10 := hid (ownsRow_carry HV9.out (fun q hq => hb10.block q (by have := (HLB.out q hq).2; omega)))
    clear y0 y1 y2 y3 y4 y5 yf v0 v1 v2 v3 v4 v5 vf hw10 X10 hb10
    refine (c_Insert_Tree (w.heap.size + 2) acc.length pi w9.heap.size _ ess.flatten [.int .i64 u0, .bool u1, .int .i64 u2, .string u3, .slice U4 u4 u44, .slice U5 u5 u55] _ HV10.out hial HX10.out rfl HMa.out.one Hone.out (by omega) (by omega) (fun h => by have := (HLB.out _ h).2; omega)).mono ?_
    rintro e w12 ⟨g2, cap2, rfl, hown12, hgrow12, hat12, hlt12⟩
    have hA12 := aside_grown hgrow12
    have hs12 := hgrow12.size
    have HL12 := hid (HL10.out.same hA12 (fun q hq => .inr (.inr (HLB.out q hq.symm).1)) hlb hlg)
    have HR12 := hid (HR10.out.past hA12 (fun hq => by have := (HLB.out _ hq.symm).1; omega) (fun hq => by have := (HLB.out _ hq.symm).1; omega))
    obtain ⟨y0, y1, y2, y3, y4, y5, yf⟩ := row6 HL12.out.list
    have ly12 := row_lt HL12.out.list
    have HOwn12 := hid hown12
    have HGr12 := hid (And.intro hgrow12 hat12)
    clear hown12 hgrow12 hat12 hA12
    go_wp2_with fail
    obtain ⟨w13, hw13⟩ : ∃ W, W = w12.setCell ⟨w.heap.size + 1, 5, none⟩ (.slice (some ⟨g2, 0, none⟩) (acc.length + 1) cap2) := ⟨_, rfl⟩
    rw [<- hw13]
    have hz13a : w13.heap.size <= w12.heap.size := by rw [hw13]; simp
    have hz13b : w12.heap.size <= w13.heap.size := by rw [hw13]; simp
    have hA13 : Aside (fun q => q = w.heap.size + 1) w12 w13 := by rw [hw13]; exact aside_set rfl (Aside.refl _ _)
    have HL13 := hid (show LBoxI b g 6 w w13 (.slice (some ⟨g8, 0, none⟩) (ks.length + 1) cap) (.slice (some ⟨g2, 0, none⟩) (acc.length + 1) cap2) by rw [hw13]; exact HL12.out.set5)
    have HR13 := hid (HR12.out.past hA13 (fun hq => by omega) (fun hq => by omega))
    have HL13k := hid (ownsRow_carry HOwn12.out (fun q hq => hA13.block q (HOwn12.out.lt q hq).2 (by have := (HOwn12.out.lt q hq).1; omega)))
    have HF12 := hid (show ∀ q, w.heap.size + 2 <= q -> q < w9.heap.size -> (Value.slice VA acc.length vc).ownBlock ≠ some q -> w13.heap[q]? = w9.heap[q]? from fun q h1 h2 h3 => (hA13.block q (by omega) (by omega)).trans ((HGr12.out.1.block q (by omega) (fun h => h3 h.symm)).trans (HB10.out.block q h2)))
    have HG13 := hid (show ∀ q, (Value.slice (some ⟨g2, 0, none⟩) (acc.length + 1) cap2).ownBlock = some q -> (Value.slice VA acc.length vc).ownBlock = some q ∨ w9.heap.size <= q from fun q hq => by
     simp [Value.ownBlock] at hq
     subst hq
     rcases HGr12.out.2 with h | h
     ·exact .inl h
     ·exact .inr (by omega))
    have hs913 : w9.heap.size <= w13.heap.size := by omega
    clear y0 y1 y2 y3 y4 y5 yf hw13 hA13
    go_roundw
    case rel =>
     refine ⟨_, _, _, _, _, _, L', m', f', HL13.out, HR13.out, HOkc.out, ?_⟩
     have hm9 := HKm.out
     have hx6 := HX6.out
     rcases hres : kidR with f1 | ⟨u, L1, m1⟩
     ·rw [hres] at hm9 hx6
      exact .inr ⟨by rw [hm9.1]; exact hm9.2, by rw [hm9.1]; exact hx6⟩
     ·rw [hres] at hm9 hx6
      obtain ⟨e1, e2, e3, e4⟩ := hm9
      have hpj := HKid.out.symm.trans hres
      obtain ⟨hgw1, hgw2⟩ := pair_grow hpj hm (by omega)
      have hMG := MapG.ins (i := pi) (w0 := wc) (w1 := w9) (w2 := w13) (vk' := .slice (some ⟨g8, 0, none⟩) (ks.length + 1) cap) (vl' := .slice (some ⟨g2, 0, none⟩) (acc.length + 1) cap2) (key := ka) HMc.out (by omega) (by omega) hiks hial e4 (fun x hx => ⟨by have := hx.1; omega, hx.2⟩) (by omega)
       HF01.out hs59 HQ9.out HG9.out HF12.out hs913 HL13k.out HG13.out
      refine .inl ⟨insL ks pi ka, insL acc pi u, _, _, k1, hMG, e1, by omega, by rw [ins_len hiks]; omega, by rw [ins_len hiks, ins_len hial, HAL.out], by rw [HPi.out]; exact ins_sorted HSo.out (by rw [<- contains_hasS]; exact HNo.out), ?_, by omega, by rw [hx6, e2, e3, HPi.out]⟩
      have h1 := pair_less hpj
      have h2 := HNe.out
      rw [e2]
      unfold needI at h2 ⊢
      simp only [cost_cons] at h1 h2 ⊢
      omega
    case measure =>
     rw [HR13.out.meas, HRr.out.meas, if_pos (show flt0.code = 0 from rfl)]
     have hm9 := HKm.out
     rcases hres : kidR with f1 | ⟨u, L1, m1⟩
     ·rw [hres] at hm9
      rw [hm9.1, if_neg hm9.2]
      omega
     ·rw [hres] at hm9
      rw [hm9.1, hm9.2.1, if_pos (show flt0.code = 0 from rfl)]
      have := pair_len (HKid.out.symm.trans hres)
      simp only [List.length_cons]
      omega
theorem head_at (s : ByteArray) : headB s = true ↔ ∃ j, j < 17 /\ byteI s 0 = byteI (bs firstBad) j := by
 unfold headB
 rw [List.any_eq_true]
 constructor
 ·rintro ⟨c, hc, h⟩
  obtain ⟨j, hj, e⟩ := List.getElem_of_mem hc
  refine ⟨j, hj, ?_⟩
  have e2 : (bs firstBad).data.toList[j]? = some ((bs firstBad).get! j) := byte_list (show j < (bs firstBad).size from hj)
  rw [show (bs firstBad).data.toList = firstBad from rfl, List.getElem?_eq_getElem hj, e] at e2
  cases e2
  exact of_decide_eq_true h
 ·rintro ⟨j, hj, h⟩
  exact ⟨(bs firstBad).get! j, List.mem_of_getElem? (byte_list (show j < (bs firstBad).size from hj)), decide_eq_true h⟩
theorem head_yes {s : ByteArray} {j : Nat} (hj : j < 17) (h : byteI s 0 = byteI (bs firstBad) j) : headB s = true := (head_at s).2 ⟨j, hj, h⟩
theorem head_no {s : ByteArray} (h : ∀ j, j < 17 -> byteI s 0 ≠ byteI (bs firstBad) j) : headB s = false := by
 rcases e : headB s with _ | _
 ·rfl
 ·obtain ⟨j, hj, h2⟩ := (head_at s).1 e
  exact (h j hj h2).elim
theorem c_spec_PlainOk (s : ByteArray) (w : World) (hs : s.size <= 1048576) :
  Calls Tryz.prog 192 #[.string s] w fun e w' => e = .returned (.bool (plainB s)) /\ Below w.heap.size w w' := by
 have HU := hid (c_spec_Utf8Ok s w hs)
 obtain ⟨r, hr⟩ : ∃ r, r = plainB s := ⟨_, rfl⟩
 rw [<- hr]
 have HR := hid hr
 clear hr
 rcases hq1 : inB s.size 1 400 with _ | _
 ·have HF := hid (HR.out.trans (plain_no (.inl hq1)))
  go_enter Tryz.func192, Tryz.ntmps192
  go_wp2_with (first | (go_at_call 115; refine (c_spec_l01In _ _ _ _).mono ?_; rintro e w' ⟨rfl, rfl⟩))
  go_ret
  exact ⟨by rw [HF.out]; rfl, bel⟩
 have hq : 1 <= s.size /\ s.size <= 400 := by
  unfold inB at hq1
  have := of_decide_eq_true hq1
  omega
 obtain ⟨hsz1, hsz4⟩ := hq
 rcases hq2 : utf8B s with _ | _
 ·have HF := hid (HR.out.trans (plain_no (.inr (.inl hq2))))
  rw [hq2] at HU
  go_enter Tryz.func192, Tryz.ntmps192
  go_wp2_with (first | (go_at_call 195; refine HU.out.mono ?_; rintro e w1 ⟨rfl, hb1⟩) | (go_at_call 115; refine (c_spec_l01In _ _ _ _).mono ?_; rintro e w' ⟨rfl, rfl⟩))
  go_ret
  exact ⟨by rw [HF.out]; rfl, bel⟩
 rw [hq2] at HU
 obtain ⟨p, hp⟩ : ∃ p, s.size = p + 1 := ⟨s.size - 1, by omega⟩
 have hpz : (s.size : Int) = (p : Int) + 1 := by omega
 have hq1p : inB ((p : Int) + 1) 1 400 = true := by rw [<- hpz]; exact hq1
 have h0 : 0 < s.size := by omega
 have hpp : p < s.size := by omega
 have hps : s.size - 1 = p := by omega
 obtain ⟨b, hbb⟩ : ∃ b : Nat, b = (s.get! 0).toNat := ⟨_, rfl⟩
 have hx : (s[0]'h0).toNat = b := by rw [hbb]; exact get_byte s 0 h0
 obtain ⟨l, hll⟩ : ∃ b : Nat, b = (s.get! p).toNat := ⟨_, rfl⟩
 have hxl : (s[p]'hpp).toNat = l := by rw [hll]; exact get_byte s p hpp
 have HB : Hid (byteI s 0 = b) := hid (by unfold byteI; rw [hbb])
 have HL : Hid (byteI s (s.size - 1) = l) := hid (by rw [hps]; unfold byteI; rw [hll])
 clear hbb hll hps hp hsz1
 by_cases h4 : (b : Int) = 32
 ·have HF := hid (HR.out.trans (plain_no (.inr (.inr (.inr (.inl (HB.out.trans h4)))))))
  have k4 : ((b : Int) == 32) = true := beq_iff_eq.2 h4
  clear h4
  go_enter Tryz.func192, Tryz.ntmps192
  go_wp2_with (first | (go_at_call 195; refine HU.out.mono ?_; rintro e w1 ⟨rfl, hb1⟩) | (go_at_call 115; refine (c_spec_l01In _ _ _ _).mono ?_; rintro e w' ⟨rfl, rfl⟩))
  go_ret
  exact ⟨by rw [HF.out]; rfl, bel⟩
 have k4 : ((b : Int) == 32) = false := beq_eq_false_iff_ne.2 h4
 by_cases h5 : (l : Int) = 32
 ·have HF := hid (HR.out.trans (plain_no (.inr (.inr (.inr (.inr (HL.out.trans h5)))))))
  have k5 : ((l : Int) == 32) = true := beq_iff_eq.2 h5
  clear h5
  go_enter Tryz.func192, Tryz.ntmps192
  go_wp2_with (first | (go_at_call 195; refine HU.out.mono ?_; rintro e w1 ⟨rfl, hb1⟩) | (go_at_call 115; refine (c_spec_l01In _ _ _ _).mono ?_; rintro e w' ⟨rfl, rfl⟩))
  go_ret
  exact ⟨by rw [HF.out]; rfl, bel⟩
 have k5 : ((l : Int) == 32) = false := beq_eq_false_iff_ne.2 h5
 have HG := hid (fun h3 h6 => plain_all hq1 hq2 h3 (by rw [HB.out]; exact h4) (by rw [HL.out]; exact h5) h6)
 go_enter Tryz.func192, Tryz.ntmps192
 go_wp2_with (first | (go_at_call 195; refine HU.out.mono ?_; rintro e w1 ⟨rfl, hb1⟩) | (go_at_call 115; refine (c_spec_l01In _ _ _ _).mono ?_; rintro e w' ⟨rfl, rfl⟩))
 have HB1 := hid hb1
 clear hb1 hq1p hpp hxl k4 k5 h4 h5
 go_loopw [4] (fun s4 wr => ∃ k : Nat, s4 = .int .i64 k /\ k <= 17 /\ (∀ j, j < k -> byteI s 0 ≠ byteI (bs firstBad) j) /\ Below w.heap.size w wr) (fun s4 _ => 17 - (intOf s4).toNat)
 case atStart => exact ⟨0, rfl, Nat.zero_le _, fun j hj => absurd hj (by omega), HB1.out⟩
 case round =>
  obtain ⟨k, rfl, hk, ha, hbr⟩ := hrel
  have HA := hid ha
  have HBr := hid hbr
  clear ha hbr
  by_cases hlt : (k : Int) < 17
  ·have hkk : k < 17 := by omega
   have hd : decide ((k : Int) < 17) = true := decide_eq_true hlt
   have hz : (0 : Int) <= k := by omega
   obtain ⟨c, hcc⟩ : ∃ c : Nat, c = ((bs firstBad).get! k).toNat := ⟨_, rfl⟩
   have hxc : ((({ data := #[45, 63, 58, 44, 91, 93, 123, 125, 38, 42, 33, 124, 62, 39, 37, 64, 96] } : ByteArray))[k]'hkk).toNat = c := by rw [hcc]; exact get_byte (bs firstBad) k hkk
   have HC : Hid (byteI (bs firstBad) k = c) := hid (by unfold byteI; rw [hcc])
   clear hcc
   by_cases g : (b : Int) = c
   ·have HF := hid (HR.out.trans (plain_no (.inr (.inr (.inl (head_yes hkk (by rw [HB.out, HC.out]; exact g)))))))
    obtain rfl : b = c := by omega
    go_wp2_with fail
    refine wp_region_det 6 (by kernel_rfl) (by kernel_rfl) (by decide) ?_
    iterate 6 refine ds ?_
    intro wd hbwd
    (try simp only [Act.put, List.setIfInBounds_toArray, List.set_cons_zero, List.set_cons_succ])
    (try simp only [List.drop_succ_cons, List.drop_nil])
    have HBd := hid (HBr.out.trans (hbwd.mono HBr.out.size))
    clear hbwd
    go_wp2_with fail
    go_ret
    exact ⟨by rw [HF.out]; rfl, HBd.out⟩
   ·have j1 : ((b : Int) == (c : Int)) = false := beq_eq_false_iff_ne.2 g
    have j2 : (b == c) = false := beq_eq_false_iff_ne.2 (by omega)
    have j3 : ¬ b = c := by omega
    go_wp2_with fail
    refine wp_region_det 6 (by kernel_rfl) (by kernel_rfl) (by decide) ?_
    iterate 6 refine ds ?_
    intro wd hbwd
    (try simp only [Act.put, List.setIfInBounds_toArray, List.set_cons_zero, List.set_cons_succ])
    (try simp only [List.drop_succ_cons, List.drop_nil])
    have HBd := hid (HBr.out.trans (hbwd.mono HBr.out.size))
    clear hbwd
    go_wp2_with fail
    go_roundw
    case rel => exact ⟨k + 1, by go_num, hkk, fun j hj => by
      rcases Nat.lt_or_ge j k with h | h
      ·exact HA.out j h
      ·rw [show j = k by omega, HB.out, HC.out]; exact g, HBd.out⟩
    case measure => first | omega | (simp [intOf]; done) | (simp [intOf]; omega)
  ·have hd : decide ((k : Int) < 17) = false := decide_eq_false hlt
   have HQ := hid (head_no (s := s) (fun j hj => HA.out j (by omega)))
   go_wp2_with fail
   clear hx
   go_loop [5, 6] (fun s3 s36 => ∃ k : Nat, s3 = .bool (digK s k) /\ s36 = .int .i64 k /\ k <= s.size /\ allR k (plainC s) = true) (fun _ s36 => s.size - (intOf s36).toNat)
   case atStart => exact ⟨0, rfl, rfl, Nat.zero_le _, rfl⟩
   case round =>
    obtain ⟨k, rfl, rfl, hk, ha⟩ := hrel
    have HA := hid ha
    clear ha
    obtain ⟨dg, hdg⟩ : ∃ q, q = digK s k := ⟨_, rfl⟩
    rw [<- hdg]
    have HD := hid hdg
    clear hdg
    by_cases hlt : (k : Int) < s.size
    ·have hkk : k < s.size := by omega
     have hd : decide ((k : Int) < (p : Int) + 1) = true := decide_eq_true (by omega)
     have hz : (0 : Int) <= k := by omega
     obtain ⟨c, hcc⟩ : ∃ c : Nat, c = (s.get! k).toNat := ⟨_, rfl⟩
     have hxc : (s[k]'hkk).toNat = c := by rw [hcc]; exact get_byte s k hkk
     have HC : Hid (byteI s k = c) := hid (by unfold byteI; rw [hcc])
     clear hcc
     have HE := hid (c_l11Ends s k wr (by omega) hkk)
     obtain ⟨en, hen⟩ : ∃ q, q = endsB s k := ⟨_, rfl⟩
     rw [<- hen] at HE
     have HN := hid hen
     clear hen
     have HP : Hid (plainC s k = !(decide ((c : Int) < 32) || decide ((c : Int) = 34) || decide ((c : Int) = 35) || decide ((c : Int) = 92) || en)) := hid (by unfold plainC; rw [HC.out, <- HN.out])
     by_cases g1 : (c : Int) < 32
     ·have j1 : decide ((c : Int) < 32) = true := decide_eq_true g1
      have HF := hid (HR.out.trans (plain_at hkk (by rw [HP.out, j1]; rfl)))
      go_wp2_with fail
      go_ret
      exact ⟨by rw [HF.out]; rfl, HBr.out⟩
     have j1 : decide ((c : Int) < 32) = false := decide_eq_false g1
     by_cases g2 : (c : Int) = 34
     ·have j2 : ((c : Int) == 34) = true := beq_iff_eq.2 g2
      have HF := hid (HR.out.trans (plain_at hkk (by rw [HP.out, decide_eq_true g2]; simp)))
      go_wp2_with fail
      go_ret
      exact ⟨by rw [HF.out]; rfl, HBr.out⟩
     have j2 : ((c : Int) == 34) = false := beq_eq_false_iff_ne.2 g2
     by_cases g3 : (c : Int) = 35
     ·have j3 : ((c : Int) == 35) = true := beq_iff_eq.2 g3
      have HF := hid (HR.out.trans (plain_at hkk (by rw [HP.out, decide_eq_true g3]; simp)))
      go_wp2_with fail
      go_ret
      exact ⟨by rw [HF.out]; rfl, HBr.out⟩
     have j3 : ((c : Int) == 35) = false := beq_eq_false_iff_ne.2 g3
     by_cases g4 : (c : Int) = 92
     ·have j4 : ((c : Int) == 92) = true := beq_iff_eq.2 g4
      have HF := hid (HR.out.trans (plain_at hkk (by rw [HP.out, decide_eq_true g4]; simp)))
      go_wp2_with fail
      go_ret
      exact ⟨by rw [HF.out]; rfl, HBr.out⟩
     have j4 : ((c : Int) == 92) = false := beq_eq_false_iff_ne.2 g4
     rcases en with _ | _
     rotate_left
     ·have HF := hid (HR.out.trans (plain_at hkk (by rw [HP.out]; simp)))
      go_wp2_with (go_at_call 191; refine HE.out.mono ?_; rintro e w2 ⟨rfl, rfl⟩)
      go_ret
      exact ⟨by rw [HF.out]; rfl, HBr.out⟩
     have HA2 : Hid (allR (k + 1) (plainC s) = true) := hid (by rw [allR_succ, HA.out, HP.out, decide_eq_false g1, decide_eq_false g2, decide_eq_false g3, decide_eq_false g4]; rfl)
     have HD2 : Hid (digK s (k + 1) = (dg && digitB (c : Int))) := hid (by rw [HD.out, <- HC.out]; unfold digK; exact allR_succ _ _)
     rcases dg with _ | _
     ·go_wp2_with (go_at_call 191; refine HE.out.mono ?_; rintro e w2 ⟨rfl, rfl⟩)
      go_round
      ·exact ⟨k + 1, by rw [HD2.out]; rfl, by go_num, hkk, HA2.out⟩
      ·first | omega | (simp [intOf]; done) | (simp [intOf]; omega)
     ·by_cases y1 : (48 : Int) <= c
      ·have y1d : decide ((48 : Int) <= c) = true := decide_eq_true y1
       by_cases y2 : (c : Int) <= 57
       ·have y2d : decide ((c : Int) <= 57) = true := decide_eq_true y2
        have HD3 : Hid (digK s (k + 1) = true) := hid (by rw [HD2.out]; exact decide_eq_true ⟨y1, y2⟩)
        go_wp2_with (go_at_call 191; refine HE.out.mono ?_; rintro e w2 ⟨rfl, rfl⟩)
        go_round
        ·exact ⟨k + 1, by rw [HD3.out], by go_num, hkk, HA2.out⟩
        ·first | omega | (simp [intOf]; done) | (simp [intOf]; omega)
       ·have y2d : decide ((c : Int) <= 57) = false := decide_eq_false y2
        have HD3 : Hid (digK s (k + 1) = false) := hid (by rw [HD2.out]; exact decide_eq_false (fun h => y2 h.2))
        go_wp2_with (go_at_call 191; refine HE.out.mono ?_; rintro e w2 ⟨rfl, rfl⟩)
        go_round
        ·exact ⟨k + 1, by rw [HD3.out], by go_num, hkk, HA2.out⟩
        ·first | omega | (simp [intOf]; done) | (simp [intOf]; omega)
      ·have y1d : decide ((48 : Int) <= c) = false := decide_eq_false y1
       have HD3 : Hid (digK s (k + 1) = false) := hid (by rw [HD2.out]; exact decide_eq_false (fun h => y1 h.1))
       go_wp2_with (go_at_call 191; refine HE.out.mono ?_; rintro e w2 ⟨rfl, rfl⟩)
       go_round
       ·exact ⟨k + 1, by rw [HD3.out], by go_num, hkk, HA2.out⟩
       ·first | omega | (simp [intOf]; done) | (simp [intOf]; omega)
    ·have hd : decide ((k : Int) < (p : Int) + 1) = false := decide_eq_false (by omega)
     have hke : k = s.size := by omega
     have HF := hid (HR.out.trans (HG.out HQ.out (hke ▸ HA.out)))
     have HD3 := hid (hke ▸ HD.out)
     rw [<- HD3.out] at HF
     obtain ⟨q1, hm1⟩ : ∃ q, (s.toList == [110, 117, 108, 108]) = q := ⟨_, rfl⟩
     obtain ⟨q2, hm2⟩ : ∃ q, (s.toList == [126]) = q := ⟨_, rfl⟩
     obtain ⟨q3, hm3⟩ : ∃ q, (s.toList == [116, 114, 117, 101]) = q := ⟨_, rfl⟩
     obtain ⟨q4, hm4⟩ : ∃ q, (s.toList == [102, 97, 108, 115, 101]) = q := ⟨_, rfl⟩
     have HW : Hid (r = (!dg && !(q1 || q2 || q3 || q4))) := hid (by
      rw [HF.out]
      unfold plnW
      simp only [is_word]
      rw [<- hm1, <- hm2, <- hm3, <- hm4])
     clear HF
     rcases dg with _ | _
     ·rcases q1 with _ | _ <;> rcases q2 with _ | _ <;> rcases q3 with _ | _ <;> rcases q4 with _ | _
      all_goals
       go_wp2_with fail
       go_ret
       exact ⟨by rw [HW.out]; rfl, HBr.out⟩
     ·go_wp2_with fail
      go_ret
      exact ⟨by rw [HW.out]; rfl, HBr.out⟩
abbrev LinesE (base : Nat) (w : World) (l : List LineD) (v : Value) : Prop := RowE encLn 3 59 base w l v
def LinE (r : List LineD × Flt) (w : World) (e : Ending) (w' : World) : Prop := ∃ (A : Option Addr) (c : Nat), e = .returned (.tuple #[.slice A r.1.length c, .agg (fltC r.2)]) /\ LinesE w.heap.size w' r.1 (.slice A r.1.length c) /\ Below w.heap.size w w'
theorem cutA_pos : ∀ (l acc : List UInt8), 0 < (cutA acc l).length
 | [], _ => Nat.succ_pos 0
 | c :: l, acc => by
  unfold cutA
  split
  ·exact Nat.succ_pos _
  ·exact cutA_pos l _
theorem c_quoteEnd (s : ByteArray) (T i : Nat) (w : World) (hs : s.size <= 1048576) (hi : i < s.size) (hb : BareAt s T (i + 1) s.size true) :
  Calls Tryz.prog 173 #[.string s, .int .i64 i] w fun e w' => ∃ j : Nat, e = .returned (.int .i64 j) /\ w = w' /\ i < j /\ j <= s.size + 1 /\ ((j < s.size /\ BareAt s T (j + 1) s.size false) ∨ (s.size <= j /\ T = s.size)) := by
 have HS := hid hb
 clear hb
 go_enter Tryz.func173, Tryz.ntmps173
 go_wp2_with fail
 go_loop [1] (fun s1 => ∃ a : Nat, s1 = .int .i64 a /\ i < a /\ a <= s.size + 1 /\ BareAt s T a s.size true) (fun s1 => s.size + 1 - (intOf s1).toNat)
 case atStart => exact ⟨i + 1, by go_num, by omega, by omega, HS.out⟩
 case round =>
  obtain ⟨a, rfl, h1, h2, hb⟩ := hrel
  have HB := hid hb
  clear hb
  by_cases hlt : (a : Int) < s.size
  ·have hie : a < s.size := by omega
   have hd : decide ((a : Int) < s.size) = true := decide_eq_true hlt
   have hz : (0 : Int) <= a := by omega
   obtain ⟨b, hbb⟩ : ∃ b : Nat, b = (s.get! a).toNat := ⟨_, rfl⟩
   have hx : (s[a]'hie).toNat = b := by rw [hbb]; exact get_byte s a hie
   have HY : Hid (byteI s a = b) := hid (by unfold byteI; rw [hbb])
   clear hbb
   by_cases h34 : (b : Int) = 34
   ·have k1 : ((b : Int) == 34) = true := beq_iff_eq.2 h34
    have k4 : ((b : Int) != 34) = false := by unfold bne; rw [k1]; rfl
    go_wp2_with fail
    go_ret
    exact ⟨a, rfl, rfl, h1, h2, .inl ⟨hie, HB.out.in' hie (by rw [HY.out]; omega) (by rw [HY.out]; simp [h34])⟩⟩
   ·have k1 : ((b : Int) == 34) = false := beq_eq_false_iff_ne.2 h34
    have k4 : ((b : Int) != 34) = true := by unfold bne; rw [k1]; rfl
    by_cases h92 : (b : Int) = 92
    ·have k3 : ((b : Int) == 92) = true := beq_iff_eq.2 h92
     go_wp2_with fail
     go_round
     ·exact ⟨a + 2, by go_num, by omega, by omega, HB.out.esc hie (by rw [HY.out]; exact h92)⟩
     ·first | omega | (simp [intOf]; done) | (simp [intOf]; omega)
    ·have k3 : ((b : Int) == 92) = false := beq_eq_false_iff_ne.2 h92
     go_wp2_with fail
     go_round
     ·exact ⟨a + 1, by go_num, by omega, by omega, HB.out.in' hie (by rw [HY.out]; exact h92) (by rw [HY.out]; simp [h34])⟩
     ·first | omega | (simp [intOf]; done) | (simp [intOf]; omega)
  ·have hd : decide ((a : Int) < s.size) = false := decide_eq_false hlt
   go_wp2_with fail
   go_ret
   exact ⟨a, rfl, rfl, h1, h2, .inr ⟨by omega, (HB.out.done (by omega)).1.symm⟩⟩
def BareI (s : ByteArray) (T i : Nat) : Prop := BareAt s T i s.size false ∨ (s.size <= i /\ T = s.size)
theorem bare_cut {s : ByteArray} {T : Nat} (hT : T = scanB true false s.data.toList) : bs (trimRightB (s.extract 0 T).data.toList 32) = bs (bareL s.data.toList) := by
 unfold bareL
 rw [<- hT, extract_upto]
theorem c_impl_BareLine (s : ByteArray) (w : World) (hs : s.size <= 1048576) :
  Calls Tryz.prog 95 #[.string s] w fun e w' => e = .returned (.string (bs (bareL s.data.toList))) /\ w = w' := by
 obtain ⟨T, hT⟩ : ∃ T, T = scanB true false s.data.toList := ⟨_, rfl⟩
 have hst := BareAt.start s
 rw [<- hT] at hst
 have HE := hid (bare_cut hT)
 clear hT
 have HTs := hid (fun (e : Nat) (he : e <= s.size) => c_TrimRight (s.extract 0 e) w (by rw [ByteArray.size_extract]; omega))
 have HS := hid hst
 clear hst
 go_enter Tryz.func95, Tryz.ntmps95
 go_wp2_with fail
 go_loop [3, 4] (fun s3 s4 => ∃ i : Nat, s3 = .int .i64 s.size /\ s4 = .int .i64 i /\ i <= s.size + 2 /\ BareI s T i) (fun _ s4 => s.size + 2 - (intOf s4).toNat)
 case atStart => exact ⟨0, rfl, rfl, by omega, .inl HS.out⟩
 case round =>
  obtain ⟨i, rfl, rfl, hi, hb⟩ := hrel
  by_cases hlt : (i : Int) < s.size
  ·have hie : i < s.size := by omega
   have hd : decide ((i : Int) < s.size) = true := decide_eq_true hlt
   have hb : BareAt s T i s.size false := hb.resolve_right (by omega)
   have HB := hid hb
   have hz : (0 : Int) <= i := by omega
   obtain ⟨b, hbb⟩ : ∃ b : Nat, b = (s.get! i).toNat := ⟨_, rfl⟩
   have hx : (s[i]'hie).toNat = b := by rw [hbb]; exact get_byte s i hie
   have HY : Hid (byteI s i = b) := hid (by unfold byteI; rw [hbb])
   clear hbb hb
   rcases i with _ | m
   ·have h00 : Hid (firstA s 0 = true) := hid rfl
    by_cases h35 : (b : Int) = 35
    ·have k2 : ((b : Int) == 35) = true := beq_iff_eq.2 h35
     obtain ⟨-, hT, hTs⟩ := HB.out.rem hie h00.out (by rw [HY.out]; exact h35)
     subst hT
     have K := hid (HTs.out _ hTs)
     rw [HE.out, show s.extract 0 0 = ByteArray.empty by (rw [extract_upto]; rfl)] at K
     clear HTs HE
     go_wp2_with fail
     refine K.out.mono ?_
     rintro e w1 ⟨rfl, rfl⟩
     go_wp2_with fail
     go_ret
     exact ⟨rfl, rfl⟩
    ·have k2 : ((b : Int) == 35) = false := beq_eq_false_iff_ne.2 h35
     by_cases h34 : (b : Int) = 34
     ·have k1 : ((b : Int) == 34) = true := beq_iff_eq.2 h34
      have K := hid (c_quoteEnd s T 0 w hs hie (HB.out.open' hie h00.out (by rw [HY.out]; exact h34)))
      rw [show ((0 : Nat) : Int) = 0 from rfl] at K
      go_wp2_with fail
      refine K.out.mono ?_
      rintro e w1 ⟨j, rfl, rfl, hj1, hj2, hj3⟩
      have HJ := hid hj3
      clear hj3
      go_wp2_with fail
      go_round
      ·exact ⟨j + 1, rfl, by go_num, by omega, by rcases HJ.out with h | h; exact .inl h.2; exact .inr ⟨by omega, h.2⟩⟩
      ·first | omega | (simp [intOf]; done) | (simp [intOf]; omega)
     ·have k1 : ((b : Int) == 34) = false := beq_eq_false_iff_ne.2 h34
      go_wp2_with fail
      go_round
      ·exact ⟨1, rfl, by go_num, by omega, .inl (HB.out.go hie (fun _ => by rw [HY.out]; exact ⟨h34, h35⟩))⟩
      ·first | omega | (simp [intOf]; done) | (simp [intOf]; omega)
   ·have hmm : m < s.size := by omega
    have hzm : (0 : Int) <= m := by omega
    have hm1 : ((m + 1 : Nat) : Int) = (m : Int) + 1 := by omega
    have hm0 : (((m : Int) + 1) == 0) = false := beq_eq_false_iff_ne.2 (by omega)
    obtain ⟨p, hpp⟩ : ∃ p : Nat, p = (s.get! m).toNat := ⟨_, rfl⟩
    have hxp : (s[m]'hmm).toNat = p := by rw [hpp]; exact get_byte s m hmm
    have HP : Hid (firstA s (m + 1) = decide ((p : Int) = 32)) := hid (by rw [firstA_next]; unfold byteI; rw [hpp])
    clear hpp
    by_cases h32 : (p : Int) = 32
    ·have k0 : ((p : Int) == 32) = true := beq_iff_eq.2 h32
     have h00 : Hid (firstA s (m + 1) = true) := hid (by rw [HP.out]; exact decide_eq_true h32)
     by_cases h35 : (b : Int) = 35
     ·have k2 : ((b : Int) == 35) = true := beq_iff_eq.2 h35
      obtain ⟨-, hT, hTs⟩ := HB.out.rem hie h00.out (by rw [HY.out]; exact h35)
      subst hT
      have K := hid (HTs.out _ hTs)
      rw [HE.out] at K
      clear HTs HE
      go_wp2_with fail
      refine K.out.mono ?_
      rintro e w1 ⟨rfl, rfl⟩
      go_wp2_with fail
      go_ret
      exact ⟨rfl, rfl⟩
     ·have k2 : ((b : Int) == 35) = false := beq_eq_false_iff_ne.2 h35
      by_cases h34 : (b : Int) = 34
      ·have k1 : ((b : Int) == 34) = true := beq_iff_eq.2 h34
       have K := hid (c_quoteEnd s T (m + 1) w hs hie (HB.out.open' hie h00.out (by rw [HY.out]; exact h34)))
       rw [hm1] at K
       go_wp2_with fail
       refine K.out.mono ?_
       rintro e w1 ⟨j, rfl, rfl, hj1, hj2, hj3⟩
       have HJ := hid hj3
       clear hj3
       go_wp2_with fail
       go_round
       ·exact ⟨j + 1, rfl, by go_num, by omega, by rcases HJ.out with h | h; exact .inl h.2; exact .inr ⟨by omega, h.2⟩⟩
       ·first | omega | (simp [intOf]; done) | (simp [intOf]; omega)
      ·have k1 : ((b : Int) == 34) = false := beq_eq_false_iff_ne.2 h34
       go_wp2_with fail
       go_round
       ·exact ⟨(m + 2), rfl, by go_num, by omega, .inl (HB.out.go hie (fun _ => by rw [HY.out]; exact ⟨h34, h35⟩))⟩
       ·first | omega | (simp [intOf]; done) | (simp [intOf]; omega)
    ·have k0 : ((p : Int) == 32) = false := beq_eq_false_iff_ne.2 h32
     have HN : Hid (firstA s (m + 1) = false) := hid (by rw [HP.out]; exact decide_eq_false h32)
     go_wp2_with fail
     go_round
     ·exact ⟨(m + 2), rfl, by go_num, by omega, .inl (HB.out.go hie (fun h => by rw [HN.out] at h; cases h))⟩
     ·first | omega | (simp [intOf]; done) | (simp [intOf]; omega)
  ·have hd : decide ((i : Int) < s.size) = false := decide_eq_false hlt
   have hTs : T = s.size := by
    rcases hb with h | h
    ·exact (h.done (by omega)).1.symm
    ·exact h.2
   clear hb
   subst hTs
   have K := hid (HTs.out s.size (Nat.le_refl _))
   rw [HE.out, show s.extract 0 s.size = s by (rw [extract_upto, List.take_of_length_le (by rw [list_size]; exact Nat.le_refl _)])] at K
   clear HTs HE
   go_wp2_with fail
   refine K.out.mono ?_
   rintro e w1 ⟨rfl, rfl⟩
   go_wp2_with fail
   go_ret
   exact ⟨rfl, rfl⟩
theorem c_impl_LinesIn (s : ByteArray) (w : World) (hs : s.size <= 1048576) (hT : Tabs w) (hM : MaxL w) :
  Calls Tryz.prog 49 #[.string s] w (LinE (linesF s) w) := by
 obtain ⟨i0, hi, hz0, hz1, hz2⟩ := info_parts (show (Tryz.prog.info? 59).map (fun i => (i.zero, i.size, i.bytes)) = some (some (.agg #[.int .i64 0, .string ⟨#[]⟩, .int .i64 0]), 3, 32) from by kernel_rfl)
 have HVT := hid (And.intro hT hM)
 clear hT hM
 obtain ⟨f, hf⟩ : ∃ f, f = textF s := ⟨_, rfl⟩
 obtain ⟨fc, fa, fp⟩ := f
 have HTf := hid hf
 clear hf
 by_cases hc : fc = 0
 rotate_left
 ·have d1 : (fc == 0) = false := beq_eq_false_iff_ne.2 hc
  have d2 : (fc != 0) = true := bne_iff_ne.2 hc
  have HF := hid (show linesF s = ([], ⟨fc, fa, fp⟩) by rw [linesF_bad (by rw [<- HTf.out]; exact hc), HTf.out])
  clear hc
  go_enter Tryz.func49, Tryz.ntmps49
  go_wp2_with fail
  refine (c_impl_textFault s _ hs (HVT.out.1.below bel)).mono ?_
  rintro e w1 ⟨rfl, hb⟩
  rw [<- HTf.out]
  simp only [fltC]
  have hbox : w1.heap[w.heap.size]? = some (.cells #[.int .i64 0, .int .i64 0, .string ⟨#[]⟩] 23 (0, 0)) := (hb.block w.heap.size (by simp)).trans (heap_at (by simp))
  have l1 := row_lt hbox
  have hB1 : Below w.heap.size w w1 := bel
  obtain ⟨a0, a1, a2, af⟩ := row3 hbox
  clear hbox
  go_wp2_with fail
  go_region_law (fail)
  all_goals
   (try go_wp2_with fail)
   exact bodyPost_ret (v := .tuple #[.slice none 0 0, .agg #[.int .i64 fc, .int .i64 fa, .string fp]]) (by simp only [results, Tryz.results49]; go_simp) rfl ⟨none, 0, by rw [HF.out]; rfl, by rw [HF.out]; exact World.ownsRow_nil _ _ _ _, bel⟩
 obtain rfl := hc
 have hcode : (textF s).code = 0 := by rw [<- HTf.out]
 have hl2 : s.size <= 20000 := textF_zero hcode
 have HF := hid hcode
 clear hcode
 go_enter Tryz.func49, Tryz.ntmps49
 go_wp2_with fail
 refine (c_impl_textFault s _ hs (HVT.out.1.below bel)).mono ?_
 rintro e w1 ⟨rfl, hb⟩
 rw [<- HTf.out]
 simp only [fltC]
 have hbox : w1.heap[w.heap.size]? = some (.cells #[.int .i64 0, .int .i64 0, .string ⟨#[]⟩] 23 (0, 0)) := (hb.block w.heap.size (by simp)).trans (heap_at (by simp))
 have l1 := row_lt hbox
 have HBox1 := hid hbox
 have HB1 := hid (bel : Below w.heap.size w w1)
 clear hbox hb
 go_wp2_with fail
 obtain ⟨wp, hwp⟩ : ∃ W, W = (w1.alloc (.cells #[.int .i64 0, .int .i64 fa, .string fp] 23)).alloc (.cells #[] 59) := ⟨_, rfl⟩
 have hBp : Below w1.heap.size w1 wp := by rw [hwp]; exact bel
 have hE0 : LinesE (w.heap.size + 1) wp [] (.slice (some ⟨w1.heap.size + 1, 0, none⟩) 0 0) := by rw [hwp]; exact own_empty (by simp) (by simp; omega)
 have lp : w1.heap.size + 1 < wp.heap.size := by rw [hwp]; simp
 rw [<- hwp]
 have HBp := hid (HB1.out.trans (hBp.mono HB1.out.size))
 have HBx := hid ((hBp.block _ l1).trans HBox1.out)
 have HE0 := hid hE0
 clear hwp hBp hE0
 refine (c_Split s wp (by omega) (HVT.out.2.below HBp.out)).mono ?_
 rintro e w2 ⟨P, rfl, hcut, hlen, hw2⟩
 have hpos : 0 < P.length := by
  have := congrArg List.length hcut
  rw [List.length_map] at this
  rw [this]
  exact cutA_pos _ _
 obtain ⟨g, hg⟩ : ∃ g, g = wp.heap.size := ⟨_, rfl⟩
 have hrow : w2.heap[g]? = some (.cells (P.map Value.string).toArray 9 (0, 0)) := by rw [hw2, hg]; exact heap_at rfl
 have hB2 : Below wp.heap.size wp w2 := by rw [hw2]; exact bel
 rw [<- hg] at lp hB2 ⊢
 have HRow2 := hid hrow
 have HB2 := hid (HBp.out.trans (hB2.mono (by rw [hg]; exact HBp.out.size)))
 have HBx2 := hid ((hB2.block _ (by have := row_lt HBx.out; omega)).trans HBx.out)
 have HE2 := hid (HE0.out.carry (fun q hq => hB2.block q (by have := (World.ownsRow.lt HE0.out q hq).2; omega)))
 have HS0 := hid (LnAt.start HF.out hcut)
 have hPz : P.length <= 20001 := by omega
 have HI0 := hid hi
 have l1g : w.heap.size + 1 < g := by omega
 clear hw2 hrow hB2 hcut hg hi
 go_wp2_with fail
 go_loopw [5, 20] (fun s5 s20 wr => ∃ (i n : Nat) (L : List LineD) (A : Option Addr) (c : Nat), s20 = .int .i64 i /\ n = L.length /\ s5 = .slice A n c /\ i <= P.length /\ LnAt s P i L /\ LinesE (w.heap.size + 1) wr L (.slice A n c) /\ (∀ q, (Value.slice A n c).ownBlock = some q -> q ≠ g) /\ wr.heap[w.heap.size]? = some (.cells #[.int .i64 0, .int .i64 0, .string ⟨#[]⟩] 23 (0, 0)) /\ wr.heap[g]? = some (.cells (P.map Value.string).toArray 9 (0, 0)) /\ Below w.heap.size w wr) (fun _ s20 _ => P.length - (intOf s20).toNat)
 case atStart => exact ⟨0, 0, [], _, _, rfl, rfl, rfl, Nat.zero_le _, HS0.out, HE2.out, (fun q hq => by simp [Value.ownBlock] at hq; omega), HBx2.out, HRow2.out, HB2.out⟩
 case round =>
  obtain ⟨i, n, L, A, c, rfl, hn, rfl, hi, hA, hR, hO, hbx, hrow, hbr⟩ := hrel
  have HR := hid hR
  have HA := hid hA
  have HN := hid hn
  have HO := hid hO
  have HBx := hid hbx
  have HRow := hid hrow
  have HBr := hid hbr
  have lgr := row_lt hrow
  have lbr := row_lt hbx
  have hni : n <= i := by rw [hn]; exact hA.size
  clear hR hA hn hO hbx hrow hbr HBx2 HRow2 HB2 HE2 HS0
  by_cases hlt : (i : Int) < P.length
  ·have hii : i < P.length := by omega
   have hd : decide ((i : Int) < P.length) = true := decide_eq_true hlt
   have hz : (0 : Int) <= i := by omega
   obtain ⟨x, hx⟩ := exists_at hii
   have hcx : wr.cell? ⟨g, i, none⟩ = some (.string x) := by rw [cell_of_row _ _ _ _ _ _ HRow.out]; simp [hx]
   have hxz : x.size <= 20000 := Nat.le_trans (HA.out.small hx) hl2
   have HPx := hid hx
   clear hx
   go_wp2_with fail
   refine (c_IndexLow x wr).mono ?_
   rintro e w3 ⟨z, rfl, hlow, hb3⟩
   have HB3 := hid hb3
   have HBx3 := hid ((hb3.block _ lbr).trans HBx.out)
   have HRow3 := hid ((hb3.block _ lgr).trans HRow.out)
   have HR3 := hid (HR.out.below hb3)
   have l3 := hb3.size
   clear hb3
   rcases hq : lowB x.data.toList with _ | _
   rotate_left
   ·have hzz : decide (0 <= z) = true := hlow.trans hq
    have HF2 := hid (HA.out.bad HPx.out hq)
    obtain ⟨a0, a1, a2, af⟩ := row3 HBx3.out
    have la := row_lt HBx3.out
    clear hlow hq
    go_wp2_with fail
    exact bodyPost_ret (v := .tuple #[.slice none 0 0, .agg #[.int .i64 3, .int .i64 ((i : Int) + 1), .string ⟨#[]⟩]]) (by simp only [results, Tryz.results49]; go_simp) rfl ⟨none, 0, by rw [HF2.out]; rfl, by rw [HF2.out]; exact World.ownsRow_nil _ _ _ _, (HBr.out.trans (HB3.out.mono HBr.out.size)).trans (Aside.below (S := fun b => b = w.heap.size) asd (Nat.le_trans HBr.out.size l3) (fun i hi => by omega))⟩
   ·have hzz : decide (0 <= z) = false := hlow.trans hq
    have HLo := hid hq
    obtain ⟨y, hy⟩ : ∃ y, y = bs (bareL x.data.toList) := ⟨_, rfl⟩
    have KB := hid (c_impl_BareLine x w3 (by omega))
    rw [<- hy] at KB
    have HYd := hid hy
    clear hy hlow hq
    go_wp2_with fail
    refine KB.out.mono ?_
    rintro e wz ⟨rfl, rfl⟩
    by_cases hnil : bareL x.data.toList = []
    ·obtain rfl : y = ByteArray.empty := by rw [HYd.out, hnil]; rfl
     have HA2 := hid (HA.out.skip HPx.out HLo.out hnil)
     clear hnil
     go_wp2_with fail
     go_roundw
     case rel => exact ⟨i + 1, n, L, A, c, by go_num, HN.out, rfl, by omega, HA2.out, HR3.out, HO.out, HBx3.out, HRow3.out, HBr.out.trans (HB3.out.mono HBr.out.size)⟩
     case measure => first | omega | (simp [intOf]; done) | (simp [intOf]; omega)
    ·have hyz : y.size = (bareL x.data.toList).length := by rw [HYd.out]; exact size_mk _
     have hyl : 0 < y.size := by rw [hyz]; exact List.length_pos_iff.2 hnil
     have hyd : y.toList.isEmpty = false := by rw [ByteArray.toList_eq, HYd.out]; show (bareL x.data.toList).isEmpty = false; cases hb : bareL x.data.toList; exact absurd hb hnil; rfl
     have hye : (!y.toList.isEmpty) = true := by rw [hyd]; rfl
     have hyb : y.size <= 20000 := by rw [hyz]; exact Nat.le_trans (bareL_len _) (by rw [list_size]; exact hxz)
     have hyL : y.data.toList = bareL x.data.toList := by rw [HYd.out]; rfl
     have KI := hid (c_impl_IndentOf y w3 (by omega))
     rw [hyL] at KI
     have htr := bs_trim (bareL x.data.toList)
     rw [<- HYd.out] at htr
     have hdl : indL (bareL x.data.toList) <= y.size := by rw [hyz]; unfold indL; exact Nat.sub_le _ _
     have HA2 := hid (HA.out.add HPx.out HLo.out hnil)
     obtain ⟨d, hdd⟩ : ∃ d, d = indL (bareL x.data.toList) := ⟨_, rfl⟩
     rw [<- htr, <- hdd] at HA2
     rw [<- hdd] at KI hdl
     clear hyz hyL htr hdd hnil
     have hdI : (d : Int) <= y.size := by omega
     have hd0 : (0 : Int) <= d := by omega
     go_wp2_with fail
     refine KI.out.mono ?_
     rintro e wz ⟨rfl, rfl⟩
     go_wp2_with (at_builtin; go_loud (refine wpList_append_rows (C := C_Ln) rfl (.tmp 37) (.tmp 45) 54 rfl (w.heap.size + 1) 59 i0 (.agg #[.int .i64 0, .string ⟨#[]⟩, .int .i64 0]) 3 32 Tryz.underlying54 HI0.out hz0 hz1 hz2 rfl (by decide) encLn_len encLn_one encLn_C _ n L rfl HN.out.symm (HR3.out.below bel) [(⟨d, y.extract d y.size, i + 1⟩ : LineD)] (some ⟨_, 0, none⟩) 1 1 _ _ rfl rfl (sl_oneG encLn_len _ _ rfl 59 _ rfl (by simp)) (by unfold maxLen; omega) (by omega) (by simp; omega) ?_))
     intro v' w4 hR4 hg4 ha4
     obtain ⟨A4, c4, rfl⟩ := hR4.form
     have HR4 := hid hR4
     have hk4 : ∀ k, k < w3.heap.size -> k = w.heap.size ∨ k = g -> w4.heap[k]? = w3.heap[k]? := fun k hk hh => (hg4.block k (by simp; omega) (fun e => by
      have h5 := World.ownsRow.lt HR3.out k e.symm
      rcases hh with rfl | rfl
      ·omega
      ·exact HO.out _ e.symm rfl)).trans (Below.heap_alloc _ _ _ hk)
     have hb4 : Below w.heap.size w w4 := (HBr.out.trans (HB3.out.mono HBr.out.size)).trans (Below.grown ((bel : Below w3.heap.size w3 _).mono (Nat.le_trans HBr.out.size l3)) hg4 (by simp; omega) (fun q hq => by have := (World.ownsRow.lt HR3.out q hq).1; omega))
     have hO4 : ∀ q, (Value.slice A4 (L ++ [(⟨d, y.extract d y.size, i + 1⟩ : LineD)]).length c4).ownBlock = some q -> q ≠ g := fun q hq => by
      rcases ha4 with h | h
      ·rw [h] at hq; exact HO.out q hq
      ·rw [h] at hq; simp at hq; omega
     have HO4 := hid hO4
     have HB4 := hid hb4
     have HBx4 := hid ((hk4 _ (by omega) (.inl rfl)).trans HBx3.out)
     have HRow4 := hid ((hk4 _ (by omega) (.inr rfl)).trans HRow3.out)
     have hln : (L ++ [(⟨d, y.extract d y.size, i + 1⟩ : LineD)]).length = n + 1 := by rw [List.length_append, <- HN.out]; rfl
     have HL := hid hln
     clear hR4 hg4 ha4 hO4 hk4 hb4 hln
     go_wp2_with fail
     go_roundw
     case rel => exact ⟨i + 1, n + 1, L ++ [⟨d, y.extract d y.size, i + 1⟩], A4, c4, by go_num, HL.out.symm, by rw [HL.out], by omega, HA2.out, by rw [<- HL.out]; exact HR4.out, by rw [<- HL.out]; exact HO4.out, HBx4.out, HRow4.out, HB4.out⟩
     case measure => first | omega | (simp [intOf]; done) | (simp [intOf]; omega)
  ·have hd : decide ((i : Int) < P.length) = false := decide_eq_false hlt
   have HE := hid (HA.out.end' (by omega))
   obtain ⟨a0, a1, a2, af⟩ := row3 HBx.out
   have la := row_lt HBx.out
   go_wp2_with fail
   exact bodyPost_ret (v := .tuple #[.slice A n c, .agg #[.int .i64 0, .int .i64 0, .string ⟨#[]⟩]]) (by simp only [results, Tryz.results49]; go_simp) rfl ⟨A, c, by rw [HE.out, HN.out]; rfl, by
    rw [HE.out]
    show LinesE _ _ L (.slice A L.length c)
    rw [<- HN.out]
    exact (HR.out.less (Nat.le_succ _)).carry (fun q hq => (asd : Aside (fun b => b = w.heap.size) wr _).block q (World.ownsRow.lt HR.out q hq).2 (by have := (World.ownsRow.lt HR.out q hq).1; omega)), HBr.out.trans (Aside.below (S := fun b => b = w.heap.size) asd HBr.out.size (fun i hi => by omega))⟩
end Go.Proofs.YtohcpifekcehjaaGreatDoor
