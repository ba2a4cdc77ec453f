/- Steps to FnIndentedNormal. No conditions. -/
import Derived.Test.YtohcpifekcehjaaGreatDoorKfni14
import Derived.Test.YtohcpifekcehjaaGreatDoorKfni8
import Derived.Test.YtohcpifekcehjaaGreatDoorKfni7
import Derived.Test.YtohcpifekcehjaaGreatDoorKfni12
import Derived.Test.YtohcpifekcehjaaGreatDoorKfni3
import Derived.Test.YtohcpifekcehjaaGreatDoorKfni6
import Derived.Test.YtohcpifekcehjaaGreatDoorKfni4
import Derived.Test.YtohcpifekcehjaaGreatDoorKfni9
set_option maxHeartbeats 16000000
set_option maxRecDepth 20000
namespace Go.Proofs.YtohcpifekcehjaaGreatDoor
open Go.RowKit Go.Lib
theorem XF {ty : TypeId} {b g N cap nT : Nat} {w wx wF : World} {r : ResI} {L : List LineD} {m : Nat} {f : Flt} {A A' : Option Addr} {n c n' c' : Nat}
  (hb : b < w.heap.size) (hg : g < w.heap.size) (hL : LBoxI b g 6 w wx (.slice A n c) (.slice A' n' c')) (hR : InAt ty b g N cap L m f wx) (hok : InOk L) (h1 : f.code ≠ 0) (h2 : r = .bad f) (hF : Aside (fun q => q = w.heap.size) wx wF) :
  OutI ty b g N cap (nT + 1) r w (.returned (.agg #[.int .i64 6, .bool false, .int .i64 0, .string ⟨#[]⟩, .slice A n c, .slice A' n' c'])) wF := by
 subst h2;exact ⟨_, L, m, f, rfl, ⟨_, _, _, _, _, _, _, _, _, _, rfl⟩, hR.past hF (fun q => by omega) (fun q => by omega), hok, Aside.low2 (hL.aside.join hF (fun q hq _ => .inr (.inr (by omega)))), rfl, h1⟩
theorem UP {ty : TypeId} {b g N cap nT : Nat} {w wx wF : World} {r : ResI} {L : List LineD} {m : Nat} {A A' : Option Addr} {n c n' c' : Nat} {ks : List ByteArray} {acc : List TreeD} {ess : List (List Value)} {F : Nat -> Nat -> Prop}
  (hb : b < w.heap.size) (hg : g < w.heap.size) (hL : LBoxI b g 6 w wx (.slice A n c) (.slice A' n' c')) (hM : MapG nT (w.heap.size + 2) wx.heap.size wx ks acc (.slice A n c) (.slice A' n' c') ess F) (hR : InAt ty b g N cap L m Jv wx) (hok : InOk L) (h2 : r = .good (QD ks acc) L m) (hF : Aside (fun q => q = w.heap.size) wx wF) :
  OutI ty b g N cap (nT + 1) r w (.returned (.agg #[.int .i64 6, .bool false, .int .i64 0, .string ⟨#[]⟩, .slice A n c, .slice A' n' c'])) wF := by
 subst h2
 exact ⟨_, L, m, Jv, rfl, ⟨_, _, _, _, _, _, _, _, _, _, rfl⟩, hR.past hF (fun q => by omega) (fun q => by omega), hok, Aside.low2 (hL.aside.join hF (fun q hq _ => .inr (.inr (by omega)))), rfl, rfl, rfl,
  hM.tree (fun q h1 h2 => hF.block q h2 (by omega)) (fun q h1 h2 => ⟨by omega, Nat.lt_of_lt_of_le h2 hF.size⟩)⟩
def JlK (ty : TypeId) (b g N cap i n d nT : Nat) (r : ResI) (w wx : World) : Prop :=
 ∃ (KA : Option Addr) (kn kc : Nat) (VA : Option Addr) (vn vc : Nat) (L : List LineD) (m : Nat) (f : Flt), LBoxI b g 6 w wx (.slice KA kn kc) (.slice VA vn vc) /\ InAt ty b g N cap L m f wx /\ InOk L /\
  ((∃ (ks : List ByteArray) (acc : List TreeD) (ess : List (List Value)) (F : Nat -> Nat -> Prop) (k : Nat), MapG nT (w.heap.size + 2) wx.heap.size wx ks acc (.slice KA kn kc) (.slice VA vn vc) ess F /\ f = Jv /\ m <= 300 /\ ks.length <= m /\ acc.length = ks.length /\ Q4 ks /\ JG (.pairs i d ks acc) L <= k /\ k <= n /\ r = Jn k (.pairs i d ks acc) L m) ∨
   (f.code ≠ 0 /\ r = .bad f))
theorem JcK (o : Option (ByteArray × ByteArray)) : ∃ a c q, Jl1 o = .tuple #[.string a, .string c, .bool q] /\ q = o.isSome /\ ∀ k r, o = some (k, r) -> a = k /\ c = r := by
 rcases o with _ | ⟨k, r⟩
 ·exact ⟨_, _, _, rfl, rfl, fun _ _ h => by cases h⟩
 exact ⟨_, _, _, rfl, rfl, fun _ _ h => by cases h; exact ⟨rfl, rfl⟩⟩
theorem Jbx (o : Option (ByteArray × Nat)) : ∃ (a : ByteArray) (c : Nat) (q : Bool), Jhx o = .tuple #[.string a, .int .i64 c, .bool q] /\ q = o.isSome := by
 rcases o with _ | ⟨k, r⟩
 ·exact ⟨_, 0, _, rfl, rfl⟩
 exact ⟨_, _, _, rfl, rfl⟩
theorem JjK {s key rest : ByteArray} (h : Qq s = some (key, rest)) (hs : s.size <= 20000) : key.size <= 1048576 /\ rest.size <= 20000 := by
 unfold Qq at h;by_cases c1 : 0 < s.size /\ Jb s 0 = 34
 ·rw [if_pos c1] at h
  by_cases c2 : 0 <= (Jr s 0).2 /\ Qc s (Jr s 0).2.toNat = true
  ·rw [if_pos c2] at h
   cases h
   refine ⟨?_, by have := JaR s ((Jr s 0).2.toNat + 1); omega⟩;unfold Jr;rw [if_pos c1.1, if_pos c1.2];have := JbQ s (s.size - (0 + 1)) (0 + 1) [];unfold Vo;simp at this ⊢;omega
  rw [if_neg c2] at h; cases h
 rw [if_neg c1] at h;rcases hf : Un s s.size 0 with _ | i
 ·rw [hf] at h; cases h
 rw [hf] at h;simp only at h;by_cases c3 : Qa (bs (s.data.toList.take i)) = true
 ·rw [if_pos c3] at h
  cases h
  refine ⟨?_, by have := JaR s (i + 1); omega⟩;rw [JjN, List.length_take, Jp];omega
 rw [if_neg c3] at h; cases h
theorem JjC {ks : List ByteArray} {key : ByteArray} (hso : Q4 ks) : decide (Qy ks key < ks.length /\ (ks[Qy ks key]?).getD key = key) = ks.contains key := by
 rw [Bool.eq_iff_iff, decide_eq_true_eq, QV, Jb4];constructor
 ·rintro ⟨h1, h2⟩
  obtain ⟨a, ha⟩ := Jg h1;rw [ha] at h2;exact h2 ▸ List.mem_of_getElem? ha
 intro hm;obtain ⟨j, hj⟩ := List.getElem?_of_mem hm;have hjl := (List.getElem?_eq_some_iff.1 hj).1;have hle := Ua ks key
 have h1 : ¬ j < Qy ks key := fun h => by
  have := Wk h hj;unfold JU at this;rw [WS] at this;cases this
 have h2 : Qy ks key = j := by
  rcases Nat.lt_or_ge (Qy ks key) j with h | h
  ·exfalso
   obtain ⟨a, ha⟩ := Jg (l := ks) (k := Qy ks key) (by omega);have h3 := Jb5 hso (Nat.le_refl _) ha
   have h4 : JU a key = true := by
    have := List.pairwise_iff_getElem.1 hso (Qy ks key) j (by omega) hjl h;rw [(List.getElem?_eq_some_iff.1 ha).2, (List.getElem?_eq_some_iff.1 hj).2] at this;exact this
   rw [h4] at h3;cases h3
  omega
 rw [h2, hj];exact ⟨hjl, rfl⟩
theorem Ur (ks : List ByteArray) (key : ByteArray) (v : Value) (w : World) (lo : Nat) (hs : Sl_Str lo w.heap.size w ks v) (hso : Q4 ks) (hn : ks.length <= 1048577) :
  Calls Tryz.prog 183 #[v, .string key] w fun e w' => e = .returned (.tuple #[.int .i64 (Qy ks key : Nat), .bool (ks.contains key)]) /\ Below w.heap.size w w' := by
 obtain ⟨A, c, rfl, hlc, hcc, hA⟩ := hs;by_cases hp : 0 < ks.length
 ·obtain ⟨b, o, rfl, -, -, hcell⟩ := hA hp
  have h := Any2.slices_BinarySearch_string Jkx b o ks.length c (fun t => (ks[t]?).getD key) key w (by omega) (fun j hj => by
   obtain ⟨d, hd⟩ := Jg hj;obtain ⟨es, -, hcs, rfl, -⟩ := hcell j d hd;have h0 := hcs 0 (by omega);simp at h0;rw [hd]
   exact h0)
  change Calls Tryz.prog 183 _ _ _ at h
  refine h.mono ?_;rintro e w' ⟨rfl, q, rfl⟩
  have hb := Lib.bsGo_spec (fun t => Op.bytesLess ((ks[t]?).getD key).toList key.toList) (Qy ks key) (fun t ht => by
    have hl := Ua ks key;obtain ⟨d, hd⟩ := Jg (l := ks) (k := t) (by omega);simp only [hd, Option.getD_some]
    exact Wk ht hd) (fun t ht => by
    rcases hd : ks[t]? with _ | d
    ·simp only [Option.getD_none]
     exact WS _
    simp only [Option.getD_some]
    exact Jb5 hso ht hd) ks.length 0 ks.length (by omega) (Nat.zero_le _) (Ua _ _)
  rw [hb];refine ⟨?_, Jao (Below.refl _ _) _⟩;rw [<- JjC hso]
 obtain rfl : ks = [] := List.eq_nil_of_length_eq_zero (by omega);have h := Any2.slices_BinarySearch_string_empty Jkx A c key w;change Calls Tryz.prog 183 _ _ _ at h
 refine h.mono ?_;rintro e w' ⟨rfl, rfl⟩;exact ⟨rfl, Below.refl _ _⟩
theorem Z1 (s : ByteArray) : s.toList.isEmpty = decide (s.size = 0) := by
 rw [ByteArray.toList_eq, <- Jp];cases s.data.toList <;> simp
theorem Xh {w : World} {b : Nat} {a0 a1 a2 a3 a4 a5 v0 v1 v2 v3 v4 v5 : Value} {e : TypeId} (h : w.heap[b]? = some (.cells #[a0, a1, a2, a3, a4, a5] e (0, 0))) :
  ((((((w.setCell ⟨b, 0, none⟩ v0).setCell ⟨b, 1, none⟩ v1).setCell ⟨b, 2, none⟩ v2).setCell ⟨b, 3, none⟩ v3).setCell ⟨b, 4, none⟩ v4).setCell ⟨b, 5, none⟩ v5).heap[b]? = some (.cells #[v0, v1, v2, v3, v4, v5] e (0, 0)) :=
 heap_setCell_same _ b 5 _ _ _ (heap_setCell_same _ b 4 _ _ _ (heap_setCell_same _ b 3 _ _ _ (heap_setCell_same _ b 2 _ _ _ (heap_setCell_same _ b 1 _ _ _ (heap_setCell_same w b 0 _ _ _ h)))))
theorem InAt.len {ty : TypeId} {b g N cap : Nat} {L : List LineD} {m : Nat} {f : Flt} {w : World} (h : InAt ty b g N cap L m f w) : L.length <= N := by
 obtain ⟨p, hb⟩ := h.open;have := hb.pos;omega
def Je1 (nT : Nat) (res : ResI) (w7 wx : World) (es : List Value) (L' : List LineD) (m' : Nat) (f' : Flt) : Prop := match res with
  | .bad f => f' = f /\ f.code ≠ 0
  | .good t L m => f' = Jv /\ L' = L /\ m' = m /\ OwnT nT (fun x => w7.heap.size <= x /\ x < wx.heap.size) wx t es
def JlF (ty : TypeId) (b g N cap nT kb : Nat) (w7 : World) (res : ResI) (wx : World) : Prop :=
 ∃ (u0 : Int) (u1 : Bool) (u2 : Int) (u3 : ByteArray) (U4 : Option Addr) (u4 u44 : Nat) (U5 : Option Addr) (u5 u55 : Nat) (L' : List LineD) (m' : Nat) (f' : Flt),
  wx.heap[kb]? = some (.cells #[.int .i64 u0, .bool u1, .int .i64 u2, .string u3, .slice U4 u4 u44, .slice U5 u5 u55] 34 (0, 0)) /\
  Aside (fun q => q = b ∨ q = g ∨ q = kb) w7 wx /\ InAt ty b g N cap L' m' f' wx /\ InOk L' /\ L'.length <= N /\ Je1 nT res w7 wx [.int .i64 u0, .bool u1, .int .i64 u2, .string u3, .slice U4 u4 u44, .slice U5 u5 u55] L' m' f'
theorem JeS {nU nT kb : Nat} {res res' : ResI} {w7 w9 wx : World} {es : List Value} {L' : List LineD} {m' : Nat} {f' : Flt} (he : res = res') (h : Je1 nU res' w7 w9 es L' m' f') (hn : nU <= nT) (hF : Aside (fun q => q = kb) w9 wx) (hk : ∀ x, w7.heap.size <= x -> x < w9.heap.size -> x ≠ kb) : Je1 nT res w7 wx es L' m' f' := by
 subst he;unfold Je1 at h ⊢;cases res with
 | bad f => exact h
 | good t L m => exact ⟨h.1, h.2.1, h.2.2.1, (h.2.2.2.up hn).carry (fun x hx => hF.block x hx.2 (hk x hx.1 hx.2)) (fun x hx => ⟨hx.1, Nat.lt_of_lt_of_le hx.2 hF.size⟩)⟩
theorem Jjc {nT d m a : Nat} {res : ResI} {w7 wx : World} {es : List Value} {s : ByteArray} {t L' : List LineD} {m' : Nat} {f' : Flt} (he : res = (match J1 d m a with
      | some f => .bad f
      | none => match JL s with
       | none => .bad (Qd 4 a)
       | some u => .good u t (m + 1))) (hsc : scA s = es) (h1 : L' = t) (h2 : m' = m + 1) (h3 : f' = scF (Qo d m a) s a) : Je1 (nT + 1) res w7 wx es L' m' f' := by
 subst he h1 h2 h3 hsc;rcases ZP d m a with ⟨e1, e2⟩ | ⟨f, e1, e2, e3⟩
 ·rw [e1, e2]
  simp only;unfold scF scA Je1;rcases hs : JL s with _ | u
  ·exact ⟨if_pos rfl, by show (4 : Int) ≠ 0; decide⟩
  exact ⟨rfl, rfl, rfl, (XM hs).2⟩
 rw [e1, e2];unfold scF Je1;rcases hs : JL s with _ | u
 ·exact ⟨if_neg e3, e3⟩
 exact ⟨rfl, e3⟩
theorem Ji3 {nT d m a : Nat} {res : ResI} {w7 wx : World} {es : List Value} {s : ByteArray} {t L' : List LineD} {m' : Nat} {f' : Flt} (hn : 0 < nT) (he : res = (match J1 d m a with
      | some f => .bad f
      | none => match JL s with
       | none => .bad (Qd 4 a)
       | some u => .good u t (m + 1))) (hsc : scA s = es) (h1 : L' = t) (h2 : m' = m + 1) (h3 : f' = scF (Qo d m a) s a) : Je1 nT res w7 wx es L' m' f' := by
 obtain ⟨k, rfl⟩ : ∃ k, nT = k + 1 := ⟨nT - 1, by omega⟩
 exact Jjc he hsc h1 h2 h3
theorem LBoxI.set4 {b g : Nat} {kind : Int} {w wx : World} {vk vl u : Value} (h : LBoxI b g kind w wx vk vl) : LBoxI b g kind w (wx.setCell ⟨w.heap.size + 1, 4, none⟩ u) u vl :=
 ⟨(Below.heap_setCell _ _ _ _ (by simp)).trans h.zero, heap_setCell_same wx (w.heap.size + 1) 4 _ _ u h.list, Jk (.inr (.inr (by simp))) h.aside⟩
theorem LBoxI.set5 {b g : Nat} {kind : Int} {w wx : World} {vk vl u : Value} (h : LBoxI b g kind w wx vk vl) : LBoxI b g kind w (wx.setCell ⟨w.heap.size + 1, 5, none⟩ u) vk u :=
 ⟨(Below.heap_setCell _ _ _ _ (by simp)).trans h.zero, heap_setCell_same wx (w.heap.size + 1) 5 _ _ u h.list, Jk (.inr (.inr (by simp))) h.aside⟩
theorem JcR {n i d m m' : Nat} {x : LineD} {r L' : List LineD} {rest : ByteArray} {t : TreeD} (h : Vk n i d x r rest m = .good t L' m') (hm : m <= 300) (hd : d <= 8) : m + 1 <= m' /\ m' <= 300 := by
 unfold Vk at h;by_cases c : rest.size = 0
 ·rw [if_pos c] at h
  exact U7 h hm (by omega)
 rw [if_neg c] at h;rcases hb : J1 (d + 1) m x.at' with _ | f
 ·rw [hb] at h
  simp only at h;have := (Vp hb).2;rcases hs : JL rest with _ | v
  ·rw [hs] at h; cases h
  rw [hs] at h;cases h
  omega
 rw [hb] at h; cases h
theorem JcQ {n i d m m' : Nat} {x : LineD} {r L' : List LineD} {rest : ByteArray} {t : TreeD} (h : Vk n i d x r rest m = .good t L' m') : Qh L' <= Qh r := by
 unfold Vk at h;by_cases c : rest.size = 0
 ·rw [if_pos c] at h
  exact (J9 _ _ _ _ _ _ _ h).1
 rw [if_neg c] at h;rcases hb : J1 (d + 1) m x.at' with _ | f
 ·rw [hb] at h
  simp only at h;rcases hs : JL rest with _ | v
  ·rw [hs] at h; cases h
  rw [hs] at h;cases h
  omega
 rw [hb] at h; cases h
theorem JfB {n i d m m' : Nat} {x : LineD} {r L' : List LineD} {rest : ByteArray} {t : TreeD} (h : Vk n i d x r rest m = .good t L' m') : L'.length <= r.length := by
 unfold Vk at h;by_cases c : rest.size = 0
 ·rw [if_pos c] at h
  exact Ub h
 rw [if_neg c] at h;rcases hb : J1 (d + 1) m x.at' with _ | f
 ·rw [hb] at h
  simp only at h;rcases hs : JL rest with _ | v
  ·rw [hs] at h; cases h
  rw [hs] at h;cases h
  omega
 rw [hb] at h; cases h
theorem Jg3 (w0 : World) (b g N cap n : Nat) (h0 : In0 w0 b g) (hbl : ∀ k, k < n -> Jjw w0 b g N cap k) : JlX w0 b g N cap n := by
 intro i d L0 m0 w hd1 hd8 hm0 hok0 hn hw h;have HRd := hid h;have Hbl := hid hbl;have HW := hid hw;have H0 := hid h0;have hlb := h.lt.1;have hlg := h.lt.2;obtain ⟨nT, hnT⟩ : ∃ k, 10 - d = k + 1 := ⟨9 - d, by omega⟩
 have HNT := hid (show 10 - (d + 1) = nT by omega);have hnT1 : 0 < nT := by omega
 obtain ⟨r, hr⟩ : ∃ r, r = Jn n (.pairs i d [] []) L0 m0 := ⟨_, rfl⟩
 rw [<- hr, hnT];have HR := hid hr;have HOk0 := hid hok0;have HN := hid hn;clear hr h hbl hw h0 hnT hok0 hn;go_enter Tryz.func104, Tryz.ntmps104
 go_wp2_with fail
 go_loopw [] (fun wr => JlK 61 b g N cap i n d nT r w wr) (fun wr => inM N b wr)
 case atStart =>
  refine ⟨none, 0, 0, none, 0, 0, L0, m0, Jv, ⟨?_, ?_, Aside.of_below Jj⟩, HRd.out.below Jj, HOk0.out, .inl ⟨[], [], [], _, n, MapG.nil _ _ _ _, rfl, hm0, Nat.zero_le _, rfl, List.Pairwise.nil, HN.out, Nat.le_refl _, HR.out⟩⟩
  ·exact (Below.heap_alloc _ _ _ (by simp)).trans (Je (by simp))
  exact Je (by simp)
 case round =>
  obtain ⟨KA, kn, kc, VA, vn, vc, L, m, f, hLb, hRr, hok, hst⟩ := hrel;have HLb := hid hLb;have HRr := hid hRr;have HOk := hid hok;have HWr := hid (H0.out.keepW HW.out hLb.aside);clear hok hLb hRr;rcases hst with ⟨ks, acc, ess, F, k, hM, rfl, hm, hksm, hal, hso, hk1, hkn, hrr⟩ | ⟨hf, hrr⟩
  rotate_left
  ·have HQ : Hid (QU f L i = false) := hid (by unfold QU; rw [JmF hf]; rfl)
   have HF := hid (And.intro hf hrr);clear hf hrr;go_wp2_with fail
   refine (VJ b g N cap L m i f wr HRr.out).mono ?_;rintro e w1 ⟨rfl, hb1⟩;rw [HQ.out];have HLb1 := hid (HLb.out.same (Aside.of_below (S := fun q => q = b) hb1) (fun q hq => .inl hq) hlb hlg);have HR1 := hid (HRr.out.below hb1);have HB1 := hid hb1;clear hb1;obtain ⟨x0, x1, x2, x3, x4, x5, xf⟩ := Jf HLb1.out.zero;obtain ⟨y0, y1, y2, y3, y4, y5, yf⟩ := Jf HLb1.out.list;have l0 := Ja HLb1.out.zero
   have l1 := Ja HLb1.out.list;go_wp2_with fail
   exact bodyPost_ret (v := .agg #[.int .i64 6, .bool false, .int .i64 0, .string ⟨#[]⟩, .slice KA kn kc, .slice VA vn vc]) (by simp only [results, Tryz.results104]; go_simp) rfl (XF hlb hlg HLb1.out HR1.out HOk.out HF.out.1 HF.out.2 QC)
  have HM := hid hM;have HJ := hid hrr;have HNk := hid hk1;have HSo := hid hso;have HAL := hid hal
  have hkn2 : kn = ks.length := by
   obtain ⟨A, c, e⟩ := JP hM.keys;cases e
   rfl
  have hvn2 : vn = acc.length := by
   obtain ⟨A, c, e⟩ := JP hM.kids;cases e
   rfl
  subst hkn2 hvn2;clear hM hrr hk1 hso hal;rcases L with _ | ⟨x, t⟩
  ·have HQ : Hid (QU Jv [] i = false) := hid rfl
   have HF : Hid (r = .good (QD ks acc) [] m) := hid (by
    have h1 := HNk.out;obtain ⟨k1, rfl⟩ : ∃ k1, k = k1 + 1 := ⟨k - 1, by unfold JG at h1; simp only at h1; omega⟩
    rw [HJ.out, Um])
   go_wp2_with fail
   refine (VJ b g N cap [] m i Jv wr HRr.out).mono ?_;rintro e w1 ⟨rfl, hb1⟩;rw [HQ.out];have HLb1 := hid (HLb.out.same (Aside.of_below (S := fun q => q = b) hb1) (fun q hq => .inl hq) hlb hlg);have HR1 := hid (HRr.out.below hb1);have HB1 := hid hb1;have HM1 := hid (HM.out.carry hb1.size (fun q _ h2 => hb1.block q h2));clear hb1;obtain ⟨x0, x1, x2, x3, x4, x5, xf⟩ := Jf HLb1.out.zero
   obtain ⟨y0, y1, y2, y3, y4, y5, yf⟩ := Jf HLb1.out.list;have l0 := Ja HLb1.out.zero;have l1 := Ja HLb1.out.list;go_wp2_with fail
   exact bodyPost_ret (v := .agg #[.int .i64 6, .bool false, .int .i64 0, .string ⟨#[]⟩, .slice KA ks.length kc, .slice VA acc.length vc]) (by simp only [results, Tryz.results104]; go_simp) rfl (UP hlb hlg HLb1.out HM1.out HR1.out HOk.out HF.out QC)
  obtain ⟨k1, hk1⟩ : ∃ k1, k = k1 + 1 := ⟨k - 1, by have h1 := HNk.out; unfold JG at h1; simp only at h1; omega⟩
  by_cases hxi : x.ind = i
  rotate_left
  ·have HQ : Hid (QU Jv (x :: t) i = false) := hid (by show (decide (Jv.code = 0) && decide (x.ind = i)) = false; rw [JmF hxi]; rfl)
   have HF : Hid (r = .good (QD ks acc) (x :: t) m) := hid (by rw [HJ.out, hk1, QR, if_pos (.inl hxi)]);clear hk1 hxi;go_wp2_with fail
   refine (VJ b g N cap (x :: t) m i Jv wr HRr.out).mono ?_;rintro e w1 ⟨rfl, hb1⟩;rw [HQ.out];have HLb1 := hid (HLb.out.same (Aside.of_below (S := fun q => q = b) hb1) (fun q hq => .inl hq) hlb hlg);have HR1 := hid (HRr.out.below hb1);have HB1 := hid hb1;have HM1 := hid (HM.out.carry hb1.size (fun q _ h2 => hb1.block q h2));clear hb1;obtain ⟨x0, x1, x2, x3, x4, x5, xf⟩ := Jf HLb1.out.zero
   obtain ⟨y0, y1, y2, y3, y4, y5, yf⟩ := Jf HLb1.out.list;have l0 := Ja HLb1.out.zero;have l1 := Ja HLb1.out.list;go_wp2_with fail
   exact bodyPost_ret (v := .agg #[.int .i64 6, .bool false, .int .i64 0, .string ⟨#[]⟩, .slice KA ks.length kc, .slice VA acc.length vc]) (by simp only [results, Tryz.results104]; go_simp) rfl (UP hlb hlg HLb1.out HM1.out HR1.out HOk.out HF.out QC)
  have HQ : Hid (QU Jv (x :: t) i = true) := hid (by show (decide (Jv.code = 0) && decide (x.ind = i)) = true; rw [JmG hxi]; rfl)
  have hj2 : r = (if (Jy x.text).isSome = true then .good (QD ks acc) (x :: t) m else match Qq x.text with
   | none => .good (QD ks acc) (x :: t) m
   | some (key, rest) =>
    if 400 < key.size then .bad (Qd 8 x.at')
    else if ks.contains key then .bad (Qd 5 x.at')
    else match Vk k1 i d x t rest m with
     | .bad f => .bad f
     | .good u L' m' => Jn k1 (.pairs i d (J3 ks (Qy ks key) key) (J3 acc (Qy ks key) u)) L' m') := by
   rw [HJ.out, hk1, QR];by_cases c : (Jy x.text).isSome = true
   ·rw [if_pos (.inr c), if_pos c]
   rw [if_neg (fun e => e.elim (fun e => e hxi) c), if_neg c];rfl
  have hxo := HOk.out.head;have hxz : x.text.size <= 20000 := by have := hxo.1; omega
  have hkk1 : k1 < n := by omega
  have HXI := hid hxi;have HXO := hid hxo;have hne := HNk.out;rw [hk1] at hne;have HNe := hid hne;have HX := hid hj2;clear hj2 hk1 hxi hxo HJ HNk hne;go_wp2_with fail
  refine (VJ b g N cap (x :: t) m i Jv wr HRr.out).mono ?_;rintro e w1 ⟨rfl, hb1⟩;rw [HQ.out];have HLb1 := hid (HLb.out.same (Aside.of_below (S := fun q => q = b) hb1) (fun q hq => .inl hq) hlb hlg);have HR1 := hid (HRr.out.below hb1);have HB1 := hid hb1;have HM1 := hid (HM.out.carry hb1.size (fun q _ h2 => hb1.block q h2));clear hb1;obtain ⟨p, hbx⟩ := HR1.out.open;obtain ⟨a0, a1, a2, a3, a4, a5, af⟩ := Jf hbx.row
  have lb := Ja hbx.row;obtain ⟨c0, c1, c2, cf⟩ := hbx.line x t rfl;have lg := hbx.lines;have hpN : (p : Int) < N := by have := hbx.pos; rw [List.length_cons] at this; omega
  have hp0 : (0 : Int) <= p := by omega
  have hcap := hbx.cap';have hgb := hbx.ne;have hN2 := hbx.small;have HPos := hid hbx.pos;obtain ⟨xi, xt, xa⟩ := x;simp only at c0 c1 c2 hxz;clear hbx;have hl1 := Ja HLb1.out.list;go_upto_region 3 with fail
  go_cut [8] from 22 to 31 (fun s8 wx => s8 = .pointer (some ⟨w1.heap.size, 0, none⟩) /\ wx.heap[w1.heap.size]? = some (.cells #[.int .i64 (xi : Nat), .string xt, .int .i64 (xa : Nat)] 59 (0, 0)) /\ Below w1.heap.size w1 wx)
  case first =>
   go_region_law (fail)
   all_goals
    (try go_wp2_with fail)
    go_meet
    exact ⟨rfl, by rw [ZD]; exact Je (by simp), Jj⟩
  case rest =>
   obtain ⟨rfl, hx1, hb2⟩ := hcut;have HX2 := hid hx1;have HLb2 := hid (HLb1.out.same (Aside.of_below (S := fun q => q = b) hb2) (fun q hq => .inl hq) hlb hlg);have HM2 := hid (HM1.out.carry hb2.size (fun q _ h2 => hb2.block q h2));have HR2 := hid (HR1.out.below hb2);have HB2 := hid (HB1.out.trans (hb2.mono HB1.out.size));have HW2 := hid (HWr.out.trans (HB2.out.mono HWr.out.size))
   have lx2 := Ja hx1;have hs12 := hb2.size;clear hx1 hb2 a0 a1 a2 a3 a4 a5 af c0 c1 c2 cf lb lg hl1;obtain ⟨v0, v1, v2, vf⟩ := Qi HX2.out;obtain ⟨ka, kb, kq, hkv, hkq, hks⟩ := JcK (Qq xt);obtain ⟨ia, ib, iq, hiv, hiq⟩ := Jbx (Jy xt)
   have HKy := hid (show Calls Tryz.prog 103 #[.string xt] wc fun e w' => e = .returned (.tuple #[.string ka, .string kb, .bool kq]) /\ Below wc.heap.size wc w' by
    have h := Xx xt wc (by omega) (H0.out.cas.below HW2.out) (H0.out.tab.below HW2.out);rw [hkv] at h
    exact h)
   have HIt := hid (show ∀ W, Calls Tryz.prog 101 #[.string xt] W fun e w' => e = .returned (.tuple #[.string ia, .int .i64 ib, .bool iq]) /\ W = w' from fun W => by
    have h := Ye xt W (by omega);rw [hiv] at h
    exact h)
   have HKS := hid hks;have HKQ := hid hkq;have HIQ := hid hiq;clear hkv hkq hks hiv hiq;go_wp2_with fail
   refine HKy.out.mono ?_;rintro e w3 ⟨rfl, hb3⟩;have HLb3 := hid (HLb2.out.same (Aside.of_below (S := fun q => q = b) hb3) (fun q hq => .inl hq) hlb hlg);have HM3 := hid (HM2.out.carry hb3.size (fun q _ h2 => hb3.block q h2));have HR3 := hid (HR2.out.below hb3);have HX3 := hid ((hb3.block _ lx2).trans HX2.out);have HB3 := hid (HB2.out.trans (hb3.mono HB2.out.size));have lx3 := Ja HX3.out
   have hs23 := hb3.size;clear hb3 v0 v1 v2 vf;obtain ⟨v0, v1, v2, vf⟩ := Qi HX3.out;go_wp2_with fail
   refine (HIt.out w3).mono ?_;rintro e w4 ⟨rfl, rfl⟩
   have hstop : (kq = false ∨ iq = true) -> r = .good (QD ks acc) (⟨xi, xt, xa⟩ :: t) m := fun hh => by
    rw [HX.out];by_cases c : (Jy xt).isSome = true
    ·rw [if_pos c]
    rw [if_neg c];have hk0 : kq = false := hh.elim id (fun h => absurd (HIQ.out ▸ h) c);rw [HKQ.out] at hk0;cases hk : Qq xt with
    | none => rfl
    | some _ => rw [hk] at hk0; cases hk0
   have HStop := hid hstop;clear hstop;rcases kq with _ | _
   ·have HF := hid (HStop.out (.inl rfl))
    obtain ⟨x0, x1, x2, x3, x4, x5, xf⟩ := Jf HLb3.out.zero;obtain ⟨y0, y1, y2, y3, y4, y5, yf⟩ := Jf HLb3.out.list;have l0 := Ja HLb3.out.zero;have l1 := Ja HLb3.out.list;go_wp2_with fail
    exact bodyPost_ret (v := .agg #[.int .i64 6, .bool false, .int .i64 0, .string ⟨#[]⟩, .slice KA ks.length kc, .slice VA acc.length vc]) (by simp only [results, Tryz.results104]; go_simp) rfl (UP hlb hlg HLb3.out HM3.out HR3.out HOk.out HF.out QC)
   rcases iq with _ | _
   rotate_left
   ·have HF := hid (HStop.out (.inr rfl))
    obtain ⟨x0, x1, x2, x3, x4, x5, xf⟩ := Jf HLb3.out.zero;obtain ⟨y0, y1, y2, y3, y4, y5, yf⟩ := Jf HLb3.out.list;have l0 := Ja HLb3.out.zero;have l1 := Ja HLb3.out.list;go_wp2_with fail
    exact bodyPost_ret (v := .agg #[.int .i64 6, .bool false, .int .i64 0, .string ⟨#[]⟩, .slice KA ks.length kc, .slice VA acc.length vc]) (by simp only [results, Tryz.results104]; go_simp) rfl (UP hlb hlg HLb3.out HM3.out HR3.out HOk.out HF.out QC)
   obtain ⟨rest, hkr⟩ : ∃ rest, Qq xt = some (ka, rest) /\ kb = rest := by
    have h := HKQ.out;cases hk : Qq xt with
    | none => rw [hk] at h; cases h
    | some kr => exact ⟨kr.2, by rw [(HKS.out kr.1 kr.2 hk).1], (HKS.out kr.1 kr.2 hk).2⟩
   obtain ⟨hkr, rfl⟩ := hkr
   have hx3 : r = (if 400 < ka.size then .bad (Qd 8 xa)
    else if ks.contains ka then .bad (Qd 5 xa)
    else match Vk k1 i d ⟨xi, xt, xa⟩ t kb m with
     | .bad f => .bad f
     | .good u L' m' => Jn k1 (.pairs i d (J3 ks (Qy ks ka) ka) (J3 acc (Qy ks ka) u)) L' m') := by
    rw [HX.out, if_neg (fun c => by rw [<- HIQ.out] at c; cases c), hkr]
   have HX4 := hid hx3;have hkz := JjK hkr hxz;obtain ⟨hkz1, hkz2⟩ := hkz;have HKr := hid hkr;clear hx3 hkr HX HStop HKS HKQ HIQ HKy HIt;by_cases hwide : (400 : Int) < ka.size
   ·have d4 : decide ((400 : Int) < ka.size) = true := JmG hwide
    have HF := hid (show r = .bad (Qd 8 xa) by rw [HX4.out, if_pos (by omega)]);go_wp2_with fail
    refine (VE b g N cap _ m Jv 8 xa w3 HR3.out).mono ?_;rintro e w4 ⟨rfl, hR4, hA4⟩;have HR4 := hid (show InAt 61 b g N cap (⟨xi, xt, xa⟩ :: t) m (Qd 8 xa) w4 from hR4);have HLb4 := hid (HLb3.out.same hA4 (fun q hq => .inl hq) hlb hlg);have HM4 := hid (HM3.out.carry hA4.size (fun q h1 h2 => hA4.block q h2 (by omega)));have HX4' := hid ((hA4.block _ lx3 (by have := HLb1.out.list; have := Ja this; omega)).trans HX3.out)
    have hs34 := hA4.size;clear hR4 hA4 v0 v1 v2 vf;obtain ⟨v0, v1, v2, vf⟩ := Qi HX4'.out;have lx4 := Ja HX4'.out;obtain ⟨y0, y1, y2, y3, y4, y5, yf⟩ := Jf HLb4.out.list;have ly4 := Ja HLb4.out.list;go_wp2_with fail
    refine (Ur ks ka _ _ (w.heap.size + 2) (W7 HM4.out.keys HM4.out.size) HSo.out (by omega)).mono ?_;rintro e w5 ⟨rfl, hb5⟩;have HLb5 := hid (HLb4.out.same (Aside.of_below (S := fun q => q = b) hb5) (fun q hq => .inl hq) hlb hlg);have HM5 := hid (HM4.out.carry hb5.size (fun q _ h2 => hb5.block q h2));have HR5 := hid (HR4.out.below hb5);have HX5 := hid ((hb5.block _ lx4).trans HX4'.out)
    have lx5 := Ja HX5.out;clear hb5 v0 v1 v2 vf y0 y1 y2 y3 y4 y5 yf;obtain ⟨v0, v1, v2, vf⟩ := Qi HX5.out;rcases hfd : ks.contains ka with _ | _
    ·clear hfd
     obtain ⟨p5, hbx⟩ := HR5.out.open;obtain ⟨a0, a1, a2, a3, a4, a5, af⟩ := Jf hbx.row;have lb := Ja hbx.row;clear hbx;have a3' : w5.cell? ⟨b, 3, none⟩ = some (.int .i64 8) := a3;clear a3;obtain ⟨x0, x1, x2, x3, x4, x5, xf⟩ := Jf HLb5.out.zero;obtain ⟨y0, y1, y2, y3, y4, y5, yf⟩ := Jf HLb5.out.list;have l0 := Ja HLb5.out.zero;have l1 := Ja HLb5.out.list;go_wp2_with fail
     exact bodyPost_ret (v := .agg #[.int .i64 6, .bool false, .int .i64 0, .string ⟨#[]⟩, .slice KA ks.length kc, .slice VA acc.length vc]) (by simp only [results, Tryz.results104]; go_simp) rfl (XF hlb hlg HLb5.out HR5.out HOk.out (by show (8 : Int) ≠ 0; decide) HF.out QC)
    clear hfd;go_wp2_with fail
    refine (VE b g N cap _ m (Qd 8 xa) 5 xa w5 HR5.out).mono ?_;rintro e w6 ⟨rfl, hR6, hA6⟩;have HR6 := hid (show InAt 61 b g N cap (⟨xi, xt, xa⟩ :: t) m (Qd 8 xa) w6 from hR6);have HLb6 := hid (HLb5.out.same hA6 (fun q hq => .inl hq) hlb hlg);clear hR6 hA6 v0 v1 v2 vf;obtain ⟨p6, hbx⟩ := HR6.out.open;obtain ⟨a0, a1, a2, a3, a4, a5, af⟩ := Jf hbx.row;have lb := Ja hbx.row
    clear hbx;have a3' : w6.cell? ⟨b, 3, none⟩ = some (.int .i64 8) := a3;clear a3;obtain ⟨x0, x1, x2, x3, x4, x5, xf⟩ := Jf HLb6.out.zero;obtain ⟨y0, y1, y2, y3, y4, y5, yf⟩ := Jf HLb6.out.list;have l0 := Ja HLb6.out.zero;have l1 := Ja HLb6.out.list;go_wp2_with fail
    exact bodyPost_ret (v := .agg #[.int .i64 6, .bool false, .int .i64 0, .string ⟨#[]⟩, .slice KA ks.length kc, .slice VA acc.length vc]) (by simp only [results, Tryz.results104]; go_simp) rfl (XF hlb hlg HLb6.out HR6.out HOk.out (by show (8 : Int) ≠ 0; decide) HF.out QC)
   have d4 : decide ((400 : Int) < ka.size) = false := JmF hwide;obtain ⟨y0, y1, y2, y3, y4, y5, yf⟩ := Jf HLb3.out.list;have ly3 := Ja HLb3.out.list;go_wp2_with fail
   refine (Ur ks ka _ _ (w.heap.size + 2) (W7 HM3.out.keys HM3.out.size) HSo.out (by omega)).mono ?_;rintro e w5 ⟨rfl, hb5⟩;have HLb5 := hid (HLb3.out.same (Aside.of_below (S := fun q => q = b) hb5) (fun q hq => .inl hq) hlb hlg);have HM5 := hid (HM3.out.carry hb5.size (fun q _ h2 => hb5.block q h2));have HR5 := hid (HR3.out.below hb5);have HX5 := hid ((hb5.block _ lx3).trans HX3.out)
   have HB5 := hid (HB3.out.trans (hb5.mono HB3.out.size));have lx5 := Ja HX5.out;have hs35 := hb5.size;clear hb5 v0 v1 v2 vf y0 y1 y2 y3 y4 y5 yf;obtain ⟨v0, v1, v2, vf⟩ := Qi HX5.out;rcases hfd : ks.contains ka with _ | _
   rotate_left
   ·have HF := hid (show r = .bad (Qd 5 xa) by rw [HX4.out, if_neg (by omega), if_pos hfd])
    clear hfd;go_wp2_with fail
    refine (VE b g N cap _ m Jv 5 xa w5 HR5.out).mono ?_;rintro e w6 ⟨rfl, hR6, hA6⟩;have HR6 := hid (show InAt 61 b g N cap (⟨xi, xt, xa⟩ :: t) m (Qd 5 xa) w6 from hR6);have HLb6 := hid (HLb5.out.same hA6 (fun q hq => .inl hq) hlb hlg);clear hR6 hA6 v0 v1 v2 vf;obtain ⟨p6, hbx⟩ := HR6.out.open;obtain ⟨a0, a1, a2, a3, a4, a5, af⟩ := Jf hbx.row;have lb := Ja hbx.row;clear hbx
    have a3' : w6.cell? ⟨b, 3, none⟩ = some (.int .i64 5) := a3;clear a3;obtain ⟨x0, x1, x2, x3, x4, x5, xf⟩ := Jf HLb6.out.zero;obtain ⟨y0, y1, y2, y3, y4, y5, yf⟩ := Jf HLb6.out.list;have l0 := Ja HLb6.out.zero;have l1 := Ja HLb6.out.list;go_wp2_with fail
    exact bodyPost_ret (v := .agg #[.int .i64 6, .bool false, .int .i64 0, .string ⟨#[]⟩, .slice KA ks.length kc, .slice VA acc.length vc]) (by simp only [results, Tryz.results104]; go_simp) rfl (XF hlb hlg HLb6.out HR6.out HOk.out (by show (5 : Int) ≠ 0; decide) HF.out QC)
   have hx5 : r = (match Vk k1 i d ⟨xi, xt, xa⟩ t kb m with
     | .bad f => .bad f
     | .good u L' m' => Jn k1 (.pairs i d (J3 ks (Qy ks ka) ka) (J3 acc (Qy ks ka) u)) L' m') := by
    rw [HX4.out, if_neg (by omega), if_neg (by rw [hfd]; decide)]
   have HX6 := hid hx5;have HNo := hid hfd;clear hx5 hfd HX4;obtain ⟨p5, hbx⟩ := HR5.out.open;obtain ⟨a0, a1, a2, a3, a4, a5, af⟩ := Jf hbx.row;have lb := Ja hbx.row;clear hbx;have a3' : w5.cell? ⟨b, 3, none⟩ = some (.int .i64 0) := a3;clear a3;obtain ⟨q, hqd⟩ : ∃ q, q = decide (kb.size = 0) := ⟨_, rfl⟩
   have q1 : kb.toList.isEmpty = q := by rw [hqd]; exact Z1 kb
   have q2 : (kb.toList == []) = q := by rw [hqd, <- Z1 kb]; cases kb.toList <;> rfl
   have HQd := hid hqd;clear hqd;go_upto_if 78 with (fail)
   obtain ⟨w7, hw7⟩ : ∃ W, W = w5.alloc (.cells #[.int .i64 0, .bool false, .int .i64 0, .string ⟨#[]⟩, .slice none 0 0, .slice none 0 0] 34) := ⟨_, rfl⟩
   have hb7 : Below w5.heap.size w5 w7 := by rw [hw7]; exact Jj
   have hK7 : w7.heap[w5.heap.size]? = some (.cells #[.int .i64 0, .bool false, .int .i64 0, .string ⟨#[]⟩, .slice none 0 0, .slice none 0 0] 34 (0, 0)) := by rw [hw7]; exact Je rfl
   rw [<- hw7];have HK7 := hid hK7;have HLb7 := hid (HLb5.out.same (Aside.of_below (S := fun q => q = b) hb7) (fun q hq => .inl hq) hlb hlg);have HM7 := hid (HM5.out.carry hb7.size (fun q _ h2 => hb7.block q h2));have HR7 := hid (HR5.out.below hb7);have HX7 := hid ((hb7.block _ lx5).trans HX5.out);have HW7 := hid (HWr.out.trans ((HB5.out.trans (hb7.mono HB5.out.size)).mono HWr.out.size))
   have hs57 := hb7.size;have lk7 := Ja hK7;have lx7 := Ja HX7.out;obtain ⟨kidR, hkid⟩ : ∃ q, q = Vk k1 i d ⟨xi, xt, xa⟩ t kb m := ⟨_, rfl⟩
   have HKid := hid hkid;rw [<- hkid] at HX6;obtain ⟨kb0, hkb0⟩ : ∃ q, q = w5.heap.size := ⟨_, rfl⟩
   rw [<- hkb0] at lk7 HK7 ⊢;have HKb := hid hkb0;have HMk := hid (show MapG nT (w.heap.size + 2) kb0 w7 ks acc (.slice KA ks.length kc) (.slice VA acc.length vc) ess F by rw [HKb.out]; exact HM5.out.carry (Nat.le_refl _) (fun q _ h2 => hb7.block q h2));have hok2 := HOk.out.tail;have HOk2 := hid hok2;have hmm : m <= 1000 := by omega
   have hw1 : w.heap.size + 1 < w1.heap.size := Ja HLb1.out.list;have hk5 : w.heap.size + 2 <= kb0 := by rw [hkb0]; have := Ja HLb5.out.list; omega
   have hk5' : w1.heap.size < kb0 := by rw [hkb0]; omega
   clear hw7 hb7 hK7 hkid hkb0 v0 v1 v2 vf a0 a1 a2 a3' a4 a5 af lb hok2;obtain ⟨v0, v1, v2, vf⟩ := Qi HX7.out;go_cut [] from 79 to 94 (fun wx => JlF 61 b g N cap nT kb0 w7 kidR wx)
   case first =>
    rcases q with _ | _
    rotate_left
    ·have hrz : kb.size = 0 := of_decide_eq_true HQd.out.symm
     have hdd : IntKind.i64.wrap ((d : Int) + 1) = ((d + 1 : Nat) : Int) := by rw [IntKind.wrap_i64] <;> omega
     obtain ⟨dz, hdz⟩ : ∃ dz : Int, dz = ((d + 1 : Nat) : Int) := ⟨_, rfl⟩
     have HC := hid (Hbl.out k1 hkk1 i (d + 1) ⟨xi, xt, xa⟩ t m w7 (by omega) (by omega) hm HOk.out (by have := HNe.out; unfold JG at this ⊢; simp only [J0] at this ⊢; omega) HW7.out HR7.out);have HKR := hid (HKid.out.trans (if_pos hrz));rw [<- hdz] at hdd HC;clear hdz hrz;go_wp2_with fail
     refine HC.out.mono ?_;intro e w9 hv9;obtain ⟨cs, L', m', f', rfl, ht9, hR9, hok9, hA9, hm9⟩ := hv9;obtain ⟨u0, u1, u2, u3, U4, u4, u44, U5, u5, u55, rfl⟩ := ht9;have HK9 := hid ((hA9.block kb0 lk7 (by omega)).trans HK7.out);have HR9 := hid hR9;have HOk9 := hid hok9;have HA9 := hid hA9;have HM9 := hid hm9;have hs79 := hA9.size;clear hR9 hok9 hA9 hm9 v0 v1 v2 vf;obtain ⟨z0, z1, z2, z3, z4, z5, zf⟩ := Jf HK9.out
     have lk9 := Ja HK9.out;go_wp2_with fail
     go_meet
     exact ⟨u0, u1, u2, u3, U4, u4, u44, U5, u5, u55, L', m', f', Xh HK9.out, (HA9.out.mono (fun q hq => hq.elim .inl (fun h => .inr (.inl h)))).trans ((QC : Aside (fun q => q = kb0) w9 _).mono (fun q hq => .inr (.inr hq))), HR9.out.past (S := fun q => q = kb0) QC (by omega) (by omega), HOk9.out, InAt.len HR9.out, JeS (kb := kb0) HKR.out HM9.out (by rw [HNT.out]; exact Nat.le_refl _) QC (fun x h1 h2 => by omega)⟩
    have hrz : ¬ kb.size = 0 := of_decide_eq_false HQd.out.symm;have hdd : IntKind.i64.wrap ((d : Int) + 1) = ((d + 1 : Nat) : Int) := by rw [IntKind.wrap_i64] <;> omega
    obtain ⟨dz, hdz⟩ : ∃ dz : Int, dz = ((d + 1 : Nat) : Int) := ⟨_, rfl⟩
    have HC := hid (WX b g N cap _ m (d + 1) xa w7 HR7.out hmm (by omega));have HKR := hid (HKid.out.trans (if_neg hrz));rw [<- hdz] at hdd HC;clear hdz hrz;go_wp2_with fail
    refine HC.out.mono ?_;rintro e w8 ⟨rfl, hR8, hA8⟩;have HR8 := hid hR8;have HA8 := hid (hA8.mono (fun q hq => (.inl hq : q = b ∨ q = g)));have HX8 := hid ((hA8.block _ lx7 (by omega)).trans HX7.out);have HK8 := hid ((hA8.block _ lk7 (by omega)).trans HK7.out);have HW8 := hid (H0.out.keep HW7.out HA8.out);clear hR8 hA8 v0 v1 v2 vf;obtain ⟨v0, v1, v2, vf⟩ := Qi HX8.out;have lx8 := Ja HX8.out
    go_wp2_with fail
    refine (JaD w0 b g N cap _ t (m + 1) (Qo (d + 1) m xa) kb xa w8 H0.out HW8.out (by omega) HR8.out).mono ?_;rintro e w9 ⟨rfl, hR9, hA9⟩;obtain ⟨u0, u1, u2, u3, U4, u4, u44, U5, u5, u55, hsc⟩ := Je9 kb;rw [hsc];have HSc := hid hsc;have HK9 := hid ((hA9.block kb0 (Ja HK8.out) (by omega)).trans HK8.out);have HR9 := hid hR9;have HA9 := hid (HA8.out.trans (hA9.mono (fun q hq => (.inl hq : q = b ∨ q = g))))
    have HOk9 := HOk2;obtain ⟨L', hL'⟩ : ∃ q, q = t := ⟨_, rfl⟩
    obtain ⟨m', hm'⟩ : ∃ q, q = m + 1 := ⟨_, rfl⟩
    obtain ⟨f', hf'⟩ : ∃ q, q = scF (Qo (d + 1) m xa) kb xa := ⟨_, rfl⟩
    rw [<- hL', <- hm', <- hf'] at HR9;rw [<- hL'] at HOk9;have HL := hid (And.intro hL' (And.intro hm' hf'));clear hR9 hA9 hsc hL' hm' hf' v0 v1 v2 vf;obtain ⟨z0, z1, z2, z3, z4, z5, zf⟩ := Jf HK9.out;have lk9 := Ja HK9.out;go_wp2_with fail
    go_meet
    exact ⟨u0, u1, u2, u3, U4, u4, u44, U5, u5, u55, L', m', f', Xh HK9.out, (HA9.out.mono (fun q hq => hq.elim .inl (fun h => .inr (.inl h)))).trans ((QC : Aside (fun q => q = kb0) w9 _).mono (fun q hq => .inr (.inr hq))), HR9.out.past (S := fun q => q = kb0) QC (by omega) (by omega), HOk9.out, InAt.len HR9.out, Ji3 hnT1 HKR.out HSc.out HL.out.1 HL.out.2.1 HL.out.2.2⟩
   case rest =>
    obtain ⟨u0, u1, u2, u3, U4, u4, u44, U5, u5, u55, L', m', f', hK, hA, hR, hok', hlen', hKm⟩ := hcut;have HKc := hid hK;have HRc := hid hR;have HOkc := hid hok';have HKm := hid hKm;have HLc := hid (HLb7.out.same hA (fun q hq => by omega) hlb hlg);have HMc := hid (HMk.out.carry (Nat.le_refl _) (fun q h1 h2 => hA.block q (by omega) (by omega)));have hs7c := hA.size;have hkc := Ja hK
    clear hK hA hR hok' hKm v0 v1 v2 vf q1 q2 HQd;obtain ⟨pi, hpi⟩ : ∃ q, q = Qy ks ka := ⟨_, rfl⟩
    rw [<- hpi];have HPi := hid hpi;have hiks : pi <= ks.length := by rw [hpi]; exact Ua ks ka
    have hial : pi <= acc.length := by have := HAL.out; omega
    have halz : acc.length <= 300 := by have := HAL.out; omega
    have Hone : Hid (∀ z ∈ ([.int .i64 u0, .bool u1, .int .i64 u2, .string u3, .slice U4 u4 u44, .slice U5 u5 u55] : List Value), z.oneCell' = true) := hid (TreeV.one ⟨u0, u1, u2, u3, U4, u4, u44, U5, u5, u55, rfl⟩);clear hpi;obtain ⟨y0, y1, y2, y3, y4, y5, yf⟩ := Jf HLc.out.list;have lyc := Ja HLc.out.list;go_wp2_with fail
    obtain ⟨wa, hwa⟩ : ∃ W, W = wc.alloc (.cells #[.string ka] 9) := ⟨_, rfl⟩
    have hba : Below wc.heap.size wc wa := by rw [hwa]; exact Jj
    have hza : wa.heap.size <= wc.heap.size + 1 := by rw [hwa]; simp
    have hzb : wc.heap.size + 1 <= wa.heap.size := by rw [hwa]; simp
    have Xa : wa.heap[wc.heap.size]? = some (.cells #[.string ka] 9 (0, 0)) := by rw [hwa]; exact Je rfl
    rw [<- hwa];have HBa := hid hba;have HXa := hid Xa;have HLa := hid (HLc.out.same (Aside.of_below (S := fun q => q = b) hba) (fun q hq => .inl hq) hlb hlg);have HRa := hid (HRc.out.below hba);have HKa := hid ((hba.block _ hkc).trans HKc.out);have HMa := hid (HMc.out.carry (Nat.le_refl _) (fun q h1 h2 => hba.block q (by omega)));clear y0 y1 y2 y3 y4 y5 yf hwa Xa hba;refine (JdL (w.heap.size + 2) ks.length pi wc.heap.size _ (.string ka) (ks.map Value.string) _ HMa.out.keys hiks HXa.out (Uz ks) rfl (by omega) (by omega) (fun h => by have := HMa.out.hk _ h; omega)).mono ?_
    rintro e w8 ⟨g8, cap, rfl, hown8, hgrow8, hat8, hlt8⟩;have hA8 := JaB hgrow8;have hkb : ∀ q, (Value.slice KA ks.length kc).ownBlock = some q -> w.heap.size + 2 <= q /\ q < kb0 := fun q hq => ⟨(HMa.out.keys.lt q hq).1, HMa.out.hk q hq⟩
    have hlb8 : ∀ q, (Value.slice VA acc.length vc).ownBlock = some q -> w.heap.size + 2 <= q /\ q < kb0 := fun q hq => ⟨(HMa.out.kids.lt q hq).1, HMa.out.hl q hq⟩
    have hvv := VV HMa.out.kids HMa.out.keys (by decide);have hs8 := hgrow8.size;have HL8 := hid (HLa.out.same hA8 (fun q hq => .inr (.inr (hkb q hq.symm).1)) hlb hlg);have HR8 := hid (HRa.out.past hA8 (fun hq => by have := (hkb _ hq.symm).1; omega) (fun hq => by have := (hkb _ hq.symm).1; omega));have HK8 := hid ((hA8.block _ (by omega) (fun h => by have := (hkb _ h.symm).2; omega)).trans HKa.out)
    have HV8 := hid (Jh HMa.out.kids (fun q hq => hA8.block q (by have := (hlb8 q hq).2; omega) (fun h => hvv q hq h.symm)));have hg8 : w.heap.size + 2 <= g8 := (hown8.lt g8 rfl).1;obtain ⟨y0, y1, y2, y3, y4, y5, yf⟩ := Jf HL8.out.list;have ly8 := Ja HL8.out.list;have HOwn8 := hid hown8;have HGr8 := hid (And.intro hgrow8 hat8);have HKB := hid hkb;have HLB := hid hlb8
    clear hown8 hgrow8 hat8 hA8 hkb hlb8 hvv;go_upto_region 19 with fail
    obtain ⟨w9, hw9⟩ : ∃ W, W = w8.setCell ⟨w.heap.size + 1, 4, none⟩ (.slice (some ⟨g8, 0, none⟩) (ks.length + 1) cap) := ⟨_, rfl⟩
    rw [<- hw9];have hz9a : w9.heap.size <= w8.heap.size := by rw [hw9]; simp
    have hz9b : w8.heap.size <= w9.heap.size := by rw [hw9]; simp
    have hA9 : Aside (fun q => q = w.heap.size + 1) w8 w9 := by rw [hw9]; exact Jk rfl (Aside.refl _ _)
    have HL9 := hid (show LBoxI b g 6 w w9 (.slice (some ⟨g8, 0, none⟩) (ks.length + 1) cap) (.slice VA acc.length vc) by rw [hw9]; exact HL8.out.set4);have HR9 := hid (HR8.out.past hA9 (fun hq => by omega) (fun hq => by omega));have HK9 := hid ((hA9.block _ (by omega) (by omega)).trans HK8.out);have HV9 := hid (Jh HV8.out (fun q hq => hA9.block q (by have := (HLB.out q hq).2; omega) (by have := (HLB.out q hq).1; omega)))
    have HQ9 := hid (Jh HOwn8.out (fun q hq => hA9.block q (HOwn8.out.lt q hq).2 (by have := (HOwn8.out.lt q hq).1; omega)));have HF01 := hid (show ∀ q, w.heap.size + 2 <= q -> q < wc.heap.size -> (Value.slice KA ks.length kc).ownBlock ≠ some q -> w9.heap[q]? = wc.heap[q]? from fun q h1 h2 h3 => (hA9.block q (by omega) (by omega)).trans ((HGr8.out.1.block q (by omega) (fun h => h3 h.symm)).trans (HBa.out.block q (by omega))))
    have HG9 := hid (show ∀ q, (Value.slice (some ⟨g8, 0, none⟩) (ks.length + 1) cap).ownBlock = some q -> (Value.slice KA ks.length kc).ownBlock = some q ∨ wc.heap.size <= q from fun q hq => by
     simp [Value.ownBlock] at hq;subst hq;rcases HGr8.out.2 with h | h
     ·exact .inl h
     exact .inr (by omega))
    have hs59 : wc.heap.size <= w9.heap.size := by omega
    clear y0 y1 y2 y3 y4 y5 yf hw9 hA9;obtain ⟨y0, y1, y2, y3, y4, y5, yf⟩ := Jf HL9.out.list;obtain ⟨v0, v1, v2, v3, v4, v5, vf⟩ := Jf HK9.out;have ly9 := Ja HL9.out.list;have lx9 := Ja HK9.out;go_wp2_with fail
    obtain ⟨w10, hw10⟩ : ∃ W, W = w9.alloc (.cells #[.int .i64 u0, .bool u1, .int .i64 u2, .string u3, .slice U4 u4 u44, .slice U5 u5 u55] 34) := ⟨_, rfl⟩
    have hb10 : Below w9.heap.size w9 w10 := by rw [hw10]; exact Jj
    have hz10a : w10.heap.size <= w9.heap.size + 1 := by rw [hw10]; simp
    have hz10b : w9.heap.size + 1 <= w10.heap.size := by rw [hw10]; simp
    have X10 : w10.heap[w9.heap.size]? = some (.cells #[.int .i64 u0, .bool u1, .int .i64 u2, .string u3, .slice U4 u4 u44, .slice U5 u5 u55] 34 (0, 0)) := by rw [hw10]; exact Je rfl
    rw [<- hw10];have HB10 := hid hb10;have HX10 := hid X10;have HL10 := hid (HL9.out.same (Aside.of_below (S := fun q => q = b) hb10) (fun q hq => .inl hq) hlb hlg);have HR10 := hid (HR9.out.below hb10);have HV10 := hid (Jh HV9.out (fun q hq => hb10.block q (by have := (HLB.out q hq).2; omega)));clear y0 y1 y2 y3 y4 y5 yf v0 v1 v2 v3 v4 v5 vf hw10 X10 hb10;refine (JcB (w.heap.size + 2) acc.length pi w9.heap.size _ ess.flatten [.int .i64 u0, .bool u1, .int .i64 u2, .string u3, .slice U4 u4 u44, .slice U5 u5 u55] _ HV10.out hial HX10.out rfl HMa.out.one Hone.out (by omega) (by omega) (fun h => by have := (HLB.out _ h).2; omega)).mono ?_
    rintro e w12 ⟨g2, cap2, rfl, hown12, hgrow12, hat12, hlt12⟩;have hA12 := JaB hgrow12;have hs12 := hgrow12.size;have HL12 := hid (HL10.out.same hA12 (fun q hq => .inr (.inr (HLB.out q hq.symm).1)) hlb hlg);have HR12 := hid (HR10.out.past hA12 (fun hq => by have := (HLB.out _ hq.symm).1; omega) (fun hq => by have := (HLB.out _ hq.symm).1; omega));obtain ⟨y0, y1, y2, y3, y4, y5, yf⟩ := Jf HL12.out.list
    have ly12 := Ja HL12.out.list;have HOwn12 := hid hown12;have HGr12 := hid (And.intro hgrow12 hat12);clear hown12 hgrow12 hat12 hA12;go_wp2_with fail
    obtain ⟨w13, hw13⟩ : ∃ W, W = w12.setCell ⟨w.heap.size + 1, 5, none⟩ (.slice (some ⟨g2, 0, none⟩) (acc.length + 1) cap2) := ⟨_, rfl⟩
    rw [<- hw13];have hz13a : w13.heap.size <= w12.heap.size := by rw [hw13]; simp
    have hz13b : w12.heap.size <= w13.heap.size := by rw [hw13]; simp
    have hA13 : Aside (fun q => q = w.heap.size + 1) w12 w13 := by rw [hw13]; exact Jk rfl (Aside.refl _ _)
    have HL13 := hid (show LBoxI b g 6 w w13 (.slice (some ⟨g8, 0, none⟩) (ks.length + 1) cap) (.slice (some ⟨g2, 0, none⟩) (acc.length + 1) cap2) by rw [hw13]; exact HL12.out.set5);have HR13 := hid (HR12.out.past hA13 (fun hq => by omega) (fun hq => by omega));have HL13k := hid (Jh HOwn12.out (fun q hq => hA13.block q (HOwn12.out.lt q hq).2 (by have := (HOwn12.out.lt q hq).1; omega)))
    have HF12 := hid (show ∀ q, w.heap.size + 2 <= q -> q < w9.heap.size -> (Value.slice VA acc.length vc).ownBlock ≠ some q -> w13.heap[q]? = w9.heap[q]? from fun q h1 h2 h3 => (hA13.block q (by omega) (by omega)).trans ((HGr12.out.1.block q (by omega) (fun h => h3 h.symm)).trans (HB10.out.block q h2)))
    have HG13 := hid (show ∀ q, (Value.slice (some ⟨g2, 0, none⟩) (acc.length + 1) cap2).ownBlock = some q -> (Value.slice VA acc.length vc).ownBlock = some q ∨ w9.heap.size <= q from fun q hq => by
     simp [Value.ownBlock] at hq;subst hq;rcases HGr12.out.2 with h | h
     ·exact .inl h
     exact .inr (by omega))
    have hs913 : w9.heap.size <= w13.heap.size := by omega
    clear y0 y1 y2 y3 y4 y5 yf hw13 hA13;go_roundw
    case rel =>
     refine ⟨_, _, _, _, _, _, L', m', f', HL13.out, HR13.out, HOkc.out, ?_⟩;have hm9 := HKm.out;have hx6 := HX6.out;rcases hres : kidR with f1 | ⟨u, L1, m1⟩
     ·rw [hres] at hm9 hx6
      exact .inr ⟨by rw [hm9.1]; exact hm9.2, by rw [hm9.1]; exact hx6⟩
     rw [hres] at hm9 hx6;obtain ⟨e1, e2, e3, e4⟩ := hm9;have hpj := HKid.out.symm.trans hres;obtain ⟨hgw1, hgw2⟩ := JcR hpj hm (by omega)
     have hMG := MapG.ins (i := pi) (w0 := wc) (w1 := w9) (w2 := w13) (vk' := .slice (some ⟨g8, 0, none⟩) (ks.length + 1) cap) (vl' := .slice (some ⟨g2, 0, none⟩) (acc.length + 1) cap2) (key := ka) HMc.out (by omega) (by omega) hiks hial e4 (fun x hx => ⟨by have := hx.1; omega, hx.2⟩) (by omega)
      HF01.out hs59 HQ9.out HG9.out HF12.out hs913 HL13k.out HG13.out
     refine .inl ⟨J3 ks pi ka, J3 acc pi u, _, _, k1, hMG, e1, by omega, by rw [QY hiks]; omega, by rw [QY hiks, QY hial, HAL.out], by rw [HPi.out]; exact WL HSo.out (by rw [<- QV]; exact HNo.out), ?_, by omega, by rw [hx6, e2, e3, HPi.out]⟩;have h1 := JcQ hpj;have h2 := HNe.out;rw [e2];unfold JG at h2 ⊢;simp only [J0] at h1 h2 ⊢;omega
    case measure =>
     rw [HR13.out.meas, HRr.out.meas, if_pos (show Jv.code = 0 from rfl)];have hm9 := HKm.out;rcases hres : kidR with f1 | ⟨u, L1, m1⟩
     ·rw [hres] at hm9
      rw [hm9.1, if_neg hm9.2];omega
     rw [hres] at hm9;rw [hm9.1, hm9.2.1, if_pos (show Jv.code = 0 from rfl)];have := JfB (HKid.out.symm.trans hres);simp only [List.length_cons];omega
theorem JhS (s : ByteArray) : Zg s = true ↔ ∃ j, j < 17 /\ Jb s 0 = Jb (bs Qe) j := by
 unfold Zg;rw [List.any_eq_true];constructor
 ·rintro ⟨c, hc, h⟩
  obtain ⟨j, hj, e⟩ := List.getElem_of_mem hc;refine ⟨j, hj, ?_⟩;have e2 : (bs Qe).data.toList[j]? = some ((bs Qe).get! j) := J7 (show j < (bs Qe).size from hj);rw [show (bs Qe).data.toList = Qe from rfl, List.getElem?_eq_getElem hj, e] at e2;cases e2
  exact of_decide_eq_true h
 rintro ⟨j, hj, h⟩;exact ⟨(bs Qe).get! j, List.mem_of_getElem? (J7 (show j < (bs Qe).size from hj)), JmG h⟩
theorem JjF {s : ByteArray} {j : Nat} (hj : j < 17) (h : Jb s 0 = Jb (bs Qe) j) : Zg s = true := (JhS s).2 ⟨j, hj, h⟩
theorem Jlf {s : ByteArray} (h : ∀ j, j < 17 -> Jb s 0 ≠ Jb (bs Qe) j) : Zg s = false := by
 rcases e : Zg s with _ | _
 ·rfl
 obtain ⟨j, hj, h2⟩ := (JhS s).1 e;exact (h j hj h2).elim
theorem Y2 (s : ByteArray) (w : World) (hs : s.size <= 1048576) :
  Calls Tryz.prog 192 #[.string s] w fun e w' => e = .returned (.bool (Qa s)) /\ Below w.heap.size w w' := by
 have HU := hid (WB s w hs);obtain ⟨r, hr⟩ : ∃ r, r = Qa s := ⟨_, rfl⟩
 rw [<- hr];have HR := hid hr;clear hr;rcases hq1 : Q6 s.size 1 400 with _ | _
 ·have HF := hid (HR.out.trans (Vw (.inl hq1)))
  go_enter Tryz.func192, Tryz.ntmps192
  go_wp2_with (first | (go_at_call 115; refine (Jo _ _ _ _).mono ?_; rintro e w' ⟨rfl, rfl⟩))
  go_ret
  exact ⟨by rw [HF.out]; rfl, Jj⟩
 have hq : 1 <= s.size /\ s.size <= 400 := by
  unfold Q6 at hq1;have := of_decide_eq_true hq1;omega
 obtain ⟨hsz1, hsz4⟩ := hq;rcases hq2 : Qt s with _ | _
 ·have HF := hid (HR.out.trans (Vw (.inr (.inl hq2))))
  rw [hq2] at HU;go_enter Tryz.func192, Tryz.ntmps192
  go_wp2_with (first | (go_at_call 195; refine HU.out.mono ?_; rintro e w1 ⟨rfl, hb1⟩) | (go_at_call 115; refine (Jo _ _ _ _).mono ?_; rintro e w' ⟨rfl, rfl⟩))
  go_ret
  exact ⟨by rw [HF.out]; rfl, Jj⟩
 rw [hq2] at HU;obtain ⟨p, hp⟩ : ∃ p, s.size = p + 1 := ⟨s.size - 1, by omega⟩
 have hpz : (s.size : Int) = (p : Int) + 1 := by omega
 have hq1p : Q6 ((p : Int) + 1) 1 400 = true := by rw [<- hpz]; exact hq1
 have h0 : 0 < s.size := by omega
 have hpp : p < s.size := by omega
 have hps : s.size - 1 = p := by omega
 obtain ⟨b, hbb⟩ : ∃ b : Nat, b = (s.get! 0).toNat := ⟨_, rfl⟩
 have hx : (s[0]'h0).toNat = b := by rw [hbb]; exact JA s 0 h0
 obtain ⟨l, hll⟩ : ∃ b : Nat, b = (s.get! p).toNat := ⟨_, rfl⟩
 have hxl : (s[p]'hpp).toNat = l := by rw [hll]; exact JA s p hpp
 have HB : Hid (Jb s 0 = b) := hid (by unfold Jb; rw [hbb]);have HL : Hid (Jb s (s.size - 1) = l) := hid (by rw [hps]; unfold Jb; rw [hll]);clear hbb hll hps hp hsz1;by_cases h4 : (b : Int) = 32
 ·have HF := hid (HR.out.trans (Vw (.inr (.inr (.inr (.inl (HB.out.trans h4)))))))
  have k4 : ((b : Int) == 32) = true := beq_iff_eq.2 h4;clear h4;go_enter Tryz.func192, Tryz.ntmps192
  go_wp2_with (first | (go_at_call 195; refine HU.out.mono ?_; rintro e w1 ⟨rfl, hb1⟩) | (go_at_call 115; refine (Jo _ _ _ _).mono ?_; rintro e w' ⟨rfl, rfl⟩))
  go_ret
  exact ⟨by rw [HF.out]; rfl, Jj⟩
 have k4 : ((b : Int) == 32) = false := JmH h4;by_cases h5 : (l : Int) = 32
 ·have HF := hid (HR.out.trans (Vw (.inr (.inr (.inr (.inr (HL.out.trans h5)))))))
  have k5 : ((l : Int) == 32) = true := beq_iff_eq.2 h5;clear h5;go_enter Tryz.func192, Tryz.ntmps192
  go_wp2_with (first | (go_at_call 195; refine HU.out.mono ?_; rintro e w1 ⟨rfl, hb1⟩) | (go_at_call 115; refine (Jo _ _ _ _).mono ?_; rintro e w' ⟨rfl, rfl⟩))
  go_ret
  exact ⟨by rw [HF.out]; rfl, Jj⟩
 have k5 : ((l : Int) == 32) = false := JmH h5;have HG := hid (fun h3 h6 => JcN hq1 hq2 h3 (by rw [HB.out]; exact h4) (by rw [HL.out]; exact h5) h6);go_enter Tryz.func192, Tryz.ntmps192
 go_wp2_with (first | (go_at_call 195; refine HU.out.mono ?_; rintro e w1 ⟨rfl, hb1⟩) | (go_at_call 115; refine (Jo _ _ _ _).mono ?_; rintro e w' ⟨rfl, rfl⟩))
 have HB1 := hid hb1;clear hb1 hq1p hpp hxl k4 k5 h4 h5;go_loopw [4] (fun s4 wr => ∃ k : Nat, s4 = .int .i64 k /\ k <= 17 /\ (∀ j, j < k -> Jb s 0 ≠ Jb (bs Qe) j) /\ Below w.heap.size w wr) (fun s4 _ => 17 - (intOf s4).toNat)
 case atStart => exact ⟨0, rfl, Nat.zero_le _, fun j hj => absurd hj (by omega), HB1.out⟩
 case round =>
  obtain ⟨k, rfl, hk, ha, hbr⟩ := hrel;have HA := hid ha;have HBr := hid hbr;clear ha hbr;by_cases hlt : (k : Int) < 17
  ·have hkk : k < 17 := by omega
   have hd : decide ((k : Int) < 17) = true := JmG hlt;have hz : (0 : Int) <= k := by omega
   obtain ⟨c, hcc⟩ : ∃ c : Nat, c = ((bs Qe).get! k).toNat := ⟨_, rfl⟩
   have hxc : ((({ data := #[45, 63, 58, 44, 91, 93, 123, 125, 38, 42, 33, 124, 62, 39, 37, 64, 96] } : ByteArray))[k]'hkk).toNat = c := by rw [hcc]; exact JA (bs Qe) k hkk
   have HC : Hid (Jb (bs Qe) k = c) := hid (by unfold Jb; rw [hcc]);clear hcc;by_cases g : (b : Int) = c
   ·have HF := hid (HR.out.trans (Vw (.inr (.inr (.inl (JjF hkk (by rw [HB.out, HC.out]; exact g)))))))
    obtain rfl : b = c := by omega
    go_wp2_with fail
    refine Jm 6 (by kernel_rfl) (by kernel_rfl) (by decide) ?_
    iterate 6 refine ds ?_
    intro wd hbwd
    (try simp only [Act.put, List.setIfInBounds_toArray, List.set_cons_zero, List.set_cons_succ])
    (try simp only [List.drop_succ_cons, List.drop_nil])
    have HBd := hid (HBr.out.trans (hbwd.mono HBr.out.size));clear hbwd;go_wp2_with fail
    go_ret
    exact ⟨by rw [HF.out]; rfl, HBd.out⟩
   have j1 : ((b : Int) == (c : Int)) = false := JmH g;have j2 : (b == c) = false := JmH (by omega);have j3 : ¬ b = c := by omega
   go_wp2_with fail
   refine Jm 6 (by kernel_rfl) (by kernel_rfl) (by decide) ?_
   iterate 6 refine ds ?_
   intro wd hbwd
   (try simp only [Act.put, List.setIfInBounds_toArray, List.set_cons_zero, List.set_cons_succ])
   (try simp only [List.drop_succ_cons, List.drop_nil])
   have HBd := hid (HBr.out.trans (hbwd.mono HBr.out.size));clear hbwd;go_wp2_with fail
   go_roundw
   case rel => exact ⟨k + 1, by go_num, hkk, fun j hj => by
     rcases Nat.lt_or_ge j k with h | h
     ·exact HA.out j h
     rw [show j = k by omega, HB.out, HC.out]; exact g, HBd.out⟩
   case measure => first | omega | (simp [intOf]; done) | (simp [intOf]; omega)
  have hd : decide ((k : Int) < 17) = false := JmF hlt;have HQ := hid (Jlf (s := s) (fun j hj => HA.out j (by omega)));go_wp2_with fail
  clear hx;go_loop [5, 6] (fun s3 s36 => ∃ k : Nat, s3 = .bool (WY s k) /\ s36 = .int .i64 k /\ k <= s.size /\ QG k (VO s) = true) (fun _ s36 => s.size - (intOf s36).toNat)
  case atStart => exact ⟨0, rfl, rfl, Nat.zero_le _, rfl⟩
  case round =>
   obtain ⟨k, rfl, rfl, hk, ha⟩ := hrel;have HA := hid ha;clear ha;obtain ⟨dg, hdg⟩ : ∃ q, q = WY s k := ⟨_, rfl⟩
   rw [<- hdg];have HD := hid hdg;clear hdg;by_cases hlt : (k : Int) < s.size
   ·have hkk : k < s.size := by omega
    have hd : decide ((k : Int) < (p : Int) + 1) = true := JmG (by omega);have hz : (0 : Int) <= k := by omega
    obtain ⟨c, hcc⟩ : ∃ c : Nat, c = (s.get! k).toNat := ⟨_, rfl⟩
    have hxc : (s[k]'hkk).toNat = c := by rw [hcc]; exact JA s k hkk
    have HC : Hid (Jb s k = c) := hid (by unfold Jb; rw [hcc]);clear hcc;have HE := hid (Jaa s k wr (by omega) hkk);obtain ⟨en, hen⟩ : ∃ q, q = Qc s k := ⟨_, rfl⟩
    rw [<- hen] at HE;have HN := hid hen;clear hen;have HP : Hid (VO s k = !(decide ((c : Int) < 32) || decide ((c : Int) = 34) || decide ((c : Int) = 35) || decide ((c : Int) = 92) || en)) := hid (by unfold VO; rw [HC.out, <- HN.out]);by_cases g1 : (c : Int) < 32
    ·have j1 : decide ((c : Int) < 32) = true := JmG g1
     have HF := hid (HR.out.trans (Vv hkk (by rw [HP.out, j1]; rfl)));go_wp2_with fail
     go_ret
     exact ⟨by rw [HF.out]; rfl, HBr.out⟩
    have j1 : decide ((c : Int) < 32) = false := JmF g1;by_cases g2 : (c : Int) = 34
    ·have j2 : ((c : Int) == 34) = true := beq_iff_eq.2 g2
     have HF := hid (HR.out.trans (Vv hkk (by rw [HP.out, JmG g2]; simp)));go_wp2_with fail
     go_ret
     exact ⟨by rw [HF.out]; rfl, HBr.out⟩
    have j2 : ((c : Int) == 34) = false := JmH g2;by_cases g3 : (c : Int) = 35
    ·have j3 : ((c : Int) == 35) = true := beq_iff_eq.2 g3
     have HF := hid (HR.out.trans (Vv hkk (by rw [HP.out, JmG g3]; simp)));go_wp2_with fail
     go_ret
     exact ⟨by rw [HF.out]; rfl, HBr.out⟩
    have j3 : ((c : Int) == 35) = false := JmH g3;by_cases g4 : (c : Int) = 92
    ·have j4 : ((c : Int) == 92) = true := beq_iff_eq.2 g4
     have HF := hid (HR.out.trans (Vv hkk (by rw [HP.out, JmG g4]; simp)));go_wp2_with fail
     go_ret
     exact ⟨by rw [HF.out]; rfl, HBr.out⟩
    have j4 : ((c : Int) == 92) = false := JmH g4;rcases en with _ | _
    rotate_left
    ·have HF := hid (HR.out.trans (Vv hkk (by rw [HP.out]; simp)))
     go_wp2_with (go_at_call 191; refine HE.out.mono ?_; rintro e w2 ⟨rfl, rfl⟩)
     go_ret
     exact ⟨by rw [HF.out]; rfl, HBr.out⟩
    have HA2 : Hid (QG (k + 1) (VO s) = true) := hid (by rw [Vc, HA.out, HP.out, JmF g1, JmF g2, JmF g3, JmF g4]; rfl);have HD2 : Hid (WY s (k + 1) = (dg && Zy (c : Int))) := hid (by rw [HD.out, <- HC.out]; unfold WY; exact Vc _ _);rcases dg with _ | _
    ·go_wp2_with (go_at_call 191; refine HE.out.mono ?_; rintro e w2 ⟨rfl, rfl⟩)
     go_round
     ·exact ⟨k + 1, by rw [HD2.out]; rfl, by go_num, hkk, HA2.out⟩
     first | omega | (simp [intOf]; done) | (simp [intOf]; omega)
    ·by_cases y1 : (48 : Int) <= c
     ·have y1d : decide ((48 : Int) <= c) = true := JmG y1
      by_cases y2 : (c : Int) <= 57
      focus
       have y2d : decide ((c : Int) <= 57) = true := JmG y2;have HD3 : Hid (WY s (k + 1) = true) := hid (by rw [HD2.out]; exact JmG ⟨y1, y2⟩)
      rotate_left
      focus
       have y2d : decide ((c : Int) <= 57) = false := JmF y2;have HD3 : Hid (WY s (k + 1) = false) := hid (by rw [HD2.out]; exact JmF (fun h => y2 h.2))
      rotate_left
      all_goals
       go_wp2_with (go_at_call 191; refine HE.out.mono ?_; rintro e w2 ⟨rfl, rfl⟩)
       go_round
       ·exact ⟨k + 1, by rw [HD3.out], by go_num, hkk, HA2.out⟩
       first | omega | (simp [intOf]; done) | (simp [intOf]; omega)
     have y1d : decide ((48 : Int) <= c) = false := JmF y1;have HD3 : Hid (WY s (k + 1) = false) := hid (by rw [HD2.out]; exact JmF (fun h => y1 h.1));go_wp2_with (go_at_call 191; refine HE.out.mono ?_; rintro e w2 ⟨rfl, rfl⟩)
     go_round
     ·exact ⟨k + 1, by rw [HD3.out], by go_num, hkk, HA2.out⟩
     first | omega | (simp [intOf]; done) | (simp [intOf]; omega)
   have hd : decide ((k : Int) < (p : Int) + 1) = false := JmF (by omega);have hke : k = s.size := by omega
   have HF := hid (HR.out.trans (HG.out HQ.out (hke ▸ HA.out)));have HD3 := hid (hke ▸ HD.out);rw [<- HD3.out] at HF;obtain ⟨q1, hm1⟩ : ∃ q, (s.toList == [110, 117, 108, 108]) = q := ⟨_, rfl⟩
   obtain ⟨q2, hm2⟩ : ∃ q, (s.toList == [126]) = q := ⟨_, rfl⟩
   obtain ⟨q3, hm3⟩ : ∃ q, (s.toList == [116, 114, 117, 101]) = q := ⟨_, rfl⟩
   obtain ⟨q4, hm4⟩ : ∃ q, (s.toList == [102, 97, 108, 115, 101]) = q := ⟨_, rfl⟩
   have HW : Hid (r = (!dg && !(q1 || q2 || q3 || q4))) := hid (by
    rw [HF.out];unfold Jji;simp only [Vi]
    rw [<- hm1, <- hm2, <- hm3, <- hm4])
   clear HF;rcases dg with _ | _
   ·rcases q1 with _ | _ <;> rcases q2 with _ | _ <;> rcases q3 with _ | _ <;> rcases q4 with _ | _
    all_goals
     go_wp2_with fail
     go_ret
     exact ⟨by rw [HW.out]; rfl, HBr.out⟩
   go_wp2_with fail
   go_ret
   exact ⟨by rw [HW.out]; rfl, HBr.out⟩
def JlN (s : ByteArray) (s5 s6 s9 : Value) : Prop :=
 (∃ i : Nat, s5 = .string ⟨#[]⟩ /\ s6 = .int .i64 (-1) /\ s9 = .int .i64 i /\ i <= s.size /\ ∀ j, j < i -> Qc s j = false) ∨
 (∃ k : Nat, s5 = .string (s.extract 0 k) /\ s6 = .int .i64 k /\ s9 = .int .i64 ((k : Int) + 1) /\ k < s.size /\ Qc s k = true /\ ∀ j, j < k -> Qc s j = false)
theorem Xr (s : ByteArray) (w : World) (hs : s.size <= 1048576) :
  Calls Tryz.prog 112 #[.string s] w fun e w' => e = .returned (Jl1 (Qq s)) /\ Below w.heap.size w w' := by
 have HKT := hid (fun (i : Nat) (W : World) => Vz (s.extract i s.size) W (by rw [ByteArray.size_extract]; omega));obtain ⟨r, hr⟩ : ∃ r, r = Qq s := ⟨_, rfl⟩
 rw [<- hr];have HR := hid hr;clear hr;by_cases hq : 0 < s.size /\ Jb s 0 = ((34 : UInt8).toNat : Int)
 ·have h0 : 0 < s.size := hq.1
  have h0I : decide ((0 : Int) < s.size) = true := JmG (by omega)
  have hx : (s[0]'h0).toNat = 34 := by
   have := hq.2;unfold Jb at this;rw [JA s 0 h0];have e : (34 : UInt8).toNat = 34 := rfl;omega
  have HQ := hid (Zo s 0 w hs (by omega));have hnx := Jbo s 0;obtain ⟨k, a, hka⟩ : ∃ k a, Jr s 0 = (k, a) := ⟨_, _, rfl⟩
  rw [hka] at HQ hnx;have hk1 : (Jr s 0).1 = k := by rw [hka]
  have hk2 : (Jr s 0).2 = a := by rw [hka]
  have HK2 := hid (And.intro hk1 hk2);have HQ0 := hid hq;clear hka hk1 hk2 hq;simp only at hnx;by_cases ha : a < 0
  ·have hd : decide (0 <= a) = false := JmF (by omega)
   have HF := hid (HR.out.trans (Ys HQ0.out.1 HQ0.out.2 (.inl (by rw [HK2.out.2]; exact ha))));clear hnx;go_enter Tryz.func112, Tryz.ntmps112
   go_wp2_with fail
   refine HQ.out.mono ?_;rintro e w1 ⟨rfl, hb1⟩;go_wp2_with fail
   exact bodyPost_ret (v := .tuple #[.string ⟨#[]⟩, .string ⟨#[]⟩, .bool false]) (by simp only [results, Tryz.results112]; go_simp) rfl ⟨by rw [HF.out]; rfl, Jj⟩
  obtain ⟨e, rfl⟩ : ∃ e : Nat, a = (e : Int) := ⟨a.toNat, by omega⟩
  have he : e <= s.size := by omega
  have hd : decide ((0 : Int) <= e) = true := JmG (by omega);clear hnx ha;by_cases hes : (e : Int) < s.size
  rotate_left
  ·have hd2 : decide ((e : Int) < s.size) = false := JmF hes
   have HF := hid (HR.out.trans (Ys HQ0.out.1 HQ0.out.2 (.inr (by rw [HK2.out.2, Int.toNat_natCast]; exact JdJ (by omega)))));go_enter Tryz.func112, Tryz.ntmps112
   go_wp2_with fail
   refine HQ.out.mono ?_;rintro e w1 ⟨rfl, hb1⟩;go_wp2_with fail
   exact bodyPost_ret (v := .tuple #[.string ⟨#[]⟩, .string ⟨#[]⟩, .bool false]) (by simp only [results, Tryz.results112]; go_simp) rfl ⟨by rw [HF.out]; rfl, Jj⟩
  have hd2 : decide ((e : Int) < s.size) = true := JmG hes;have hesN : e < s.size := by omega
  have HE := hid (fun W => Jaa s e W hs hesN);rcases hen : Qc s e with _ | _
  ·rw [hen] at HE
   have HF := hid (HR.out.trans (Ys HQ0.out.1 HQ0.out.2 (.inr (by rw [HK2.out.2, Int.toNat_natCast]; exact hen))));clear hen;go_enter Tryz.func112, Tryz.ntmps112
   go_wp2_with fail
   refine HQ.out.mono ?_;rintro e w1 ⟨rfl, hb1⟩;go_wp2_with (go_at_call 191; refine (HE.out _).mono ?_; rintro e w2 ⟨rfl, rfl⟩)
   exact bodyPost_ret (v := .tuple #[.string ⟨#[]⟩, .string ⟨#[]⟩, .bool false]) (by simp only [results, Tryz.results112]; go_simp) rfl ⟨by rw [HF.out]; rfl, Jj⟩
  ·rw [hen] at HE
   have HF := hid (HR.out.trans (Jfe HQ0.out.1 HQ0.out.2 HK2.out.2 hen));have hd3 : decide ((e : Int) < 0) = false := JmF (by omega);have hesI : (e : Int) + 1 <= s.size := by omega
   have hz1 : (0 : Int) <= (e : Int) + 1 := by omega
   have hesM : e + 1 <= s.size := hesN;rw [HK2.out.1] at HF;have HT1 := hid (HKT.out (e + 1));have hct := JfO s (e + 1);have hsz : (s.extract (e + 1) s.size).size = s.size - (e + 1) := by rw [ByteArray.size_extract]; omega
   have hin : Vh (s.extract (e + 1) s.size).data.toList <= (s.extract (e + 1) s.size).size := by unfold Vh; rw [Jp]; exact Nat.sub_le _ _
   obtain ⟨u, hu⟩ : ∃ u, u = s.extract (e + 1) s.size := ⟨_, rfl⟩
   rw [<- hu] at HT1 hct hin;obtain ⟨n, hn⟩ : ∃ n, n = Vh u.data.toList := ⟨_, rfl⟩
   rw [<- hn] at HT1 hct hin;have hinI : (n : Int) <= u.size := by omega
   have hn0 : (0 : Int) <= n := by omega
   have HU := hid hu;have HC := hid hct;clear hen hn hsz hct hu;go_enter Tryz.func112, Tryz.ntmps112
   go_wp2_with fail
   refine HQ.out.mono ?_;rintro e w1 ⟨rfl, hb1⟩;have HB1 := hid hb1;clear hb1;go_wp2_with (go_at_call 191; refine (HE.out _).mono ?_; rintro e w2 ⟨rfl, rfl⟩)
   rw [<- HU.out];refine Jm 8 (by kernel_rfl) (by kernel_rfl) (by decide) ?_
   iterate 3 refine ds ?_
   (apply Exists.intro; refine And.intro ?_ ?_; (focus (intro W hW; (try simp only [Act.put, List.setIfInBounds_toArray, List.set_cons_zero, List.set_cons_succ]); first | (obtain ⟨hcW, hfW⟩ := JE hW; have hsW := hW.size; (try simp at hsW); (try have hsW0 := Jd hsW); (try (have hsW1 := Jc hsW; (try (have hsW2 := Jc hsW1)))); go_wp2_with (first | (go_at_call 108; refine (HT1.out _).mono ?_; rintro e w9 ⟨rfl, rfl⟩)); exact ⟨rfl, rfl, Jj⟩))))
   iterate 4 refine ds ?_
   intro wd hbwd
   (try simp only [Act.put, List.setIfInBounds_toArray, List.set_cons_zero, List.set_cons_succ])
   (try simp only [List.drop_succ_cons, List.drop_nil])
   have HBd := hid (HB1.out.trans (hbwd.mono HB1.out.size));clear hbwd;go_wp2_with fail
   exact bodyPost_ret (v := .tuple #[.string k, .string (u.extract n u.size), .bool true]) (by simp only [results, Tryz.results112]; go_simp) rfl ⟨by rw [HF.out, HC.out]; rfl, HBd.out⟩
 have HQ0 := hid hq
 have hq2 : (decide ((0 : Int) < s.size) = false /\ s.size = 0) ∨ ∃ (b : Nat) (h0 : 0 < s.size), decide ((0 : Int) < s.size) = true /\ (s[0]'h0).toNat = b /\ ((b : Int) == 34) = false := by
  by_cases h0 : 0 < s.size
  ·refine .inr ⟨(s.get! 0).toNat, h0, JmG (by omega), JA s 0 h0, JmH (fun h => hq ⟨h0, ?_⟩)⟩
   unfold Jb;have e : (34 : UInt8).toNat = 34 := rfl;omega
  exact .inl ⟨JmF (by omega), by omega⟩
 clear hq;rcases hq2 with ⟨h0I, h00⟩ | ⟨b, h0, h0I, hx, hb⟩
 all_goals
  (try have h0N : decide (0 < s.size) = false := JmF (by omega))
  (try clear h00)
  go_enter Tryz.func112, Tryz.ntmps112
  go_wp2_with fail
  go_loop [5, 6, 9] (fun s5 s6 s9 => JlN s s5 s6 s9) (fun _ _ s9 => s.size + 1 - (intOf s9).toNat)
  case atStart => exact .inl ⟨0, rfl, rfl, rfl, Nat.zero_le _, fun j hj => absurd hj (by omega)⟩
  case round =>
   (try clear h0I)
   (try clear h0N)
   (try clear hx hb)
   rcases hrel with ⟨i, rfl, rfl, rfl, hi, ha⟩ | ⟨k, rfl, rfl, rfl, hk, he, ha⟩
   ·have HA := hid ha
    clear ha;by_cases hlt : (i : Int) < s.size
    ·have hii : i < s.size := by omega
     have hd : decide ((i : Int) < s.size) = true := JmG hlt;have hz : (0 : Int) <= i := by omega
     have hiI : (i : Int) <= s.size := by omega
     have HE := hid (Jaa s i w hs hii);rcases hen : Qc s i with _ | _
     ·rw [hen] at HE
      have HN := hid hen;clear hen;go_wp2_with (go_at_call 191; refine HE.out.mono ?_; rintro e w2 ⟨rfl, rfl⟩)
      go_round
      ·exact .inl ⟨i + 1, rfl, rfl, by go_num, hii, fun j hj => by
        rcases Nat.lt_or_ge j i with h | h
        ·exact HA.out j h
        rw [show j = i by omega]; exact HN.out⟩
      first | omega | (simp [intOf]; done) | (simp [intOf]; omega)
     rw [hen] at HE;have HN := hid hen;clear hen;go_wp2_with (go_at_call 191; refine HE.out.mono ?_; rintro e w2 ⟨rfl, rfl⟩)
     go_round
     ·exact .inr ⟨i, rfl, rfl, by go_num, hii, HN.out, HA.out⟩
     first | omega | (simp [intOf]; done) | (simp [intOf]; omega)
    have hd : decide ((i : Int) < s.size) = false := JmF hlt;have HF := hid (HR.out.trans (Je7 HQ0.out (fun j hj => HA.out j (by omega))));go_wp2_with fail
    exact bodyPost_ret (v := .tuple #[.string ⟨#[]⟩, .string ⟨#[]⟩, .bool false]) (by simp only [results, Tryz.results112]; go_simp) rfl ⟨by rw [HF.out]; rfl, Jj⟩
   have HF0 := hid (HR.out.trans (Jdf HQ0.out hk ha he));have HP := hid (Y2 (s.extract 0 k) w (by rw [ByteArray.size_extract]; omega));have hk1 : decide ((k : Int) < 0) = false := JmF (by omega);have hk2 : decide ((0 : Int) <= k) = true := JmG (by omega);have hes : (k : Int) + 1 <= s.size := by omega
   have hesN : k + 1 <= s.size := hk;have hz1 : (0 : Int) <= (k : Int) + 1 := by omega
   have HT1 := hid (HKT.out (k + 1));have hct := JfO s (k + 1);have hin : Vh (s.extract (k + 1) s.size).data.toList <= (s.extract (k + 1) s.size).size := by unfold Vh; rw [Jp]; exact Nat.sub_le _ _
   obtain ⟨u, hu⟩ : ∃ u, u = s.extract (k + 1) s.size := ⟨_, rfl⟩
   rw [<- hu] at HT1 hct hin;obtain ⟨n, hn⟩ : ∃ n, n = Vh u.data.toList := ⟨_, rfl⟩
   rw [<- hn] at HT1 hct hin;have hinI : (n : Int) <= u.size := by omega
   have hn0 : (0 : Int) <= n := by omega
   have HU := hid hu;have HC := hid hct;obtain ⟨q, hqt⟩ : ∃ q, q = decide ((k : Int) + 1 < s.size) := ⟨_, rfl⟩
   have hqt' : decide ((k : Int) + 1 < s.size) = q := hqt.symm;clear ha he hn hct hu hqt;rcases hpl : Qa (s.extract 0 k) with _ | _
   ·rw [hpl] at HP HF0
    have HF := hid (show r = none from HF0.out);clear hpl HF0;rcases q with _ | _
    all_goals
     go_wp2_with fail
     refine HP.out.mono ?_;rintro e w1 ⟨rfl, hb1⟩;go_wp2_with fail
     exact bodyPost_ret (v := .tuple #[.string ⟨#[]⟩, .string ⟨#[]⟩, .bool false]) (by simp only [results, Tryz.results112]; go_simp) rfl ⟨by rw [HF.out]; rfl, Jj⟩
   rw [hpl] at HP HF0;have HF := hid (show r = some (s.extract 0 k, Qb s (k + 1)) from HF0.out);clear hpl HF0;rcases q with _ | _
   all_goals
    go_wp2_with fail
    refine HP.out.mono ?_;rintro e w1 ⟨rfl, hb1⟩;have HB1 := hid hb1;clear hb1;go_wp2_with fail
    rw [<- HU.out];refine Jm 8 (by kernel_rfl) (by kernel_rfl) (by decide) ?_
    iterate 3 refine ds ?_
    (apply Exists.intro; refine And.intro ?_ ?_; (focus (intro W hW; (try simp only [Act.put, List.setIfInBounds_toArray, List.set_cons_zero, List.set_cons_succ]); first | (obtain ⟨hcW, hfW⟩ := JE hW; have hsW := hW.size; (try simp at hsW); (try have hsW0 := Jd hsW); (try (have hsW1 := Jc hsW; (try (have hsW2 := Jc hsW1)))); go_wp2_with (first | (go_at_call 108; refine (HT1.out _).mono ?_; rintro e w9 ⟨rfl, rfl⟩)); exact ⟨rfl, rfl, Jj⟩))))
    iterate 4 refine ds ?_
    intro wd hbwd
    (try simp only [Act.put, List.setIfInBounds_toArray, List.set_cons_zero, List.set_cons_succ])
    (try simp only [List.drop_succ_cons, List.drop_nil])
    have HBd := hid (HB1.out.trans (hbwd.mono HB1.out.size));clear hbwd;go_wp2_with fail
    exact bodyPost_ret (v := .tuple #[.string (s.extract 0 k), .string (u.extract n u.size), .bool true]) (by simp only [results, Tryz.results112]; go_simp) rfl ⟨by rw [HF.out, HC.out]; rfl, HBd.out⟩
theorem Zh (s : ByteArray) (w : World) (hs : s.size <= 1048576) :
  Calls Tryz.prog 114 #[.string s] w fun e w' => e = .returned (JcL (JL s)) /\ Below w.heap.size w w' := by
 by_cases c1 : s = (⟨#[91, 93]⟩ : ByteArray)
 ·have HF := Jhr c1
  subst c1;rw [HF];clear HF;go_enter Tryz.func114, Tryz.ntmps114
  go_wp2_with fail
  exact bodyPost_ret (v := .tuple #[.agg #[.int .i64 5, .bool false, .int .i64 0, .string ⟨#[]⟩, .slice none 0 0, .slice none 0 0], .bool true]) (by simp only [results, Tryz.results114]; go_simp) rfl ⟨rfl, Jj⟩
 have k1 : (s.toList == [91, 93]) = false := by rw [<- Vi]; exact JmF c1
 by_cases c2 : s = (⟨#[123, 125]⟩ : ByteArray)
 ·have HF := JhT c2
  subst c2;rw [HF];clear HF;go_enter Tryz.func114, Tryz.ntmps114
  go_wp2_with fail
  exact bodyPost_ret (v := .tuple #[.agg #[.int .i64 6, .bool false, .int .i64 0, .string ⟨#[]⟩, .slice none 0 0, .slice none 0 0], .bool true]) (by simp only [results, Tryz.results114]; go_simp) rfl ⟨rfl, Jj⟩
 have k2 : (s.toList == [123, 125]) = false := by rw [<- Vi]; exact JmF c2
 by_cases c3 : s = (⟨#[110, 117, 108, 108]⟩ : ByteArray)
 ·have HF := JhO c3
  subst c3;rw [HF];clear HF;go_enter Tryz.func114, Tryz.ntmps114
  go_wp2_with fail
  exact bodyPost_ret (v := .tuple #[.agg #[.int .i64 1, .bool false, .int .i64 0, .string ⟨#[]⟩, .slice none 0 0, .slice none 0 0], .bool true]) (by simp only [results, Tryz.results114]; go_simp) rfl ⟨rfl, Jj⟩
 have k3 : (s.toList == [110, 117, 108, 108]) = false := by rw [<- Vi]; exact JmF c3
 by_cases c4 : s = (⟨#[126]⟩ : ByteArray)
 ·have HF := JhI c4
  subst c4;rw [HF];clear HF;go_enter Tryz.func114, Tryz.ntmps114
  go_wp2_with fail
  exact bodyPost_ret (v := .tuple #[.agg #[.int .i64 1, .bool false, .int .i64 0, .string ⟨#[]⟩, .slice none 0 0, .slice none 0 0], .bool true]) (by simp only [results, Tryz.results114]; go_simp) rfl ⟨rfl, Jj⟩
 have k4 : (s.toList == [126]) = false := by rw [<- Vi]; exact JmF c4
 by_cases c5 : s = (⟨#[116, 114, 117, 101]⟩ : ByteArray)
 ·have HF := JhG c5
  subst c5;rw [HF];clear HF;go_enter Tryz.func114, Tryz.ntmps114
  go_wp2_with fail
  exact bodyPost_ret (v := .tuple #[.agg #[.int .i64 2, .bool true, .int .i64 0, .string ⟨#[]⟩, .slice none 0 0, .slice none 0 0], .bool true]) (by simp only [results, Tryz.results114]; go_simp) rfl ⟨rfl, Jj⟩
 have k5 : (s.toList == [116, 114, 117, 101]) = false := by rw [<- Vi]; exact JmF c5
 by_cases c6 : s = (⟨#[102, 97, 108, 115, 101]⟩ : ByteArray)
 ·have HF := Jha c6
  subst c6;rw [HF];clear HF;go_enter Tryz.func114, Tryz.ntmps114
  go_wp2_with fail
  exact bodyPost_ret (v := .tuple #[.agg #[.int .i64 2, .bool false, .int .i64 0, .string ⟨#[]⟩, .slice none 0 0, .slice none 0 0], .bool true]) (by simp only [results, Tryz.results114]; go_simp) rfl ⟨rfl, Jj⟩
 have k6 : (s.toList == [102, 97, 108, 115, 101]) = false := by rw [<- Vi]; exact JmF c6
 have HC := hid (ScalNo.mk c1 c2 c3 c4 c5 c6);clear c1 c2 c3 c4 c5 c6;obtain ⟨r, hr⟩ : ∃ r, r = JL s := ⟨_, rfl⟩
 rw [<- hr];have HR := hid hr;clear hr;by_cases hq : 0 < s.size /\ Jb s 0 = ((34 : UInt8).toNat : Int)
 ·have h0 : 0 < s.size := hq.1
  have h0I : decide ((0 : Int) < s.size) = true := JmG (by omega)
  have hx : (s[0]'h0).toNat = 34 := by
   have := hq.2;unfold Jb at this;rw [JA s 0 h0];have e : (34 : UInt8).toNat = 34 := rfl;omega
  have HQ := hid (fun (W : World) (hb : Below w.heap.size w W) => Zo s 0 W hs (by omega));obtain ⟨k, a, hka⟩ : ∃ k a, Jr s 0 = (k, a) := ⟨_, _, rfl⟩
  rw [hka] at HQ;have hk1 : (Jr s 0).1 = k := by rw [hka]
  have hk2 : (Jr s 0).2 = a := by rw [hka]
  have HK2 := hid (And.intro hk1 hk2);have HQ0 := hid hq;clear hka hk1 hk2 hq;by_cases h1 : a = (s.size : Int)
  rotate_left
  ·have d1 : (a != (s.size : Int)) = true := bne_iff_ne.2 h1
   have d2 : (a == (s.size : Int)) = false := JmH h1;have HF := hid (HR.out.trans (YF HC.out HQ0.out (fun h => h1 (HK2.out.2.symm.trans h.1))));clear h1;go_enter Tryz.func114, Tryz.ntmps114
   go_wp2_with fail
   refine (HQ.out _ Jj).mono ?_;rintro e w1 ⟨rfl, hb1⟩;have HT1 := hid ((hb1.block w.heap.size (by simp)).trans (Je (w := w) (o := .cells #[.int .i64 0, .bool false, .int .i64 0, .string ⟨#[]⟩, .slice none 0 0, .slice none 0 0] 34) rfl));have HB1 := hid (Jj : Below w.heap.size w w1);obtain ⟨x0, x1, x2, x3, x4, x5, xf⟩ := Jf HT1.out;have l1 := Ja HT1.out;clear hb1;go_wp2_with fail
   exact bodyPost_ret (v := .tuple #[.agg #[.int .i64 0, .bool false, .int .i64 0, .string ⟨#[]⟩, .slice none 0 0, .slice none 0 0], .bool false]) (by simp only [results, Tryz.results114]; go_simp) rfl ⟨by rw [HF.out]; rfl, HB1.out.trans (Aside.below (S := fun q => q = w.heap.size) QC HB1.out.size (fun i hi => by omega))⟩
  have d2 : (a == (s.size : Int)) = true := beq_iff_eq.2 h1;have d1 : (a != (s.size : Int)) = false := by unfold bne; rw [d2]; rfl
  by_cases h2 : (400 : Int) < k.size
  ·have d3 : decide ((400 : Int) < k.size) = true := JmG h2
   have HF := hid (HR.out.trans (YF HC.out HQ0.out (fun h => by have := h.2; rw [HK2.out.1] at this; omega)));clear h1;go_enter Tryz.func114, Tryz.ntmps114
   go_wp2_with fail
   refine (HQ.out _ Jj).mono ?_;rintro e w1 ⟨rfl, hb1⟩;have HT1 := hid ((hb1.block w.heap.size (by simp)).trans (Je (w := w) (o := .cells #[.int .i64 0, .bool false, .int .i64 0, .string ⟨#[]⟩, .slice none 0 0, .slice none 0 0] 34) rfl));have HB1 := hid (Jj : Below w.heap.size w w1);obtain ⟨x0, x1, x2, x3, x4, x5, xf⟩ := Jf HT1.out;have l1 := Ja HT1.out;clear hb1;go_wp2_with fail
   exact bodyPost_ret (v := .tuple #[.agg #[.int .i64 0, .bool false, .int .i64 0, .string ⟨#[]⟩, .slice none 0 0, .slice none 0 0], .bool false]) (by simp only [results, Tryz.results114]; go_simp) rfl ⟨by rw [HF.out]; rfl, HB1.out.trans (Aside.below (S := fun q => q = w.heap.size) QC HB1.out.size (fun i hi => by omega))⟩
  ·have d3 : decide ((400 : Int) < k.size) = false := JmF h2
   have HF := hid (HR.out.trans (JdD HC.out HQ0.out (HK2.out.2.trans h1) (by rw [HK2.out.1]; omega)));rw [HK2.out.1] at HF;clear h1;go_enter Tryz.func114, Tryz.ntmps114
   go_wp2_with fail
   refine (HQ.out _ Jj).mono ?_;rintro e w1 ⟨rfl, hb1⟩;have HT1 := hid ((hb1.block w.heap.size (by simp)).trans (Je (w := w) (o := .cells #[.int .i64 0, .bool false, .int .i64 0, .string ⟨#[]⟩, .slice none 0 0, .slice none 0 0] 34) rfl));have HB1 := hid (Jj : Below w.heap.size w w1);obtain ⟨x0, x1, x2, x3, x4, x5, xf⟩ := Jf HT1.out;have l1 := Ja HT1.out;clear hb1;go_wp2_with fail
   refine (Vf _ _).mono ?_;rintro e w2 ⟨rfl, hb2⟩;have HT2 := hid ((hb2.block _ l1).trans HT1.out);have HB2 := hid (HB1.out.trans (hb2.mono HB1.out.size));clear x0 x1 x2 x3 x4 x5 xf hb2;obtain ⟨x0, x1, x2, x3, x4, x5, xf⟩ := Jf HT2.out;have l2 := Ja HT2.out;go_wp2_with fail
   exact bodyPost_ret (v := .tuple #[.agg #[.int .i64 4, .bool false, .int .i64 0, .string k, .slice none 0 0, .slice none 0 0], .bool true]) (by simp only [results, Tryz.results114]; go_simp) rfl ⟨by rw [HF.out]; rfl, HB2.out.trans (Aside.below (S := fun q => q = w.heap.size) QC HB2.out.size (fun i hi => by omega))⟩
 ·have HQ0 := hid hq
  have hq2 : (decide ((0 : Int) < s.size) = false /\ decide (0 < s.size) = false) ∨ ∃ (b : Nat) (h0 : 0 < s.size), decide ((0 : Int) < s.size) = true /\ (s[0]'h0).toNat = b /\ ((b : Int) == 34) = false := by
   by_cases h0 : 0 < s.size
   ·refine .inr ⟨(s.get! 0).toNat, h0, JmG (by omega), JA s 0 h0, JmH (fun h => hq ⟨h0, ?_⟩)⟩
    unfold Jb;have e : (34 : UInt8).toNat = 34 := rfl;omega
   exact .inl ⟨JmF (by omega), JmF h0⟩
  clear hq;have HQ := hid (fun (W : World) (hb : Below w.heap.size w W) => X4 s 0 W hs (by omega));have HP := hid (fun (W : World) (hb : Below w.heap.size w W) => Y2 s W hs);obtain ⟨z, a, hka⟩ : ∃ k a, JF s 0 = (k, a) := ⟨_, _, rfl⟩
  rw [hka] at HQ;have hk1 : (JF s 0).1 = z := by rw [hka]
  have hk2 : (JF s 0).2 = a := by rw [hka]
  have HK2 := hid (And.intro hk1 hk2);clear hka hk1 hk2;by_cases hw : a = (s.size : Int) /\ 0 < a
  ·have d2 : (a == (s.size : Int)) = true := beq_iff_eq.2 hw.1
   have d3 : decide ((0 : Int) < a) = true := JmG hw.2;have HF := hid (HR.out.trans (JfW HC.out HQ0.out (HK2.out.2.trans hw.1) (by rw [HK2.out.2]; exact hw.2)));rw [HK2.out.1] at HF;clear hw;rcases hq2 with ⟨h0I, h0N⟩ | ⟨b, h0, h0I, hx, hb⟩
   all_goals
    go_enter Tryz.func114, Tryz.ntmps114
    go_wp2_with fail
    refine (HQ.out _ Jj).mono ?_;rintro e w1 ⟨rfl, hb1⟩;have HT1 := hid ((hb1.block w.heap.size (by simp)).trans (Je (w := w) (o := .cells #[.int .i64 0, .bool false, .int .i64 0, .string ⟨#[]⟩, .slice none 0 0, .slice none 0 0] 34) rfl));have HB1 := hid (Jj : Below w.heap.size w w1);obtain ⟨x0, x1, x2, x3, x4, x5, xf⟩ := Jf HT1.out;have l1 := Ja HT1.out;clear hb1;go_wp2_with fail
    refine (Ui _ _).mono ?_;rintro e w2 ⟨rfl, hb2⟩;have HT2 := hid ((hb2.block _ l1).trans HT1.out);have HB2 := hid (HB1.out.trans (hb2.mono HB1.out.size));clear x0 x1 x2 x3 x4 x5 xf hb2;obtain ⟨x0, x1, x2, x3, x4, x5, xf⟩ := Jf HT2.out;have l2 := Ja HT2.out;go_wp2_with fail
    exact bodyPost_ret (v := .tuple #[.agg #[.int .i64 3, .bool false, .int .i64 z, .string ⟨#[]⟩, .slice none 0 0, .slice none 0 0], .bool true]) (by simp only [results, Tryz.results114]; go_simp) rfl ⟨by rw [HF.out]; rfl, HB2.out.trans (Aside.below (S := fun q => q = w.heap.size) QC HB2.out.size (fun i hi => by omega))⟩
  have hw2 : (a == (s.size : Int)) = false ∨ ((a == (s.size : Int)) = true /\ decide ((0 : Int) < a) = false) := by
   by_cases e : a = (s.size : Int)
   ·exact .inr ⟨beq_iff_eq.2 e, JmF (fun h => hw ⟨e, h⟩)⟩
   exact .inl (JmH e)
  have HW := hid (fun h => hw (by rw [<- HK2.out.2]; exact h));clear hw;rcases hpl : Qa s with _ | _
  ·rw [hpl] at HP
   have HF := hid (HR.out.trans (JcT HC.out HQ0.out HW.out hpl));clear hpl;rcases hw2 with d2 | ⟨d2, d3⟩ <;> rcases hq2 with ⟨h0I, h0N⟩ | ⟨b, h0, h0I, hx, hb⟩
   all_goals
    go_enter Tryz.func114, Tryz.ntmps114
    go_wp2_with fail
    refine (HQ.out _ Jj).mono ?_;rintro e w1 ⟨rfl, hb1⟩;have HT1 := hid ((hb1.block w.heap.size (by simp)).trans (Je (w := w) (o := .cells #[.int .i64 0, .bool false, .int .i64 0, .string ⟨#[]⟩, .slice none 0 0, .slice none 0 0] 34) rfl));have HB1 := hid (Jj : Below w.heap.size w w1);obtain ⟨x0, x1, x2, x3, x4, x5, xf⟩ := Jf HT1.out;have l1 := Ja HT1.out;clear hb1;go_wp2_with fail
    refine (HP.out _ HB1.out).mono ?_;rintro e w2 ⟨rfl, hb2⟩;have HT2 := hid ((hb2.block _ l1).trans HT1.out);have HB2 := hid (HB1.out.trans (hb2.mono HB1.out.size));clear x0 x1 x2 x3 x4 x5 xf hb2;obtain ⟨x0, x1, x2, x3, x4, x5, xf⟩ := Jf HT2.out;have l2 := Ja HT2.out;go_wp2_with fail
    exact bodyPost_ret (v := .tuple #[.agg #[.int .i64 0, .bool false, .int .i64 0, .string ⟨#[]⟩, .slice none 0 0, .slice none 0 0], .bool false]) (by simp only [results, Tryz.results114]; go_simp) rfl ⟨by rw [HF.out]; rfl, HB2.out.trans (Aside.below (S := fun q => q = w.heap.size) QC HB2.out.size (fun i hi => by omega))⟩
  rw [hpl] at HP;have HF := hid (HR.out.trans (JfP HC.out HQ0.out HW.out hpl));clear hpl;rcases hw2 with d2 | ⟨d2, d3⟩ <;> rcases hq2 with ⟨h0I, h0N⟩ | ⟨b, h0, h0I, hx, hb⟩
  all_goals
   go_enter Tryz.func114, Tryz.ntmps114
   go_wp2_with fail
   refine (HQ.out _ Jj).mono ?_;rintro e w1 ⟨rfl, hb1⟩;have HT1 := hid ((hb1.block w.heap.size (by simp)).trans (Je (w := w) (o := .cells #[.int .i64 0, .bool false, .int .i64 0, .string ⟨#[]⟩, .slice none 0 0, .slice none 0 0] 34) rfl));have HB1 := hid (Jj : Below w.heap.size w w1);obtain ⟨x0, x1, x2, x3, x4, x5, xf⟩ := Jf HT1.out;have l1 := Ja HT1.out;clear hb1;go_wp2_with fail
   refine (HP.out _ HB1.out).mono ?_;rintro e w2 ⟨rfl, hb2⟩;have HT2 := hid ((hb2.block _ l1).trans HT1.out);have HB2 := hid (HB1.out.trans (hb2.mono HB1.out.size));clear x0 x1 x2 x3 x4 x5 xf hb2;obtain ⟨x0, x1, x2, x3, x4, x5, xf⟩ := Jf HT2.out;have l2 := Ja HT2.out;go_wp2_with fail
   refine (Vf _ _).mono ?_;rintro e w3 ⟨rfl, hb3⟩;have HT3 := hid ((hb3.block _ l2).trans HT2.out);have HB3 := hid (HB2.out.trans (hb3.mono HB2.out.size));clear x0 x1 x2 x3 x4 x5 xf hb3;obtain ⟨x0, x1, x2, x3, x4, x5, xf⟩ := Jf HT3.out;have l3 := Ja HT3.out;go_wp2_with fail
   exact bodyPost_ret (v := .tuple #[.agg #[.int .i64 4, .bool false, .int .i64 0, .string s, .slice none 0 0, .slice none 0 0], .bool true]) (by simp only [results, Tryz.results114]; go_simp) rfl ⟨by rw [HF.out]; rfl, HB3.out.trans (Aside.below (S := fun q => q = w.heap.size) QC HB3.out.size (fun i hi => by omega))⟩
end Go.Proofs.YtohcpifekcehjaaGreatDoor
