/- Steps to FnIndentedNormal. No conditions. -/
import Derived.Test.YtohcpifekcehjaaGreatDoorKfni12
import Derived.Test.YtohcpifekcehjaaGreatDoorKfni11
import Derived.Test.YtohcpifekcehjaaGreatDoorKfni7
import Derived.Deep.CutBlock
import Derived.Deep.CutRange
set_option maxHeartbeats 16000000
set_option maxRecDepth 20000
namespace Go.Proofs.YtohcpifekcehjaaGreatDoor
open Go.RowKit Go.Lib
theorem JhB {S : Nat -> Prop} {wr W9 w9 : World} {o : Obj} {base n m size : Nat} {e : TypeId} {v : Value} {xs : List Value} (h : wr.ownsRow base e size v n xs) (hb : Aside S W9 w9) (he : W9.heap = wr.heap) (hS : ∀ q, S q -> q < base) (hn : n = m) : (w9.alloc o).ownsRow base e size v m xs := by
 subst hn;refine World.ownsRow.alloc (Jh h (fun q hq => ?_)) o;have h1 := (h.lt q hq).1;have h2 := (h.lt q hq).2;rw [<- he] at h2;rw [hb.block q h2 (fun g => by have := hS q g; omega), he]
theorem Yx {S : Nat -> Prop} {wr W9 w9 w2 : World} {o : Obj} {r q : Option Nat} {k : Nat} (hrow : k < wr.heap.size) (hb : Aside S W9 w9) (he : W9.heap = wr.heap) (hg : (w9.alloc o).grownBy w2 q) (hr : r = q) (hn : r ≠ some k) (hk : ¬ S k) : w2.heap[k]? = wr.heap[k]? := by
 subst hr;have h1 : k < W9.heap.size := by rw [he]; exact hrow
 have h2 := hb.size;rw [hg.block k (by simp; omega) (fun e => hn e.symm), Below.heap_alloc w9 o k (by omega), hb.block k h1 hk, he]
structure In0 (w0 : World) (b g : Nat) : Prop where
 cas : CTab w0
 tab : Tabs w0
 err : ErrR w0
 hb : w0.heap.size <= b
 hg : w0.heap.size <= g
theorem In0.keep {w0 w w' : World} {b g : Nat} (h : In0 w0 b g) (hw : Below w0.heap.size w0 w) (hF : Aside (fun q => q = b ∨ q = g) w w') : Below w0.heap.size w0 w' :=
 hw.trans (hF.below hw.size (fun i hi => by have := h.hb; have := h.hg; omega))
theorem In0.keepW {w0 w wx : World} {b g : Nat} (h : In0 w0 b g) (hw : Below w0.heap.size w0 w) (hF : Aside (fun q => q = b ∨ q = g ∨ w.heap.size <= q) w wx) : Below w0.heap.size w0 wx :=
 hw.trans (hF.below hw.size (fun i hi => by have := h.hb; have := h.hg; have := hw.size; omega))
def Jjg (w0 : World) (b g N cap n : Nat) : Prop := ∀ (d : Nat) (x : LineD) (r : List LineD) (m : Nat) (w : World), 1 <= d -> d <= 9 -> m <= 300 -> InOk (x :: r) -> JG (.value d) (x :: r) <= n -> Below w0.heap.size w0 w -> InAt 61 b g N cap (x :: r) m Jv w ->
 Calls Tryz.prog 51 #[.pointer (some ⟨b, 0, none⟩), .int .i64 d] w (OutI 61 b g N cap (10 - d) (Jn n (.value d) (x :: r) m) w)
def Jjw (w0 : World) (b g N cap n : Nat) : Prop := ∀ (i d : Nat) (x : LineD) (r : List LineD) (m : Nat) (w : World), 1 <= d -> d <= 9 -> m <= 300 -> InOk (x :: r) -> JG (.below i d x.at') r <= n -> Below w0.heap.size w0 w -> InAt 61 b g N cap (x :: r) m Jv w ->
 Calls Tryz.prog 179 #[.pointer (some ⟨b, 0, none⟩), .int .i64 i, .int .i64 d] w (OutI 61 b g N cap (10 - d) (Jn n (.below i d x.at') r m) w)
def JlT (w0 : World) (b g N cap n : Nat) : Prop := ∀ (i d : Nat) (L : List LineD) (m : Nat) (w : World), 1 <= d -> d <= 8 -> m <= 300 -> InOk L -> JG (.list i d []) L <= n -> Below w0.heap.size w0 w -> InAt 61 b g N cap L m Jv w ->
 Calls Tryz.prog 102 #[.pointer (some ⟨b, 0, none⟩), .int .i64 i, .int .i64 d] w (OutI 61 b g N cap (10 - d) (Jn n (.list i d []) L m) w)
def JlX (w0 : World) (b g N cap n : Nat) : Prop := ∀ (i d : Nat) (L : List LineD) (m : Nat) (w : World), 1 <= d -> d <= 8 -> m <= 300 -> InOk L -> JG (.pairs i d [] []) L <= n -> Below w0.heap.size w0 w -> InAt 61 b g N cap L m Jv w ->
 Calls Tryz.prog 104 #[.pointer (some ⟨b, 0, none⟩), .int .i64 i, .int .i64 d] w (OutI 61 b g N cap (10 - d) (Jn n (.pairs i d [] []) L m) w)
theorem U0 {ty : TypeId} {b g N cap nT : Nat} {w wx wF : World} {r : ResI} {c : Option (List TreeD)} {v : Value} {ess : List (List Value)} {L : List LineD} {m : Nat} {f : Flt} {A : Option Addr} {cp : Nat} (hv : v = .slice A ess.length cp)
  (hb : b < w.heap.size) (hg : g < w.heap.size) (hL : LBoxI b g 5 w wx (.slice none 0 0) v) (hK : KidsE nT (w.heap.size + 2) wx c v ess) (hR : InAt ty b g N cap L m f wx) (hok : InOk L)
  (hst : match c with | some acc => f = Jv /\ r = .good (JY acc) L m | none => f.code ≠ 0 /\ r = .bad f) (hF : Aside (fun q => q = w.heap.size) wx wF) :
  OutI ty b g N cap (nT + 1) r w (.returned (.agg #[.int .i64 5, .bool false, .int .i64 0, .string ⟨#[]⟩, .slice none 0 0, .slice A ess.length cp])) wF := by
 subst hv;refine ⟨[.int .i64 5, .bool false, .int .i64 0, .string ⟨#[]⟩, .slice none 0 0, .slice A ess.length cp], L, m, f, rfl, ⟨_, _, _, _, _, _, _, _, _, _, rfl⟩, hR.past hF (fun q => by omega) (fun q => by omega), hok, Aside.low2 (hL.aside.join hF (fun q hq _ => .inr (.inr (by omega)))), ?_⟩;rcases c with _ | acc
 ·obtain ⟨h1, rfl⟩ := hst
  exact ⟨rfl, h1⟩
 obtain ⟨h1, rfl⟩ := hst;refine ⟨h1, rfl, rfl, ?_⟩;have hl := (hK.good acc rfl).1;have := JiJ hK.grow (wF := wF) (S := fun x => w.heap.size <= x /\ x < wF.heap.size) (fun q h1 h2 => hF.block q h2 (by omega)) (fun q h1 h2 => ⟨by omega, Nat.lt_of_lt_of_le h2 hF.size⟩);exact this
theorem Jie (w0 : World) (b g N cap n : Nat) (h0 : In0 w0 b g) (hbl : ∀ k, k < n -> Jjw w0 b g N cap k) (hv : ∀ k, k < n -> Jjg w0 b g N cap k) : JlT w0 b g N cap n := by
 intro i d L0 m0 w hd1 hd8 hm0 hok0 hn hw h;obtain ⟨i0, hi, hz0, hz1, hz2⟩ := info_parts (show (Tryz.prog.info? 34).map (fun i => (i.zero, i.size, i.bytes)) = some (some (.agg #[.int .i64 0, .bool false, .int .i64 0, .string ⟨#[]⟩, .slice none 0 0, .slice none 0 0]), 6, 88) from by kernel_rfl);have HRd := hid h;have Hv := hid hv;have Hbl := hid hbl;have HW := hid hw;have H0 := hid h0
 have HI0 := hid hi;have hlb := h.lt.1;have hlg := h.lt.2;obtain ⟨nT, hnT⟩ : ∃ k, 10 - d = k + 1 := ⟨9 - d, by omega⟩
 have HNT := hid (show 10 - (d + 1) = nT by omega);obtain ⟨r, hr⟩ : ∃ r, r = Jn n (.list i d []) L0 m0 := ⟨_, rfl⟩
 rw [<- hr, hnT];have HR := hid hr;have HOk0 := hid hok0;have HN := hid hn;clear hr h hv hbl hw h0 hi hnT hok0 hn;go_enter Tryz.func102, Tryz.ntmps102
 go_wp2_with fail
 go_loopw [] (fun wr => Jkh 61 b g N cap i n d nT r w wr) (fun wr => inM N b wr)
 case atStart =>
  refine ⟨some [], .slice none 0 0, [], L0, m0, Jv, ⟨?_, ?_, Aside.of_below Jj⟩, KidsE.nil _ _ _, HRd.out.below Jj, HOk0.out, Nat.zero_le _, rfl, hm0, Nat.zero_le _, n, HN.out, Nat.le_refl _, HR.out⟩
  ·exact (Below.heap_alloc _ _ _ (by simp)).trans (Je (by simp))
  exact Je (by simp)
 case round =>
  obtain ⟨c, v, ess, L, m, f, hLb, hK, hRr, hok, hlen, hst⟩ := hrel;obtain ⟨VA, vc, rfl⟩ := hK.form;have HLb := hid hLb;have HK := hid hK;have HRr := hid hRr;have HOk := hid hok;have HWr := hid (H0.out.keepW HW.out hLb.aside);have HSt := hid hst;clear hst hok;rcases c with _ | acc
  ·obtain ⟨hf, hrr⟩ := HSt.out
   have HQ : Hid (QU f L i = false) := hid (by unfold QU; rw [JmF hf]; rfl);have HF := hid (And.intro hf hrr);clear HSt hLb hK hRr hf hrr;go_wp2_with fail
   refine (VJ b g N cap L m i f wr HRr.out).mono ?_;rintro e w1 ⟨rfl, hb1⟩;rw [HQ.out];have HLb1 := hid (HLb.out.same (Aside.of_below (S := fun q => q = b) hb1) (fun q hq => .inl hq) hlb hlg);have HK1 := hid (HK.out.carry hb1.size (fun q _ h2 => hb1.block q h2));have HR1 := hid (HRr.out.below hb1);have HB1 := hid hb1;clear hb1;obtain ⟨x0, x1, x2, x3, x4, x5, xf⟩ := Jf HLb1.out.zero
   obtain ⟨y0, y1, y2, y3, y4, y5, yf⟩ := Jf HLb1.out.list;have l0 := Ja HLb1.out.zero;have l1 := Ja HLb1.out.list;go_wp2_with fail
   exact bodyPost_ret (v := .agg #[.int .i64 5, .bool false, .int .i64 0, .string ⟨#[]⟩, .slice none 0 0, .slice VA ess.length vc]) (by simp only [results, Tryz.results102]; go_simp) rfl (U0 rfl hlb hlg HLb1.out HK1.out HR1.out HOk.out HF.out QC)
  obtain ⟨rfl, hm, hac, k, hk1, hkn, hrr⟩ := HSt.out;have HJ := hid hrr;have HNk := hid hk1;have hel := (HK.out.good acc rfl).1;clear HSt hLb hK hRr hrr hk1;rcases L with _ | ⟨x, t⟩
  ·have HQ : Hid (QU Jv [] i = false) := hid rfl
   have HF : Hid (r = .good (JY acc) [] m) := hid (by
    have h1 := HNk.out;obtain ⟨k1, rfl⟩ : ∃ k1, k = k1 + 1 := ⟨k - 1, by unfold JG at h1; simp only at h1; omega⟩
    rw [HJ.out, UM])
   go_wp2_with fail
   refine (VJ b g N cap [] m i Jv wr HRr.out).mono ?_;rintro e w1 ⟨rfl, hb1⟩;rw [HQ.out];have HLb1 := hid (HLb.out.same (Aside.of_below (S := fun q => q = b) hb1) (fun q hq => .inl hq) hlb hlg);have HK1 := hid (HK.out.carry hb1.size (fun q _ h2 => hb1.block q h2));have HR1 := hid (HRr.out.below hb1);have HB1 := hid hb1;clear hb1;obtain ⟨x0, x1, x2, x3, x4, x5, xf⟩ := Jf HLb1.out.zero
   obtain ⟨y0, y1, y2, y3, y4, y5, yf⟩ := Jf HLb1.out.list;have l0 := Ja HLb1.out.zero;have l1 := Ja HLb1.out.list;go_wp2_with fail
   exact bodyPost_ret (v := .agg #[.int .i64 5, .bool false, .int .i64 0, .string ⟨#[]⟩, .slice none 0 0, .slice VA ess.length vc]) (by simp only [results, Tryz.results102]; go_simp) rfl (U0 rfl hlb hlg HLb1.out HK1.out HR1.out HOk.out ⟨rfl, HF.out⟩ QC)
  obtain ⟨k1, hk1⟩ : ∃ k1, k = k1 + 1 := ⟨k - 1, by have h1 := HNk.out; unfold JG at h1; simp only at h1; omega⟩
  by_cases hxi : x.ind = i
  rotate_left
  ·have HQ : Hid (QU Jv (x :: t) i = false) := hid (by show (decide (Jv.code = 0) && decide (x.ind = i)) = false; rw [JmF hxi]; rfl)
   have HF : Hid (r = .good (JY acc) (x :: t) m) := hid (by rw [HJ.out, hk1, Vb, if_pos hxi]);clear hk1 hxi;go_wp2_with fail
   refine (VJ b g N cap (x :: t) m i Jv wr HRr.out).mono ?_;rintro e w1 ⟨rfl, hb1⟩;rw [HQ.out];have HLb1 := hid (HLb.out.same (Aside.of_below (S := fun q => q = b) hb1) (fun q hq => .inl hq) hlb hlg);have HK1 := hid (HK.out.carry hb1.size (fun q _ h2 => hb1.block q h2));have HR1 := hid (HRr.out.below hb1);have HB1 := hid hb1;clear hb1;obtain ⟨x0, x1, x2, x3, x4, x5, xf⟩ := Jf HLb1.out.zero
   obtain ⟨y0, y1, y2, y3, y4, y5, yf⟩ := Jf HLb1.out.list;have l0 := Ja HLb1.out.zero;have l1 := Ja HLb1.out.list;go_wp2_with fail
   exact bodyPost_ret (v := .agg #[.int .i64 5, .bool false, .int .i64 0, .string ⟨#[]⟩, .slice none 0 0, .slice VA ess.length vc]) (by simp only [results, Tryz.results102]; go_simp) rfl (U0 rfl hlb hlg HLb1.out HK1.out HR1.out HOk.out ⟨rfl, HF.out⟩ QC)
  have HQ : Hid (QU Jv (x :: t) i = true) := hid (by show (decide (Jv.code = 0) && decide (x.ind = i)) = true; rw [JmG hxi]; rfl)
  have hj2 : r = (match Jy x.text with
   | none => .good (JY acc) (x :: t) m
   | some (rest, kk) => match Yz k1 i d x t rest kk m with
    | .bad f => .bad f
    | .good u L' m' => Jn k1 (.list i d (acc ++ [u])) L' m') := by rw [HJ.out, hk1, Vb, if_neg (fun e => e hxi)]; rfl
  have hxo := HOk.out.head;have hxz : x.text.size <= 20000 := by have := hxo.1; omega
  have hkk1 : k1 < n := by omega
  have HI := hid (fun W => Ye x.text W (by omega));have HXI := hid hxi;have HXO := hid hxo;have hne := HNk.out;rw [hk1] at hne;have HNe := hid hne;have HX := hid hj2;clear hj2 hk1 hxi hxo HJ HNk hne;go_wp2_with fail
  refine (VJ b g N cap (x :: t) m i Jv wr HRr.out).mono ?_;rintro e w1 ⟨rfl, hb1⟩;rw [HQ.out];have HLb1 := hid (HLb.out.same (Aside.of_below (S := fun q => q = b) hb1) (fun q hq => .inl hq) hlb hlg);have HK1 := hid (HK.out.carry hb1.size (fun q _ h2 => hb1.block q h2));have HR1 := hid (HRr.out.below hb1);have HB1 := hid hb1;clear hb1;obtain ⟨p, hbx⟩ := HR1.out.open;obtain ⟨a0, a1, a2, a3, a4, a5, af⟩ := Jf hbx.row
  have lb := Ja hbx.row;obtain ⟨c0, c1, c2, cf⟩ := hbx.line x t rfl;have lg := hbx.lines;have hpN : (p : Int) < N := by have := hbx.pos; rw [List.length_cons] at this; omega
  have hp0 : (0 : Int) <= p := by omega
  have hcap := hbx.cap';have hpos := hbx.pos;have hgb := hbx.ne;have hN2 := hbx.small;clear hbx;rcases hit : Jy x.text with _ | ⟨rest, kk⟩
  ·rw [hit] at HX
   have hi1 : ∀ W, Calls Tryz.prog 101 #[.string x.text] W fun e w' => e = .returned (.tuple #[.string ⟨#[]⟩, .int .i64 0, .bool false]) /\ W = w' := fun W => by
    have h := HI.out W;rw [hit] at h;exact h
   have HI1 := hid hi1;have HF := hid (show r = .good (JY acc) (x :: t) m from HX.out);clear hit hi1;go_wp2_with fail
   refine Jm 19 (by kernel_rfl) (by kernel_rfl) (by decide) ?_
   iterate 19 (apply Exists.intro; refine And.intro ?_ ?_; (focus (intro W hW; (try simp only [Act.put, List.setIfInBounds_toArray, List.set_cons_zero, List.set_cons_succ]); first | (exact wpList_skip rfl ⟨rfl, rfl, Below.refl _ _⟩) | (obtain ⟨hcW, hfW⟩ := JE hW; have hsW := hW.size; (try simp at hsW); (try have hsW0 := Jd hsW); (try (have hsW1 := Jc hsW; (try (have hsW2 := Jc hsW1)))); go_wp2_with (first | (go_at_call 101; refine (HI1.out _).mono ?_; rintro e w9 ⟨rfl, rfl⟩)); exact ⟨rfl, rfl, Jj⟩))))
   intro wd hbwd
   (try simp only [Act.put, List.setIfInBounds_toArray, List.set_cons_zero, List.set_cons_succ])
   (try simp only [List.drop_succ_cons, List.drop_nil])
   have HB2 := hid hbwd;have HLb1 := hid (HLb1.out.same (Aside.of_below (S := fun q => q = b) HB2.out) (fun q hq => .inl hq) hlb hlg);have HK1 := hid (HK1.out.carry HB2.out.size (fun q _ h2 => HB2.out.block q h2));have HR1 := hid (HR1.out.below HB2.out);clear hbwd a0 a1 a2 a3 a4 a5 af c0 c1 c2 cf lb lg;obtain ⟨x0, x1, x2, x3, x4, x5, xf⟩ := Jf HLb1.out.zero;obtain ⟨y0, y1, y2, y3, y4, y5, yf⟩ := Jf HLb1.out.list
   have l0 := Ja HLb1.out.zero;have l1 := Ja HLb1.out.list;go_wp2_with fail
   exact bodyPost_ret (v := .agg #[.int .i64 5, .bool false, .int .i64 0, .string ⟨#[]⟩, .slice none 0 0, .slice VA ess.length vc]) (by simp only [results, Tryz.results102]; go_simp) rfl (U0 rfl hlb hlg HLb1.out HK1.out HR1.out HOk.out ⟨rfl, HF.out⟩ QC)
  rw [hit] at HX;simp only at HX;have hrest := Jdo hit HXO.out.2.2
  have hi1 : ∀ W, Calls Tryz.prog 101 #[.string x.text] W fun e w' => e = .returned (.tuple #[.string rest, .int .i64 kk, .bool true]) /\ W = w' := fun W => by
   have h := HI.out W;rw [hit] at h;exact h
  have HI1 := hid hi1;have HRe := hid hrest;clear hit hi1 hrest;go_wp2_with fail
  refine Jm 19 (by kernel_rfl) (by kernel_rfl) (by decide) ?_
  iterate 19 (apply Exists.intro; refine And.intro ?_ ?_; (focus (intro W hW; (try simp only [Act.put, List.setIfInBounds_toArray, List.set_cons_zero, List.set_cons_succ]); first | (exact wpList_skip rfl ⟨rfl, rfl, Below.refl _ _⟩) | (obtain ⟨hcW, hfW⟩ := JE hW; have hsW := hW.size; (try simp at hsW); (try have hsW0 := Jd hsW); (try (have hsW1 := Jc hsW; (try (have hsW2 := Jc hsW1)))); go_wp2_with (first | (go_at_call 101; refine (HI1.out _).mono ?_; rintro e w9 ⟨rfl, rfl⟩)); exact ⟨rfl, rfl, Jj⟩))))
  intro wd hbwd
  (try simp only [Act.put, List.setIfInBounds_toArray, List.set_cons_zero, List.set_cons_succ])
  (try simp only [List.drop_succ_cons, List.drop_nil])
  have HB2 := hid hbwd;have HLb1 := hid (HLb1.out.same (Aside.of_below (S := fun q => q = b) HB2.out) (fun q hq => .inl hq) hlb hlg);have HK1 := hid (HK1.out.carry HB2.out.size (fun q _ h2 => HB2.out.block q h2));have HR1 := hid (HR1.out.below HB2.out);have HW1 := hid (HWr.out.trans ((HB1.out.trans (HB2.out.mono HB1.out.size)).mono HWr.out.size));clear hbwd a0 a1 a2 a3 a4 a5 af c0 c1 c2 cf lb lg
  rcases HRe.out with ⟨hk0, hre⟩ | ⟨hk2, hks, hend⟩
  ·obtain rfl := hk0
   obtain rfl := hre;have hdd : IntKind.i64.wrap ((d : Int) + 1) = ((d + 1 : Nat) : Int) := by rw [IntKind.wrap_i64] <;> omega
   have hx2 : r = (match Jn k1 (.below i (d + 1) x.at') t m with
    | .bad f => .bad f
    | .good u L' m' => Jn k1 (.list i d (acc ++ [u])) L' m') := by
    have h := HX.out;unfold Yz at h;rw [if_pos rfl] at h;exact h
   have HX2 := hid hx2
   have hC : ∀ (W : World), Below w0.heap.size w0 W -> InAt 61 b g N cap (x :: t) m Jv W -> Calls Tryz.prog 179 #[.pointer (some ⟨b, 0, none⟩), .int .i64 i, .int .i64 ((d + 1 : Nat) : Int)] W (OutI 61 b g N cap (10 - (d + 1)) (Jn k1 (.below i (d + 1) x.at') t m) W) := fun W h1 h2 =>
    Hbl.out k1 hkk1 i (d + 1) x t m W (by omega) (by omega) hm HOk.out (by have := HNe.out; unfold JG at this ⊢; simp only [J0] at this ⊢; omega) h1 h2
   have HC := hid hC;have hgrow : ∀ (t' : TreeD) (L' : List LineD) (m' : Nat), Jn k1 (.below i (d + 1) x.at') t m = .good t' L' m' -> m + 1 <= m' /\ m' <= 300 := fun _ _ _ h => U7 h hm (by omega)
   have hlen' : ∀ (t' : TreeD) (L' : List LineD) (m' : Nat), Jn k1 (.below i (d + 1) x.at') t m = .good t' L' m' -> L'.length <= t.length := fun _ _ _ h => Ub h
   have hneed : ∀ (t' : TreeD) (L' : List LineD) (m' : Nat), Jn k1 (.below i (d + 1) x.at') t m = .good t' L' m' -> JG (.list i d (acc ++ [t'])) L' <= k1 := fun _ _ _ h => by
    have h1 := (J9 _ _ _ _ _ _ _ h).1;have h2 := HNe.out;unfold JG at h2 ⊢;simp only [J0] at h2 ⊢;omega
   have HG := hid hgrow;have HLn := hid hlen';have HNd := hid hneed;clear hx2 hC hgrow hlen' hneed;obtain ⟨y0, y1, y2, y3, y4, y5, yf⟩ := Jf HLb1.out.list;have ly := Ja HLb1.out.list;have lz := Ja HLb1.out.zero;obtain ⟨rb, hrb⟩ : ∃ rb, rb = (Value.slice VA ess.length vc).ownBlock := ⟨_, rfl⟩
   have hrl : ∀ q, rb = some q -> w.heap.size + 2 <= q /\ q < wd.heap.size := fun q hq => ⟨(HK1.out.row.lt q (by rw [<- hrb]; exact hq)).1, HK1.out.hi q (by rw [<- hrb]; exact hq)⟩
   have hn0 : rb ≠ some w.heap.size := fun h => by have := (hrl _ h).1; omega
   have hn1 : rb ≠ some (w.heap.size + 1) := fun h => by have := (hrl _ h).1; omega
   have Hrl := hid hrl;have Hr := hid hrb;have hb0 : ¬ (w.heap.size = b ∨ w.heap.size = g) := by omega
   have hb1 : ¬ (w.heap.size + 1 = b ∨ w.heap.size + 1 = g) := by omega
   have hsb : ∀ q, (q = b ∨ q = g) -> q < w.heap.size + 2 := fun q hq => by omega
   obtain ⟨el, hel2⟩ : ∃ el, el = ess.length := ⟨_, rfl⟩
   have HEl := hid hel2;clear hrl hrb hel2;obtain ⟨dz, hdz⟩ : ∃ dz : Int, dz = ((d + 1 : Nat) : Int) := ⟨_, rfl⟩
   rw [<- hdz] at hdd HC;clear hdz;go_upto_region 6 with fail
   go_cut [] from 35 to 44 (fun wx => Jkh 61 b g N cap i n d nT r w wx /\ inM N b wx < inM N b wr)
   case first =>
    go_region_law (first | (go_simp; go_at_call 179; refine (HC.out _ (HW1.out.trans (Below.mono Jj HW1.out.size)) (HR1.out.below Jj)).mono ?_; intro e9 w9 hv9; obtain ⟨cs9, L9, m9, f9, rfl, ht9, hR9, hok9, hA9, hm9⟩ := hv9; obtain ⟨u0, u1, u2, u3, U4, u4, u44, U5, u5, u55, rfl⟩ := ht9; obtain ⟨-, -, -, -, -, p5, -⟩ := Jf ((hA9.block (w.heap.size + 1) ly hb1).trans HLb1.out.list); have l9 : w.heap.size + 1 < w9.heap.size := Nat.lt_of_lt_of_le ly hA9.size; have Hone := hid (TreeV.one ⟨u0, u1, u2, u3, U4, u4, u44, U5, u5, u55, rfl⟩)) | (refine step_append_lies _ rfl _ _ 32 rfl (w.heap.size + 2) 34 i0 (.agg #[.int .i64 0, .bool false, .int .i64 0, .string ⟨#[]⟩, .slice none 0 0, .slice none 0 0]) 6 88 Tryz.underlying32 HI0.out hz0 hz1 hz2 rfl (by decide) _ ess.length ess.flatten rfl (JhB HK1.out.row hA9 rfl hsb rfl) ⟨w9.heap.size, 0, none⟩ 1 1 [.int .i64 u0, .bool u1, .int .i64 u2, .string u3, .slice U4 u4 u44, .slice U5 u5 u55] rfl rfl (World.news_of_block (heap_alloc_new w9 _)) Hone.out (by decide) (by unfold maxLen; omega) (by omega) (by have := hA9.size; simp at this ⊢; omega) _ rfl ?_; intro g2 cap2 w2 hown2 hgrow2 hat2 hlt2; obtain ⟨-, -, -, -, -, q5, qf⟩ := Jf ((Yx ly hA9 rfl hgrow2 Hr.out hn1 hb1).trans HLb1.out.list)))
    all_goals
     have RT2 := (Yx ly hA9 rfl hgrow2 Hr.out hn1 hb1).trans HLb1.out.list;have RZ2 := (Yx lz hA9 rfl hgrow2 Hr.out hn0 hb0).trans HLb1.out.zero;have hgA : Aside (fun q => some q = rb) w9 w2 := Aside.trans (Vn (Aside.refl _ _)) ⟨hgrow2.os, hgrow2.tape, hgrow2.output, hgrow2.size, fun q h1 h2 => hgrow2.block q h1 (fun h => h2 (h.trans Hr.out.symm))⟩;have hF2 : Aside (fun q => q = b ∨ q = g ∨ w.heap.size <= q) w w2 := (HLb1.out.aside.join (Aside.trans (Aside.of_below (Jj : Below wd.heap.size wd _)) hA9) (fun q hq _ => by omega)).join hgA (fun q hq _ => .inr (.inr (by have := (Hrl.out q hq.symm).1; omega)))
     have hR2 := hR9.past hgA (fun hq => by have := (Hrl.out _ hq.symm).1; omega) (fun hq => by have := (Hrl.out _ hq.symm).1; omega);have hl2 := Ja RT2;have hs9 : wd.heap.size <= w9.heap.size := hA9.size;have hs2 : w9.heap.size + 1 <= w2.heap.size := by have := hgrow2.size; simp at this; omega
     have hkp : ∀ q, w.heap.size + 2 <= q -> q < wd.heap.size -> (Value.slice VA ess.length vc).ownBlock ≠ some q -> w2.heap[q]? = wd.heap[q]? := fun q h1 h2 h3 => Yx h2 hA9 rfl hgrow2 Hr.out (by rw [Hr.out]; exact h3) (by omega)
     have h29 : ∀ q, wd.heap.size <= q -> q < w9.heap.size -> w2.heap[q]? = w9.heap[q]? := fun q h1 h2 => (hgrow2.block q (by simp; omega) (fun e => by have := (Hrl.out q (by rw [Hr.out]; exact e.symm)).2; omega)).trans (Below.heap_alloc _ _ _ h2)
     have Hp := hid (KidsE.push (t := JeV (Jn k1 (.below i (d + 1) x.at') t m)) (s9 := w9.heap.size) HK1.out rfl hkp (by omega) hs9 (by omega) (fun u hu => by
       rcases hres : (Jn k1 (.below i (d + 1) x.at') t m) with f' | ⟨t', L', m'⟩
       ·rw [hres] at hu; cases hu
       rw [hres] at hu hm9;cases hu
       exact (hm9.2.2.2.up (show 10 - (d + 1) <= nT by rw [HNT.out]; exact Nat.le_refl _)).carry (fun q hq => h29 q hq.1 hq.2) (fun q hq => ⟨by have := hq.1; (try simp at this); omega, hq.2⟩)) hown2 (by rcases hat2 with h | h; exact .inl h; exact .inr (by simp at h ⊢; omega)) hlt2)
     have Hm9 := hid hm9;go_wp2_with fail
     go_meet
     refine ⟨⟨Jfg (some acc) (JeV (Jn k1 (.below i (d + 1) x.at') t m)), .slice (some ⟨g2, 0, none⟩) (ess.length + 1) cap2, ess ++ [[.int .i64 u0, .bool u1, .int .i64 u2, .string u3, .slice U4 u4 u44, .slice U5 u5 u55]], L9, m9, f9, ⟨(Below.heap_setCell _ _ _ _ (by simp)).trans RZ2, heap_setCell_same w2 (w.heap.size + 1) 5 _ _ _ RT2, Jk (.inr (.inr (by simp))) hF2⟩, Hp.out.carry (by simp) (fun x h1 _ => Below.heap_setCell _ _ _ _ (by simp; omega)), hR2.past (S := fun q => q = w.heap.size + 1) (Jk rfl (Aside.refl _ _)) (fun hq => by omega) (fun hq => by omega), hok9, by simp; omega, ?_⟩, ?_⟩
     ·have hx := HX2.out
      have hm := Hm9.out;rcases hres : (Jn k1 (.below i (d + 1) x.at') t m) with f' | ⟨t', L', m'⟩
      ·rw [hres] at hm hx
       exact ⟨by rw [hm.1]; exact hm.2, by rw [hm.1]; exact hx⟩
      rw [hres] at hm hx;obtain ⟨e1, e2, e3, -⟩ := hm;have hgw := HG.out _ _ _ hres;have hnl := HNd.out _ _ _ hres;rw [e2, e3];exact ⟨e1, hgw.2, by simp; omega, k1, hnl, by omega, hx⟩
     have hm := Hm9.out;have hme := (hR2.past (S := fun q => q = w.heap.size + 1) (Jk (u := .slice (some ⟨g2, 0, none⟩) (ess.length + 1) cap2) (p := ⟨w.heap.size + 1, 5, none⟩) rfl (Aside.refl _ w2)) (fun hq => by omega) (fun hq => by omega)).meas;rw [hme, HRr.out.meas, if_pos (show Jv.code = 0 from rfl)];rcases hres : (Jn k1 (.below i (d + 1) x.at') t m) with f' | ⟨t', L', m'⟩
     ·rw [hres] at hm
      rw [hm.1, if_neg hm.2];omega
     rw [hres] at hm;rw [hm.1, hm.2.1, if_pos (show Jv.code = 0 from rfl)];have := HLn.out _ _ _ hres;simp only [List.length_cons];omega
   case rest =>
    obtain ⟨hc1, hc2⟩ := hcut;have HC1 := hid hc1;have HC2 := hid hc2;clear hc1 hc2 y0 y1 y2 y3 y4 y5 yf;go_wp2_with fail
    go_roundw
    case rel => exact HC1.out
    case measure => exact HC2.out
  ·have hdd : IntKind.i64.wrap ((d : Int) + 1) = ((d + 1 : Nat) : Int) := by rw [IntKind.wrap_i64] <;> omega
   have hre : (rest.toList == []) = false := by
    have h1 := hend.1;rw [ByteArray.toList_eq];cases hl : rest.data.toList with
    | nil => rw [<- Jp, hl] at h1; exact absurd h1 (by simp)
    | cons _ _ => rfl
   have hre2 : rest.toList.isEmpty = false := by
    have h1 := hend.1;rw [ByteArray.toList_eq];cases hl : rest.data.toList with
    | nil => rw [<- Jp, hl] at h1; exact absurd h1 (by simp)
    | cons _ _ => rfl
   have hx2 : r = (match Jn k1 (.value (d + 1)) (⟨i + kk, rest, x.at'⟩ :: t) m with
    | .bad f => .bad f
    | .good u L' m' => Jn k1 (.list i d (acc ++ [u])) L' m') := by
    have h := HX.out;unfold Yz at h;rw [if_neg (by omega)] at h;exact h
   have hxo := HXO.out;have hok2 : InOk (⟨i + kk, rest, x.at'⟩ :: t) := InOk.cons HOk.out.tail ⟨by have := hxo.1; have := HXI.out; show i + kk + rest.size <= 20000; omega, hxo.2.1, hend⟩
   have hnv : JG (.value (d + 1)) (⟨i + kk, rest, x.at'⟩ :: t) <= k1 := by
    have := HNe.out;unfold JG at this ⊢;simp only [J0] at this ⊢;omega
   have HX2 := hid hx2;have HOk2 := hid hok2;have hikz : ((i + kk : Nat) : Int) = (i : Int) + kk := by omega
   have hik : (i : Int) + kk <= 20000 := by have := hxo.1; have := HXI.out; omega
   have HIK := hid hikz
   have hC : ∀ (W : World), Below w0.heap.size w0 W -> InAt 61 b g N cap (⟨i + kk, rest, x.at'⟩ :: t) m Jv W -> Calls Tryz.prog 51 #[.pointer (some ⟨b, 0, none⟩), .int .i64 ((d + 1 : Nat) : Int)] W (OutI 61 b g N cap (10 - (d + 1)) (Jn k1 (.value (d + 1)) (⟨i + kk, rest, x.at'⟩ :: t) m) W) := fun W h1 h2 =>
    Hv.out k1 hkk1 (d + 1) _ t m W (by omega) (by omega) hm HOk2.out hnv h1 h2
   have HC := hid hC;have hgrow : ∀ (t' : TreeD) (L' : List LineD) (m' : Nat), Jn k1 (.value (d + 1)) (⟨i + kk, rest, x.at'⟩ :: t) m = .good t' L' m' -> m + 1 <= m' /\ m' <= 300 := fun _ _ _ h => JbU h hm (by omega)
   have hlen' : ∀ (t' : TreeD) (L' : List LineD) (m' : Nat), Jn k1 (.value (d + 1)) (⟨i + kk, rest, x.at'⟩ :: t) m = .good t' L' m' -> L'.length <= t.length := fun _ _ _ h => by have := Uo h; simp at this; omega
   have hneed : ∀ (t' : TreeD) (L' : List LineD) (m' : Nat), Jn k1 (.value (d + 1)) (⟨i + kk, rest, x.at'⟩ :: t) m = .good t' L' m' -> JG (.list i d (acc ++ [t'])) L' <= k1 := fun _ _ _ h => by
    have h1 := (J9 _ _ _ _ _ _ _ h).1;unfold JG at hnv ⊢;simp only [J0] at h1 hnv ⊢;omega
   have HG := hid hgrow;have HLn := hid hlen';have HNd := hid hneed;have hxi := HXI.out;clear hx2 hC hgrow hlen' hneed hok2 hxo hikz hnv;obtain ⟨p, hbx⟩ := HR1.out.open;have HPos := hid hbx.pos;obtain ⟨a0, a1, a2, a3, a4, a5, af⟩ := Jf hbx.row;have lb := Ja hbx.row;obtain ⟨c0, c1, c2, cf⟩ := hbx.line x t rfl;rw [hxi] at c0;have lg := hbx.lines;have hpN : (p : Int) < N := by have := hbx.pos; rw [List.length_cons] at this; omega
   have hp0 : (0 : Int) <= p := by omega
   have hcap := hbx.cap';have hgb := hbx.ne;have hN2 := hbx.small;clear hbx;have hwik : IntKind.i64.wrap ((i : Int) + (kk : Int)) = ((i + kk : Nat) : Int) := by rw [IntKind.wrap_i64] <;> omega
   have HWik := hid hwik;clear hwik;go_upto_region 7 with fail
   go_cut [] from 45 to 59 (fun wx => InAt 61 b g N cap (⟨i + kk, x.text, x.at'⟩ :: t) m Jv wx /\ Aside (fun q => q = g) wd wx)
   case first =>
    go_region_law (fail)
    all_goals
     (try go_wp2_with fail)
     go_meet
     exact ⟨(InAt.tellI HR1.out HPos.out HWik.out).below Jj, (Jk (S := fun q => q = g) rfl (Aside.refl _ _)).trans (Aside.of_below Jj)⟩
   case rest =>
    obtain ⟨hR7, hA7⟩ := hcut;have HR7 := hid hR7;have HA7 := hid hA7;clear hR7 hA7 a0 a1 a2 a3 a4 a5 af c0 c1 c2 cf lb lg;obtain ⟨p7, hbx⟩ := HR7.out.open;obtain rfl : p7 = p := by have := HPos.out; have := hbx.pos; simp only [List.length_cons] at *; omega
    obtain ⟨a0, a1, a2, a3, a4, a5, af⟩ := Jf hbx.row;have lb := Ja hbx.row;obtain ⟨c0, c1, c2, cf⟩ := hbx.line _ t rfl;have lg := hbx.lines;clear hbx;go_upto_region 8 with fail
    go_cut [] from 60 to 70 (fun wx => InAt 61 b g N cap (⟨i + kk, rest, x.at'⟩ :: t) m Jv wx /\ Aside (fun q => q = g) wd wx)
    case first =>
     go_region_law (fail)
     all_goals
      (try go_wp2_with fail)
      go_meet
      exact ⟨(InAt.tellT HR7.out HPos.out).below Jj, (HA7.out.trans (Jk (S := fun q => q = g) rfl (Aside.refl _ _))).trans (Aside.of_below Jj)⟩
    case rest =>
     obtain ⟨hR8, hA8⟩ := hcut;have HLb1 := hid (HLb1.out.same hA8 (fun q hq => .inr (.inl hq)) hlb hlg);have HK1 := hid (HK1.out.carry hA8.size (fun q h1 h2 => hA8.block q h2 (by omega)));have HR1 := hid hR8;have HW1 := hid (H0.out.keep HW1.out (hA8.mono (fun q hq => .inr hq)));clear hR8 hA8 a0 a1 a2 a3 a4 a5 af c0 c1 c2 cf lb lg;obtain ⟨y0, y1, y2, y3, y4, y5, yf⟩ := Jf HLb1.out.list
     have ly := Ja HLb1.out.list;have lz := Ja HLb1.out.zero;obtain ⟨rb, hrb⟩ : ∃ rb, rb = (Value.slice VA ess.length vc).ownBlock := ⟨_, rfl⟩
     have hrl : ∀ q, rb = some q -> w.heap.size + 2 <= q /\ q < wc.heap.size := fun q hq => ⟨(HK1.out.row.lt q (by rw [<- hrb]; exact hq)).1, HK1.out.hi q (by rw [<- hrb]; exact hq)⟩
     have hn0 : rb ≠ some w.heap.size := fun h => by have := (hrl _ h).1; omega
     have hn1 : rb ≠ some (w.heap.size + 1) := fun h => by have := (hrl _ h).1; omega
     have Hrl := hid hrl;have Hr := hid hrb;have hb0 : ¬ (w.heap.size = b ∨ w.heap.size = g) := by omega
     have hb1 : ¬ (w.heap.size + 1 = b ∨ w.heap.size + 1 = g) := by omega
     have hsb : ∀ q, (q = b ∨ q = g) -> q < w.heap.size + 2 := fun q hq => by omega
     obtain ⟨el, hel2⟩ : ∃ el, el = ess.length := ⟨_, rfl⟩
     have HEl := hid hel2;clear hrl hrb hel2;obtain ⟨dz, hdz⟩ : ∃ dz : Int, dz = ((d + 1 : Nat) : Int) := ⟨_, rfl⟩
     rw [<- hdz] at hdd HC;clear hdz;go_upto_region 9 with fail
     go_region_law (first | (go_simp; go_at_call 51; refine (HC.out _ (HW1.out.trans (Below.mono Jj HW1.out.size)) (HR1.out.below Jj)).mono ?_; intro e9 w9 hv9; obtain ⟨cs9, L9, m9, f9, rfl, ht9, hR9, hok9, hA9, hm9⟩ := hv9; obtain ⟨u0, u1, u2, u3, U4, u4, u44, U5, u5, u55, rfl⟩ := ht9; obtain ⟨-, -, -, -, -, p5, -⟩ := Jf ((hA9.block (w.heap.size + 1) ly hb1).trans HLb1.out.list); have l9 : w.heap.size + 1 < w9.heap.size := Nat.lt_of_lt_of_le ly hA9.size; have Hone := hid (TreeV.one ⟨u0, u1, u2, u3, U4, u4, u44, U5, u5, u55, rfl⟩)) | (refine step_append_lies _ rfl _ _ 32 rfl (w.heap.size + 2) 34 i0 (.agg #[.int .i64 0, .bool false, .int .i64 0, .string ⟨#[]⟩, .slice none 0 0, .slice none 0 0]) 6 88 Tryz.underlying32 HI0.out hz0 hz1 hz2 rfl (by decide) _ ess.length ess.flatten rfl (JhB HK1.out.row hA9 rfl hsb rfl) ⟨w9.heap.size, 0, none⟩ 1 1 [.int .i64 u0, .bool u1, .int .i64 u2, .string u3, .slice U4 u4 u44, .slice U5 u5 u55] rfl rfl (World.news_of_block (heap_alloc_new w9 _)) Hone.out (by decide) (by unfold maxLen; omega) (by omega) (by have := hA9.size; simp at this ⊢; omega) _ rfl ?_; intro g2 cap2 w2 hown2 hgrow2 hat2 hlt2; obtain ⟨-, -, -, -, -, q5, qf⟩ := Jf ((Yx ly hA9 rfl hgrow2 Hr.out hn1 hb1).trans HLb1.out.list)))
     all_goals
      have RT2 := (Yx ly hA9 rfl hgrow2 Hr.out hn1 hb1).trans HLb1.out.list;have RZ2 := (Yx lz hA9 rfl hgrow2 Hr.out hn0 hb0).trans HLb1.out.zero;have hgA : Aside (fun q => some q = rb) w9 w2 := Aside.trans (Vn (Aside.refl _ _)) ⟨hgrow2.os, hgrow2.tape, hgrow2.output, hgrow2.size, fun q h1 h2 => hgrow2.block q h1 (fun h => h2 (h.trans Hr.out.symm))⟩;have hF2 : Aside (fun q => q = b ∨ q = g ∨ w.heap.size <= q) w w2 := (HLb1.out.aside.join (Aside.trans (Aside.of_below (Jj : Below wc.heap.size wc _)) hA9) (fun q hq _ => by omega)).join hgA (fun q hq _ => .inr (.inr (by have := (Hrl.out q hq.symm).1; omega)))
      have hR2 := hR9.past hgA (fun hq => by have := (Hrl.out _ hq.symm).1; omega) (fun hq => by have := (Hrl.out _ hq.symm).1; omega);have hl2 := Ja RT2;have hs9 : wc.heap.size <= w9.heap.size := hA9.size;have hs2 : w9.heap.size + 1 <= w2.heap.size := by have := hgrow2.size; simp at this; omega
      have hkp : ∀ q, w.heap.size + 2 <= q -> q < wc.heap.size -> (Value.slice VA ess.length vc).ownBlock ≠ some q -> w2.heap[q]? = wc.heap[q]? := fun q h1 h2 h3 => Yx h2 hA9 rfl hgrow2 Hr.out (by rw [Hr.out]; exact h3) (by omega)
      have h29 : ∀ q, wc.heap.size <= q -> q < w9.heap.size -> w2.heap[q]? = w9.heap[q]? := fun q h1 h2 => (hgrow2.block q (by simp; omega) (fun e => by have := (Hrl.out q (by rw [Hr.out]; exact e.symm)).2; omega)).trans (Below.heap_alloc _ _ _ h2)
      have Hp := hid (KidsE.push (t := JeV (Jn k1 (.value (d + 1)) (⟨i + kk, rest, x.at'⟩ :: t) m)) (s9 := w9.heap.size) HK1.out rfl hkp (by omega) hs9 (by omega) (fun u hu => by
        rcases hres : (Jn k1 (.value (d + 1)) (⟨i + kk, rest, x.at'⟩ :: t) m) with f' | ⟨t', L', m'⟩
        ·rw [hres] at hu; cases hu
        rw [hres] at hu hm9;cases hu
        exact (hm9.2.2.2.up (show 10 - (d + 1) <= nT by rw [HNT.out]; exact Nat.le_refl _)).carry (fun q hq => h29 q hq.1 hq.2) (fun q hq => ⟨by have := hq.1; (try simp at this); omega, hq.2⟩)) hown2 (by rcases hat2 with h | h; exact .inl h; exact .inr (by simp at h ⊢; omega)) hlt2)
      have Hm9 := hid hm9;go_wp2_with fail
      go_roundw
      case rel =>
       refine ⟨Jfg (some acc) (JeV (Jn k1 (.value (d + 1)) (⟨i + kk, rest, x.at'⟩ :: t) m)), .slice (some ⟨g2, 0, none⟩) (ess.length + 1) cap2, ess ++ [[.int .i64 u0, .bool u1, .int .i64 u2, .string u3, .slice U4 u4 u44, .slice U5 u5 u55]], L9, m9, f9, ⟨(Below.heap_setCell _ _ _ _ (by simp)).trans RZ2, heap_setCell_same w2 (w.heap.size + 1) 5 _ _ _ RT2, Jk (.inr (.inr (by simp))) hF2⟩, Hp.out.carry (by simp) (fun x h1 _ => Below.heap_setCell _ _ _ _ (by simp; omega)), hR2.past (S := fun q => q = w.heap.size + 1) (Jk rfl (Aside.refl _ _)) (fun hq => by omega) (fun hq => by omega), hok9, by simp; omega, ?_⟩
       have hx := HX2.out;have hm := Hm9.out;rcases hres : (Jn k1 (.value (d + 1)) (⟨i + kk, rest, x.at'⟩ :: t) m) with f' | ⟨t', L', m'⟩
       ·rw [hres] at hm hx
        exact ⟨by rw [hm.1]; exact hm.2, by rw [hm.1]; exact hx⟩
       rw [hres] at hm hx;obtain ⟨e1, e2, e3, -⟩ := hm;have hgw := HG.out _ _ _ hres;have hnl := HNd.out _ _ _ hres;rw [e2, e3];exact ⟨e1, hgw.2, by simp; omega, k1, hnl, by omega, hx⟩
      case measure =>
       have hm := Hm9.out;have hme := (hR2.past (S := fun q => q = w.heap.size + 1) (Jk (u := .slice (some ⟨g2, 0, none⟩) (ess.length + 1) cap2) (p := ⟨w.heap.size + 1, 5, none⟩) rfl (Aside.refl _ w2)) (fun hq => by omega) (fun hq => by omega)).meas;rw [hme, HRr.out.meas, if_pos (show Jv.code = 0 from rfl)];rcases hres : (Jn k1 (.value (d + 1)) (⟨i + kk, rest, x.at'⟩ :: t) m) with f' | ⟨t', L', m'⟩
       ·rw [hres] at hm
        rw [hm.1, if_neg hm.2];omega
       rw [hres] at hm;rw [hm.1, hm.2.1, if_pos (show Jv.code = 0 from rfl)];have := HLn.out _ _ _ hres;simp only [List.length_cons];omega
def scA (s : ByteArray) : List Value := match JL s with
 | none => [.int .i64 0, .bool false, .int .i64 0, .string ⟨#[]⟩, .slice none 0 0, .slice none 0 0]
 | some t => [.int .i64 t.kind, .bool t.flag, .int .i64 t.num, .string t.text, .slice none 0 0, .slice none 0 0]
def scF (f : Flt) (s : ByteArray) (a : Nat) : Flt := match JL s with
 | none => US f 4 a
 | some _ => f
theorem Je9 (s : ByteArray) : TreeV (scA s) := by
 unfold scA;rcases JL s with _ | t
 all_goals
  exact ⟨_, _, _, _, _, _, _, _, _, _, rfl⟩
theorem JaD (w0 : World) (b g N cap : Nat) (x : LineD) (L : List LineD) (m : Nat) (f : Flt) (s : ByteArray) (a : Nat) (w : World) (h0 : In0 w0 b g) (hw : Below w0.heap.size w0 w) (hs : s.size <= 1048576) (h : InAt 61 b g N cap (x :: L) m f w) :
  Calls Tryz.prog 105 #[.pointer (some ⟨b, 0, none⟩), .string s, .int .i64 a] w fun e w' => e = .returned (.agg (scA s).toArray) /\ InAt 61 b g N cap L m (scF f s a) w' /\ Aside (fun q => q = b) w w' := by
 have H := hid h;have hlb := h.lt.1;have hlg := h.lt.2;have HS := hid (fun (W : World) (hb : Below w.heap.size w W) => Xm s W hs (h0.cas.below (hw.trans (hb.mono hw.size))) (h0.tab.below (hw.trans (hb.mono hw.size))) (h0.err.below (hw.trans (hb.mono hw.size))))
 have hat : ∀ (W : World) (F : Flt), InAt 61 b g N cap (x :: L) m F W -> ∀ p : Nat, p + (x :: L).length = N -> InAt 61 b g N cap L m F (W.setCell ⟨b, 1, none⟩ (.int .i64 ((p : Int) + 1))) := fun W F hW p hp =>
  InAt.turn hW (Jk rfl (Aside.refl _ _)) (.inr ⟨x, rfl⟩) (fun p1 p' h1 h2 hrow => by
   obtain rfl : p1 = p := by omega
   have e : ((p1 : Int) + 1) = ((p' : Nat) : Int) := by rw [List.length_cons] at h1; omega
   rw [e]
   exact Jly hrow)
 have HAt := hid hat;clear h hat h0 hw
 have hsc : (∃ t, JL s = some t) ∨ JL s = none := by
  rcases JL s with _ | t
  ·exact .inr rfl
  exact .inl ⟨t, rfl⟩
 rcases hsc with ⟨t, ht⟩ | ht
 ·have HA : Hid (scA s = [.int .i64 t.kind, .bool t.flag, .int .i64 t.num, .string t.text, .slice none 0 0, .slice none 0 0]) := hid (by unfold scA; rw [ht])
  have HF : Hid (scF f s a = f) := hid (by unfold scF; rw [ht])
  have hs1 : ∀ (W : World), Below w.heap.size w W -> Calls Tryz.prog 186 #[.string s] W fun e w' => e = .returned (.tuple #[.agg #[.int .i64 t.kind, .bool t.flag, .int .i64 t.num, .string t.text, .slice none 0 0, .slice none 0 0], .bool true]) /\ Below W.heap.size W w' := fun W hb => by
   have h := HS.out W hb;rw [ht] at h;exact h
  have HS1 := hid hs1;rw [HA.out, HF.out];obtain ⟨tk, tf, tn, tt, k1, k2⟩ := t;simp only at HS1 HA ⊢;clear ht hs1 HS HA HF;go_enter Tryz.func105, Tryz.ntmps105
  go_wp2_with fail
  refine (HS1.out _ Jj).mono ?_;rintro e w1 ⟨rfl, hb1⟩;have HT1 := hid ((hb1.block w.heap.size (by simp)).trans (Je (w := w) (o := .cells #[.int .i64 0, .bool false, .int .i64 0, .string ⟨#[]⟩, .slice none 0 0, .slice none 0 0] 34) rfl));have HB1 := hid (Jj : Below w.heap.size w w1);have HR1 := hid (H.out.below HB1.out);obtain ⟨x0, x1, x2, x3, x4, x5, xf⟩ := Jf HT1.out;have l1 := Ja HT1.out
  obtain ⟨p, hbx⟩ := HR1.out.open;have HPos := hid hbx.pos;obtain ⟨a0, a1, a2, a3, a4, a5, af⟩ := Jf hbx.row;have lb := Ja hbx.row;have hsm := hbx.small;have hpl := hbx.pos;have hp2 : p <= 20001 := by omega
  have hnb : ¬ w.heap.size = b := by omega
  clear hb1 hbx hpl hsm;go_wp2_with fail
  have hR := HAt.out w1 f HR1.out p HPos.out;have hA : Aside (fun q => q = b) w (w1.setCell ⟨b, 1, none⟩ (.int .i64 ((p : Int) + 1))) := (Aside.of_below HB1.out).trans (Jk rfl (Aside.refl _ _));have HR := hid hR;have HA := hid hA;clear hR hA;exact bodyPost_ret (v := .agg #[.int .i64 tk, .bool tf, .int .i64 tn, .string tt, .slice none 0 0, .slice none 0 0]) (by simp only [results, Tryz.results105]; go_simp) rfl ⟨rfl, HR.out.past (S := fun q => q = w.heap.size) QC (by omega) (by omega), HA.out.join (S' := fun q => q = w.heap.size) QC (fun q hq h => by omega)⟩
 have HA : Hid (scA s = [.int .i64 0, .bool false, .int .i64 0, .string ⟨#[]⟩, .slice none 0 0, .slice none 0 0]) := hid (by unfold scA; rw [ht]);have HF : Hid (scF f s a = US f 4 a) := hid (by unfold scF; rw [ht])
 have hs1 : ∀ (W : World), Below w.heap.size w W -> Calls Tryz.prog 186 #[.string s] W fun e w' => e = .returned (.tuple #[.agg #[.int .i64 0, .bool false, .int .i64 0, .string ⟨#[]⟩, .slice none 0 0, .slice none 0 0], .bool false]) /\ Below W.heap.size W w' := fun W hb => by
  have h := HS.out W hb;rw [ht] at h;exact h
 have HS1 := hid hs1;rw [HA.out, HF.out];clear ht hs1 HS HA HF;go_enter Tryz.func105, Tryz.ntmps105
 go_wp2_with fail
 refine (HS1.out _ Jj).mono ?_;rintro e w1 ⟨rfl, hb1⟩;have HT1 := hid ((hb1.block w.heap.size (by simp)).trans (Je (w := w) (o := .cells #[.int .i64 0, .bool false, .int .i64 0, .string ⟨#[]⟩, .slice none 0 0, .slice none 0 0] 34) rfl));have HB1 := hid (Jj : Below w.heap.size w w1);have HR1 := hid (H.out.below HB1.out);have l1 := Ja HT1.out;have hnb : ¬ w.heap.size = b := by omega
 have hn1 : ¬ w1.heap.size = b := by omega
 clear hb1;go_wp2_with fail
 refine (VE b g N cap (x :: L) m f 4 a _ (HR1.out.below Jj)).mono ?_;rintro e w2 ⟨rfl, hR2, hA2⟩;have HR2 := hid hR2;have HA2 := hid ((Aside.of_below (S := fun q => q = b) HB1.out).trans ((Aside.of_below (Jj : Below w1.heap.size w1 _)).trans hA2));have HT2 := hid ((hA2.block _ (by simp; omega) hnb).trans ((Below.heap_alloc _ _ _ l1).trans HT1.out));have HU2 := hid ((hA2.block w1.heap.size (by simp) hn1).trans (Je (w := w1) (o := .cells #[.int .i64 0, .bool false, .int .i64 0, .string ⟨#[]⟩, .slice none 0 0, .slice none 0 0] 34) rfl))
 obtain ⟨x0, x1, x2, x3, x4, x5, xf⟩ := Jf HT2.out;have l2 := Ja HT2.out;obtain ⟨y0, y1, y2, y3, y4, y5, yf⟩ := Jf HU2.out;have l3 := Ja HU2.out;obtain ⟨p, hbx⟩ := HR2.out.open;have HPos := hid hbx.pos;obtain ⟨a0, a1, a2, a3, a4, a5, af⟩ := Jf hbx.row;have lb := Ja hbx.row;have hsm := hbx.small;have hpl := hbx.pos;have hp2 : p <= 20001 := by omega
 have hn01 : ¬ w.heap.size = w1.heap.size := by omega
 clear hR2 hA2 hbx hpl hsm;go_wp2_with fail
 have hR := HAt.out w2 (US f 4 a) HR2.out p HPos.out;have hA : Aside (fun q => q = b) w (w2.setCell ⟨b, 1, none⟩ (.int .i64 ((p : Int) + 1))) := HA2.out.trans (Jk rfl (Aside.refl _ _));have HR := hid hR;have HA := hid hA;clear hR hA;exact bodyPost_ret (v := .agg #[.int .i64 0, .bool false, .int .i64 0, .string ⟨#[]⟩, .slice none 0 0, .slice none 0 0]) (by simp only [results, Tryz.results105]; go_simp) rfl ⟨rfl, HR.out.past (S := fun q => q = w.heap.size) QC (by omega) (by omega), HA.out.join (S' := fun q => q = w.heap.size) QC (fun q hq h => by omega)⟩
theorem OutI.close {ty : TypeId} {b g N cap nT : Nat} {r : ResI} {w w3 w5 wF : World} {e : Ending} (h : OutI ty b g N cap nT r w3 e w5) (hA : Aside (fun q => q = b ∨ q = g ∨ w.heap.size <= q) w w3) (hF : Aside (fun q => q = w.heap.size) w5 wF) (hlt : w.heap.size < w3.heap.size) (hb : b < w.heap.size) (hg : g < w.heap.size) : OutI ty b g N cap nT r w e wF := by
 obtain ⟨cs, L', m', f', h1, h2, h3, h4, h5, h6⟩ := h;refine ⟨cs, L', m', f', h1, h2, h3.past hF (fun q => by omega) (fun q => by omega), h4, Aside.low2 ((hA.join h5 (fun q hq _ => by omega)).join hF (fun q hq _ => .inr (.inr (by omega)))), ?_⟩;rcases r with f | ⟨t, L, m⟩
 ·exact h6
 obtain ⟨k1, k2, k3, k4⟩ := h6;exact ⟨k1, k2, k3, k4.carry (fun x hx => hF.block x hx.2 (by omega)) (fun x hx => ⟨by omega, Nat.lt_of_lt_of_le hx.2 hF.size⟩)⟩
theorem InAt.next {ty : TypeId} {b g N cap p : Nat} {x : LineD} {L : List LineD} {m : Nat} {f : Flt} {w : World} (h : InAt ty b g N cap (x :: L) m f w) (hp : p + (x :: L).length = N) : InAt ty b g N cap L m f (w.setCell ⟨b, 1, none⟩ (.int .i64 ((p : Int) + 1))) :=
 InAt.turn h (Jk rfl (Aside.refl _ _)) (.inr ⟨x, rfl⟩) (fun p1 p' h1 h2 hrow => by
  obtain rfl : p1 = p := by omega
  have e : ((p1 : Int) + 1) = ((p' : Nat) : Int) := by rw [List.length_cons] at h1; omega
  rw [e]
  exact Jly hrow)
theorem ZP (d m a : Nat) : (J1 d m a = none /\ Qo d m a = Jv) ∨ ∃ f, J1 d m a = some f /\ Qo d m a = f /\ f.code ≠ 0 := by
 rcases h : J1 d m a with _ | f
 ·exact .inl ⟨rfl, by unfold Qo; rw [h]; rfl⟩
 exact .inr ⟨f, rfl, by unfold Qo; rw [h]; rfl, Ud h⟩
theorem Jgo (w0 : World) (b g N cap n : Nat) (h0 : In0 w0 b g) (hv : Jjg w0 b g N cap n) : Jjw w0 b g N cap (n + 1) := by
 intro i d x r m w hd1 hd9 hm hok hn hw h;have hlb := h.lt.1;have hlg := h.lt.2;obtain ⟨p, hbx⟩ := h.open;have HPos := hid hbx.pos;obtain ⟨a0, a1, a2, a3, a4, a5, af⟩ := Jf hbx.row;have lb := Ja hbx.row;obtain ⟨c0, c1, c2, cf⟩ := hbx.line x r rfl;have lg := hbx.lines;have hpN : (p : Int) < N := by have := hbx.pos; rw [List.length_cons] at this; omega
 have hp0 : (0 : Int) <= p := by omega
 have hcap := hbx.cap';have hgb := hbx.ne;have hN2 := hbx.small;have H := hid h;have H0 := hid h0;have HW := hid hw;have Hv := hid hv;have HOk := hid hok;have HN := hid hn;obtain ⟨res, hres⟩ : ∃ q, q = Jn (n + 1) (.below i d x.at') r m := ⟨_, rfl⟩
 rw [<- hres];rw [VG] at hres;have HRes := hid hres;obtain ⟨nT, hnT⟩ : ∃ k, 10 - d = k + 1 := ⟨9 - d, by omega⟩
 rw [hnT];have HNT := hid hnT;clear hbx h h0 hw hv hok hn hres hnT;go_enter Tryz.func179, Tryz.ntmps179
 go_wp2_with fail
 refine Jm 12 (by kernel_rfl) (by kernel_rfl) (by decide) ?_
 iterate 12 (apply Exists.intro; refine And.intro ?_ ?_; (focus (intro W hW; (try simp only [Act.put, List.setIfInBounds_toArray, List.set_cons_zero, List.set_cons_succ]); first | (exact wpList_skip rfl ⟨rfl, rfl, Below.refl _ _⟩) | (obtain ⟨hcW, hfW⟩ := JE hW; have hsW := hW.size; (try simp at hsW); (try have hsW0 := Jd hsW); (try (have hsW1 := Jc hsW; (try (have hsW2 := Jc hsW1)))); go_wp2_with fail; exact ⟨rfl, rfl, Jj⟩))))
 intro w1 hbw1
 (try simp only [Act.put, List.setIfInBounds_toArray, List.set_cons_zero, List.set_cons_succ])
 (try simp only [List.drop_succ_cons, List.drop_nil])
 have HB1 := hid (Jj : Below w.heap.size w w1);have HT1 := hid ((hbw1.block w.heap.size (by simp)).trans (Je (w := w) (o := .cells #[.int .i64 0, .bool false, .int .i64 0, .string ⟨#[]⟩, .slice none 0 0, .slice none 0 0] 34) rfl));have HR1 := hid (H.out.below HB1.out);have l1 := Ja HT1.out;clear hbw1 a0 a1 a2 a3 a4 a5 af c0 c1 c2 cf lb lg;obtain ⟨p1, hbx⟩ := HR1.out.open;obtain rfl : p1 = p := by have := HPos.out; have := hbx.pos; omega
 obtain ⟨a0, a1, a2, a3, a4, a5, af⟩ := Jf hbx.row;have lb := Ja hbx.row;clear hbx;have hnb : ¬ w.heap.size = b := by omega
 go_upto_region 3 with fail
 obtain ⟨w2, hw2⟩ : ∃ W, W = w1.setCell ⟨b, 1, none⟩ (.int .i64 ((p1 : Int) + 1)) := ⟨_, rfl⟩
 have hR2 := HR1.out.next HPos.out;rw [<- hw2] at hR2 ⊢;have hA2 : Aside (fun q => q = b) w w2 := by rw [hw2]; exact (Aside.of_below HB1.out).trans (Jk rfl (Aside.refl _ _))
 have HR2 := hid hR2;have HA2 := hid hA2;have hT2 : w2.heap[w.heap.size]? = w1.heap[w.heap.size]? := by rw [hw2]; exact Below.heap_setCell _ _ _ _ (fun e => hnb e)
 have HT2 := hid (hT2.trans HT1.out);have l2 := Ja HT2.out;have HW2 := hid (H0.out.keep HW.out (hA2.mono (fun q hq => .inl hq)));clear a0 a1 a2 a3 a4 a5 af lb hR2 hA2 hw2 hT2;obtain ⟨p2, hbx⟩ := HR2.out.open;have hpp : p2 = p1 + 1 := by have := HPos.out; have := hbx.pos; simp only [List.length_cons] at *; omega
 obtain ⟨a0, a1, a2, a3, a4, a5, af⟩ := Jf hbx.row;have lb := Ja hbx.row;have lg := hbx.lines;have hp20 : (0 : Int) <= p2 := by omega
 have hpos2 := hbx.pos;by_cases hbl : UT i r = true
 ·obtain ⟨y, r2, rfl⟩ : ∃ y r2, r = y :: r2 := by
   cases r with
   | nil => cases hbl
   | cons y r2 => exact ⟨y, r2, rfl⟩
  obtain ⟨c0, c1, c2, cf⟩ := hbx.line y r2 rfl;have hlt : i < y.ind := of_decide_eq_true hbl;have d1 : decide ((i : Int) < (y.ind : Int)) = true := JmG (by omega);have d4 : decide (i < y.ind) = true := JmG hlt;have hpN2 : (p2 : Int) < N := by rw [List.length_cons] at hpos2; omega
  have d2 : decide ((p2 : Int) < N) = true := JmG hpN2;have HF := hid (HRes.out.trans (if_pos hbl));have hn2 : JG (.value d) (y :: r2) <= n := by have := HN.out; unfold JG at this ⊢; simp only at this ⊢; omega
  have HN2 := hid hn2;clear hbx hbl hpos2 hlt hpp hn2;refine Jm 25 (by kernel_rfl) (by kernel_rfl) (by decide) ?_
  iterate 25 (apply Exists.intro; refine And.intro ?_ ?_; (focus (intro W hW; (try simp only [Act.put, List.setIfInBounds_toArray, List.set_cons_zero, List.set_cons_succ]); first | (exact wpList_skip rfl ⟨rfl, rfl, Below.refl _ _⟩) | (obtain ⟨hcW, hfW⟩ := JE hW; have hsW := hW.size; (try simp at hsW); (try have hsW0 := Jd hsW); (try (have hsW1 := Jc hsW; (try (have hsW2 := Jc hsW1)))); go_wp2_with fail; exact ⟨rfl, rfl, Jj⟩))))
  intro w3 hbw3
  (try simp only [Act.put, List.setIfInBounds_toArray, List.set_cons_zero, List.set_cons_succ])
  (try simp only [List.drop_succ_cons, List.drop_nil])
  have HB3 := hid hbw3;have HT3 := hid ((hbw3.block _ l2).trans HT2.out);have HR3 := hid (HR2.out.below hbw3);have HW3 := hid (HW2.out.trans (hbw3.mono HW2.out.size));have l3 := Ja HT3.out;clear hbw3 a0 a1 a2 a3 a4 a5 af c0 c1 c2 cf lb lg;go_wp2_with fail
  refine (Hv.out d y r2 m w3 hd1 hd9 hm HOk.out.tail HN2.out HW3.out HR3.out).mono ?_;intro e w5 hv5;obtain ⟨cs, L', m', f', rfl, ht, h5, h6, h7, h8⟩ := hv5;obtain ⟨u0, u1, u2, u3, U4, u4, u44, U5, u5, u55, rfl⟩ := ht
  have HV := hid (show OutI 61 b g N cap (nT + 1) res w3 (.returned (.agg #[.int .i64 u0, .bool u1, .int .i64 u2, .string u3, .slice U4 u4 u44, .slice U5 u5 u55])) w5 by
   rw [HF.out, <- HNT.out]
   exact ⟨_, L', m', f', rfl, ⟨u0, u1, u2, u3, U4, u4, u44, U5, u5, u55, rfl⟩, h5, h6, h7, h8⟩)
  have HT5 := hid ((h7.block _ l3 (by omega)).trans HT3.out);obtain ⟨x0, x1, x2, x3, x4, x5, xf⟩ := Jf HT5.out;have l5 := Ja HT5.out;clear h5 h6 h7 h8;go_wp2_with fail
  exact bodyPost_ret (v := .agg #[.int .i64 u0, .bool u1, .int .i64 u2, .string u3, .slice U4 u4 u44, .slice U5 u5 u55]) (by simp only [results, Tryz.results179]; go_simp) rfl (HV.out.close ((HA2.out.trans (Aside.of_below HB3.out)).mono (fun q hq => .inl hq)) QC l3 hlb hlg)
 have HF := hid (HRes.out.trans (if_neg hbl))
 have hq : (decide ((p2 : Int) < N) = false /\ decide (p2 < N) = false) ∨ (decide ((p2 : Int) < N) = true /\ decide (p2 < N) = true /\ ∃ (k : Nat), w2.cell? ⟨g, p2 * 3, none⟩ = some (.int .i64 k) /\ decide ((i : Int) < (k : Int)) = false /\ decide (i < k) = false /\ (p2 : Int) < N /\ ∀ o, w2.frozen? ⟨g, o, none⟩ = false) := by
  rcases r with _ | ⟨y, r2⟩
  ·exact .inl ⟨JmF (by simp at hpos2; omega), JmF (by simp at hpos2; omega)⟩
  obtain ⟨c0, c1, c2, cf⟩ := hbx.line y r2 rfl;rw [List.length_cons] at hpos2;refine .inr ⟨JmG (by omega), JmG (by omega), y.ind, c0, JmF (fun h => hbl ?_), JmF (fun h => hbl ?_), by omega, cf⟩ <;> exact JmG (by omega)
 clear hbx hbl hpos2 hpp;rcases hq with ⟨d2, d3⟩ | ⟨d2, d3, k, c0, d1, d4, hpN2, cf⟩
 all_goals
  refine Jm 25 (by kernel_rfl) (by kernel_rfl) (by decide) ?_
  iterate 25 (apply Exists.intro; refine And.intro ?_ ?_; (focus (intro W hW; (try simp only [Act.put, List.setIfInBounds_toArray, List.set_cons_zero, List.set_cons_succ]); first | (exact wpList_skip rfl ⟨rfl, rfl, Below.refl _ _⟩) | (obtain ⟨hcW, hfW⟩ := JE hW; have hsW := hW.size; (try simp at hsW); (try have hsW0 := Jd hsW); (try (have hsW1 := Jc hsW; (try (have hsW2 := Jc hsW1)))); go_wp2_with fail; exact ⟨rfl, rfl, Jj⟩))))
  intro w3 hbw3
  (try simp only [Act.put, List.setIfInBounds_toArray, List.set_cons_zero, List.set_cons_succ])
  (try simp only [List.drop_succ_cons, List.drop_nil])
  have HB3 := hid hbw3;have HT3 := hid ((hbw3.block _ l2).trans HT2.out);have HR3 := hid (HR2.out.below hbw3);have l3 := Ja HT3.out;clear hbw3 a0 a1 a2 a3 a4 a5 af lb lg;go_wp2_with fail
  refine (WX b g N cap r m d x.at' w3 HR3.out (by omega) (by omega)).mono ?_;rintro e w5 ⟨rfl, hR5, hA5⟩;have HT5 := hid ((hA5.block _ l3 (by omega)).trans HT3.out);obtain ⟨x0, x1, x2, x3, x4, x5, xf⟩ := Jf HT5.out;have l5 := Ja HT5.out
  have HV := hid (show OutI 61 b g N cap (nT + 1) res w3 (.returned (.agg #[.int .i64 1, .bool false, .int .i64 0, .string ⟨#[]⟩, .slice none 0 0, .slice none 0 0])) w5 by
   rw [HF.out];rcases ZP d m x.at' with ⟨e1, e2⟩ | ⟨f, e1, e2, e3⟩
   ·rw [e1]
    exact ⟨_, r, m + 1, Qo d m x.at', rfl, ⟨_, _, _, _, _, _, _, _, _, _, rfl⟩, hR5, HOk.out.tail, hA5.mono (fun q hq => .inl hq), e2, rfl, rfl, Qr (by unfold QA; decide) (by unfold QA; decide) (by decide)⟩
   rw [e1]
   exact ⟨_, r, m + 1, Qo d m x.at', rfl, ⟨_, _, _, _, _, _, _, _, _, _, rfl⟩, hR5, HOk.out.tail, hA5.mono (fun q hq => .inl hq), e2, e3⟩)
  clear hR5 hA5;go_wp2_with fail
  exact bodyPost_ret (v := .agg #[.int .i64 1, .bool false, .int .i64 0, .string ⟨#[]⟩, .slice none 0 0, .slice none 0 0]) (by simp only [results, Tryz.results179]; go_simp) rfl (HV.out.close ((HA2.out.trans (Aside.of_below HB3.out)).mono (fun q hq => .inl hq)) QC l3 hlb hlg)
def JjX (b g N cap n : Nat) : Prop := ∀ (d : Nat) (x : LineD) (r : List LineD) (m : Nat) (w : World), 1 <= d -> d <= 9 -> m <= 300 -> InOk (x :: r) -> JG (.value d) (x :: r) <= n -> InAt 67 b g N cap (x :: r) m Jv w ->
 Calls Tryz.prog 55 #[.pointer (some ⟨b, 0, none⟩), .int .i64 d] w (OutI 67 b g N cap (10 - d) (Jn n (.value d) (x :: r) m) w)
def Jjv (b g N cap n : Nat) : Prop := ∀ (i d a : Nat) (r : List LineD) (m : Nat) (w : World), 1 <= d -> d <= 9 -> m <= 300 -> InOk r -> JG (.below i d a) r <= n -> InAt 67 b g N cap r m Jv w ->
 Calls Tryz.prog 189 #[.pointer (some ⟨b, 0, none⟩), .int .i64 i, .int .i64 d, .int .i64 a] w (OutI 67 b g N cap (10 - d) (Jn n (.below i d a) r m) w)
def JlO (b g N cap n : Nat) : Prop := ∀ (i d : Nat) (L : List LineD) (m : Nat) (w : World), 1 <= d -> d <= 8 -> m <= 300 -> InOk L -> JG (.list i d []) L <= n -> InAt 67 b g N cap L m Jv w ->
 Calls Tryz.prog 111 #[.pointer (some ⟨b, 0, none⟩), .int .i64 i, .int .i64 d] w (OutI 67 b g N cap (10 - d) (Jn n (.list i d []) L m) w)
def Jl5 (b g N cap n : Nat) : Prop := ∀ (i d : Nat) (L : List LineD) (m : Nat) (w : World), 1 <= d -> d <= 8 -> m <= 300 -> InOk L -> JG (.pairs i d [] []) L <= n -> InAt 67 b g N cap L m Jv w ->
 Calls Tryz.prog 113 #[.pointer (some ⟨b, 0, none⟩), .int .i64 i, .int .i64 d] w (OutI 67 b g N cap (10 - d) (Jn n (.pairs i d [] []) L m) w)
theorem Je8 (b g N cap n : Nat) (hv : JjX b g N cap n) : Jjv b g N cap (n + 1) := by
 intro i d a r m w hd1 hd9 hm hok hn h;have hlb := h.lt.1;have hlg := h.lt.2;obtain ⟨p, hbx⟩ := h.open;obtain ⟨a0, a1, a2, a3, a4, a5, af⟩ := Jf hbx.row;have lb := Ja hbx.row;have lg := hbx.lines;have hcap := hbx.cap';have hgb := hbx.ne;have hN2 := hbx.small;have hpos := hbx.pos;have hp0 : (0 : Int) <= p := by omega
 have H := hid h;have Hv := hid hv;have HOk := hid hok;have HN := hid hn;obtain ⟨res, hres⟩ : ∃ q, q = Jn (n + 1) (.below i d a) r m := ⟨_, rfl⟩
 rw [<- hres];rw [VG] at hres;have HRes := hid hres;obtain ⟨nT, hnT⟩ : ∃ k, 10 - d = k + 1 := ⟨9 - d, by omega⟩
 rw [hnT];have HNT := hid hnT;clear h hv hok hn hres hnT;by_cases hbl : UT i r = true
 ·obtain ⟨y, r2, rfl⟩ : ∃ y r2, r = y :: r2 := by
   cases r with
   | nil => cases hbl
   | cons y r2 => exact ⟨y, r2, rfl⟩
  obtain ⟨c0, c1, c2, cf⟩ := hbx.line y r2 rfl;have hlt : i < y.ind := of_decide_eq_true hbl;have d1 : decide ((i : Int) < (y.ind : Int)) = true := JmG (by omega);have d4 : decide (i < y.ind) = true := JmG hlt;have hpN2 : (p : Int) < N := by rw [List.length_cons] at hpos; omega
  have d2 : decide ((p : Int) < N) = true := JmG hpN2;have HF := hid (HRes.out.trans (if_pos hbl));have hn2 : JG (.value d) (y :: r2) <= n := by have := HN.out; unfold JG at this ⊢; simp only at this ⊢; omega
  have HN2 := hid hn2;clear hbx hbl hpos hlt hn2;go_enter Tryz.func189, Tryz.ntmps189
  go_wp2_with fail
  refine Jm 25 (by kernel_rfl) (by kernel_rfl) (by decide) ?_
  iterate 25 (apply Exists.intro; refine And.intro ?_ ?_; (focus (intro W hW; (try simp only [Act.put, List.setIfInBounds_toArray, List.set_cons_zero, List.set_cons_succ]); first | (exact wpList_skip rfl ⟨rfl, rfl, Below.refl _ _⟩) | (obtain ⟨hcW, hfW⟩ := JE hW; have hsW := hW.size; (try simp at hsW); (try have hsW0 := Jd hsW); (try (have hsW1 := Jc hsW; (try (have hsW2 := Jc hsW1)))); go_wp2_with fail; exact ⟨rfl, rfl, Jj⟩))))
  intro w3 hbw3
  (try simp only [Act.put, List.setIfInBounds_toArray, List.set_cons_zero, List.set_cons_succ])
  (try simp only [List.drop_succ_cons, List.drop_nil])
  have HT3 := hid ((hbw3.block w.heap.size (by simp)).trans (Je (w := w) (o := .cells #[.int .i64 0, .bool false, .int .i64 0, .string ⟨#[]⟩, .slice none 0 0, .slice none 0 0] 34) rfl));have hb0 : Below w.heap.size w w3 := Below.trans Jj (hbw3.mono (by simp));have HB3 := hid hb0;have HR3 := hid (H.out.below hb0);have l3 := Ja HT3.out;clear hbw3 hb0 a0 a1 a2 a3 a4 a5 af c0 c1 c2 cf lb lg
  go_wp2_with fail
  refine (Hv.out d y r2 m w3 hd1 hd9 hm HOk.out HN2.out HR3.out).mono ?_;intro e w5 hv5;obtain ⟨cs, L', m', f', rfl, ht, h5, h6, h7, h8⟩ := hv5;obtain ⟨u0, u1, u2, u3, U4, u4, u44, U5, u5, u55, rfl⟩ := ht
  have HV := hid (show OutI 67 b g N cap (nT + 1) res w3 (.returned (.agg #[.int .i64 u0, .bool u1, .int .i64 u2, .string u3, .slice U4 u4 u44, .slice U5 u5 u55])) w5 by
   rw [HF.out, <- HNT.out]
   exact ⟨_, L', m', f', rfl, ⟨u0, u1, u2, u3, U4, u4, u44, U5, u5, u55, rfl⟩, h5, h6, h7, h8⟩)
  have HT5 := hid ((h7.block _ l3 (by omega)).trans HT3.out);obtain ⟨x0, x1, x2, x3, x4, x5, xf⟩ := Jf HT5.out;have l5 := Ja HT5.out;clear h5 h6 h7 h8;go_wp2_with fail
  exact bodyPost_ret (v := .agg #[.int .i64 u0, .bool u1, .int .i64 u2, .string u3, .slice U4 u4 u44, .slice U5 u5 u55]) (by simp only [results, Tryz.results189]; go_simp) rfl (HV.out.close ((Aside.of_below HB3.out).mono (fun q (hq : q = b) => .inl hq)) QC l3 hlb hlg)
 have HF := hid (HRes.out.trans (if_neg hbl))
 have hq : (decide ((p : Int) < N) = false /\ decide (p < N) = false) ∨ (decide ((p : Int) < N) = true /\ decide (p < N) = true /\ ∃ (k : Nat), w.cell? ⟨g, p * 3, none⟩ = some (.int .i64 k) /\ decide ((i : Int) < (k : Int)) = false /\ decide (i < k) = false /\ (p : Int) < N /\ ∀ o, w.frozen? ⟨g, o, none⟩ = false) := by
  rcases r with _ | ⟨y, r2⟩
  ·exact .inl ⟨JmF (by simp at hpos; omega), JmF (by simp at hpos; omega)⟩
  obtain ⟨c0, c1, c2, cf⟩ := hbx.line y r2 rfl;rw [List.length_cons] at hpos;refine .inr ⟨JmG (by omega), JmG (by omega), y.ind, c0, JmF (fun h => hbl ?_), JmF (fun h => hbl ?_), by omega, cf⟩ <;> exact JmG (by omega)
 clear hbx hbl hpos;rcases hq with ⟨d2, d3⟩ | ⟨d2, d3, k, c0, d1, d4, hpN2, cf⟩
 all_goals
  go_enter Tryz.func189, Tryz.ntmps189
  go_wp2_with fail
  refine Jm 25 (by kernel_rfl) (by kernel_rfl) (by decide) ?_
  iterate 25 (apply Exists.intro; refine And.intro ?_ ?_; (focus (intro W hW; (try simp only [Act.put, List.setIfInBounds_toArray, List.set_cons_zero, List.set_cons_succ]); first | (exact wpList_skip rfl ⟨rfl, rfl, Below.refl _ _⟩) | (obtain ⟨hcW, hfW⟩ := JE hW; have hsW := hW.size; (try simp at hsW); (try have hsW0 := Jd hsW); (try (have hsW1 := Jc hsW; (try (have hsW2 := Jc hsW1)))); go_wp2_with fail; exact ⟨rfl, rfl, Jj⟩))))
  intro w3 hbw3
  (try simp only [Act.put, List.setIfInBounds_toArray, List.set_cons_zero, List.set_cons_succ])
  (try simp only [List.drop_succ_cons, List.drop_nil])
  have HT3 := hid ((hbw3.block w.heap.size (by simp)).trans (Je (w := w) (o := .cells #[.int .i64 0, .bool false, .int .i64 0, .string ⟨#[]⟩, .slice none 0 0, .slice none 0 0] 34) rfl));have hb0 : Below w.heap.size w w3 := Below.trans Jj (hbw3.mono (by simp));have HB3 := hid hb0;have HR3 := hid (H.out.below hb0);have l3 := Ja HT3.out;clear hbw3 hb0 a0 a1 a2 a3 a4 a5 af lb lg
  go_wp2_with fail
  refine (ZY b g N cap r m d a w3 HR3.out (by omega) (by omega)).mono ?_;rintro e w5 ⟨rfl, ⟨m5, hR5, hm5⟩, hA5⟩;have HT5 := hid ((hA5.block _ l3 (by omega)).trans HT3.out);obtain ⟨x0, x1, x2, x3, x4, x5, xf⟩ := Jf HT5.out;have l5 := Ja HT5.out;rcases ZP d m a with ⟨e1, e2⟩ | ⟨f, e1, e2, e3⟩
  ·have HV := hid (show OutI 67 b g N cap (nT + 1) res w3 (.returned (.agg #[.int .i64 1, .bool false, .int .i64 0, .string ⟨#[]⟩, .slice none 0 0, .slice none 0 0])) w5 by
    rw [HF.out, e1]
    exact ⟨_, r, m5, Qo d m a, rfl, ⟨_, _, _, _, _, _, _, _, _, _, rfl⟩, hR5, HOk.out, hA5.mono (fun q hq => .inl hq), e2, rfl, hm5 (by rw [e2]; rfl), Qr (by unfold QA; decide) (by unfold QA; decide) (by decide)⟩)
   have dt : decide ((Qo d m a).code = 0) = true := JmG (by rw [e2]; rfl);rw [dt];clear hR5 hA5 dt hm5 e1 e2;go_wp2_with fail
   exact bodyPost_ret (v := .agg #[.int .i64 1, .bool false, .int .i64 0, .string ⟨#[]⟩, .slice none 0 0, .slice none 0 0]) (by simp only [results, Tryz.results189]; go_simp) rfl (HV.out.close ((Aside.of_below HB3.out).mono (fun q (hq : q = b) => .inl hq)) QC l3 hlb hlg)
  have HV := hid (show OutI 67 b g N cap (nT + 1) res w3 (.returned (.agg #[.int .i64 0, .bool false, .int .i64 0, .string ⟨#[]⟩, .slice none 0 0, .slice none 0 0])) w5 by
   rw [HF.out, e1]
   exact ⟨_, r, m5, Qo d m a, rfl, ⟨_, _, _, _, _, _, _, _, _, _, rfl⟩, hR5, HOk.out, hA5.mono (fun q hq => .inl hq), e2, e3⟩)
  have dt : decide ((Qo d m a).code = 0) = false := JmF (by rw [e2]; exact e3);rw [dt];clear hR5 hA5 dt hm5 e1 e2 e3;go_wp2_with fail
  exact bodyPost_ret (v := .agg #[.int .i64 0, .bool false, .int .i64 0, .string ⟨#[]⟩, .slice none 0 0, .slice none 0 0]) (by simp only [results, Tryz.results189]; go_simp) rfl (HV.out.close ((Aside.of_below HB3.out).mono (fun q (hq : q = b) => .inl hq)) QC l3 hlb hlg)
theorem InAt.tellA {ty : TypeId} {b g N cap p : Nat} {x : LineD} {r : List LineD} {m k : Nat} {f : Flt} {w : World} (h : InAt ty b g N cap (x :: r) m f w) (hp : p + (x :: r).length = N) :
  InAt ty b g N cap (⟨x.ind, x.text, k⟩ :: r) m f (w.setCell ⟨g, p * 3 + 2, none⟩ (.int .i64 (k : Nat))) := by
 obtain ⟨p', cur, h1, h2, h3, h4, h5, h6, h7⟩ := h;obtain rfl : p' = p := by omega
 have k1 := heap_setCell_same w g (p' * 3 + 2) _ _ (.int .i64 (k : Nat)) h6;obtain ⟨e1, e2, e3⟩ := h7 0 x rfl;rw [Nat.add_zero] at e1 e2 e3;obtain ⟨l3, -⟩ := Array.getElem?_eq_some_iff.1 e3;refine ⟨p', _, h1, h2, h3, h4, ?_, k1, fun i y hy => ?_⟩
 ·rw [Below.heap_setCell _ _ _ _ (fun e => h4 e.symm)]
  exact h5
 rcases i with _ | i
 ·rw [List.getElem?_cons_zero] at hy
  cases hy
  rw [show p' + 0 = p' from rfl];exact ⟨by rw [Array.getElem?_setIfInBounds_ne (by omega)]; exact e1, by rw [Array.getElem?_setIfInBounds_ne (by omega)]; exact e2, Array.getElem?_setIfInBounds_self_of_lt l3⟩
 have := h7 (i + 1) y (by rw [List.getElem?_cons_succ] at hy ⊢; exact hy);exact ⟨by rw [Array.getElem?_setIfInBounds_ne (by omega)]; exact this.1, by rw [Array.getElem?_setIfInBounds_ne (by omega)]; exact this.2.1, by rw [Array.getElem?_setIfInBounds_ne (by omega)]; exact this.2.2⟩
theorem InAt.tell3 {ty : TypeId} {b g N cap p : Nat} {x : LineD} {r : List LineD} {m k a : Nat} {t : ByteArray} {f : Flt} {w : World} {z : Int} (h : InAt ty b g N cap (x :: r) m f w) (hp : p + (x :: r).length = N) (hz : z = (k : Nat)) :
  InAt ty b g N cap (⟨k, t, a⟩ :: r) m f (((w.setCell ⟨g, p * 3, none⟩ (.int .i64 z)).setCell ⟨g, p * 3 + 1, none⟩ (.string t)).setCell ⟨g, p * 3 + 2, none⟩ (.int .i64 (a : Nat))) :=
 InAt.tellA (InAt.tellT (InAt.tellI h hp hz) hp) hp
def Xi (f : Flt) (L : List LineD) : ByteArray := if f.code = 0 then (match L with
  | [] => ⟨#[]⟩
  | x :: _ => x.text) else ⟨#[]⟩
theorem Jdh (f : Flt) (L : List LineD) : ∃ (k a : Int), Jav f L = #[.int .i64 k, .string (Xi f L), .int .i64 a] := by
 unfold Jav Xi;split
 ·rcases L with _ | ⟨x, r⟩
  ·exact ⟨_, _, rfl⟩
  exact ⟨_, _, rfl⟩
 exact ⟨_, _, rfl⟩
end Go.Proofs.YtohcpifekcehjaaGreatDoor
