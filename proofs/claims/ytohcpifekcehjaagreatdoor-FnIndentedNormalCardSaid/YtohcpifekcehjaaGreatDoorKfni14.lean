/- Steps to FnIndentedNormal. No conditions. -/
import Derived.Test.YtohcpifekcehjaaGreatDoorKfni13
set_option maxHeartbeats 16000000
set_option maxRecDepth 20000
namespace Go.Proofs.YtohcpifekcehjaaGreatDoor
open Go.RowKit Go.Lib
theorem Jcd {f : Flt} {L : List LineD} (h : InOk L) : (Xi f L).size <= 20000 := by
 unfold Xi;split
 ·rcases L with _ | ⟨x, r⟩
  ·exact Nat.zero_le _
  have := h.head.1; show x.text.size <= 20000; omega
 exact Nat.zero_le _
theorem Jil {i d : Nat} {acc : List TreeD} {L : List LineD} {m k : Nat} {r : ResI} (h1 : JG (.list i d acc) L <= k) (hr : r = Jn k (.list i d acc) L m) (hs : QU Jv L i = false ∨ Jy (Xi Jv L) = none) : r = .good (JY acc) L m := by
 obtain ⟨k1, rfl⟩ : ∃ k1, k = k1 + 1 := ⟨k - 1, by unfold JG at h1; simp only at h1; omega⟩
 rcases L with _ | ⟨x, t⟩
 ·rw [hr, UM]
 by_cases hxi : x.ind = i
 ·rw [hr, Vb, if_neg (fun e => e hxi)]
  rcases hs with h | h
  ·have : QU Jv (x :: t) i = true := by
    show (decide (Jv.code = 0) && decide (x.ind = i)) = true
    rw [JmG hxi]; rfl
   rw [this] at h;cases h
  have h2 : Jy x.text = none := h;rw [h2]
 rw [hr, Vb, if_pos hxi]
theorem Jg6 (b g N cap n : Nat) (hbl : ∀ k, k < n -> Jjv b g N cap k) (hv : ∀ k, k < n -> JjX b g N cap k) : JlO b g N cap n := by
 intro i d L0 m0 w hd1 hd8 hm0 hok0 hn h;obtain ⟨i0, hi, hz0, hz1, hz2⟩ := info_parts (show (Tryz.prog.info? 34).map (fun i => (i.zero, i.size, i.bytes)) = some (some (.agg #[.int .i64 0, .bool false, .int .i64 0, .string ⟨#[]⟩, .slice none 0 0, .slice none 0 0]), 6, 88) from by kernel_rfl);have HRd := hid h;have Hv := hid hv;have Hbl := hid hbl;have HI0 := hid hi;have hlb := h.lt.1
 have hlg := h.lt.2;obtain ⟨nT, hnT⟩ : ∃ k, 10 - d = k + 1 := ⟨9 - d, by omega⟩
 have HNT := hid (show 10 - (d + 1) = nT by omega);obtain ⟨r, hr⟩ : ∃ r, r = Jn n (.list i d []) L0 m0 := ⟨_, rfl⟩
 rw [<- hr, hnT];have HR := hid hr;have HOk0 := hid hok0;have HN := hid hn;clear hr h hv hbl hi hnT hok0 hn;go_enter Tryz.func111, Tryz.ntmps111
 go_wp2_with fail
 go_loopw [] (fun wr => Jkh 67 b g N cap i n d nT r w wr) (fun wr => inM N b wr)
 case atStart =>
  refine ⟨some [], .slice none 0 0, [], L0, m0, Jv, ⟨?_, ?_, Aside.of_below Jj⟩, KidsE.nil _ _ _, HRd.out.below Jj, HOk0.out, Nat.zero_le _, rfl, hm0, Nat.zero_le _, n, HN.out, Nat.le_refl _, HR.out⟩
  ·exact (Below.heap_alloc _ _ _ (by simp)).trans (Je (by simp))
  exact Je (by simp)
 case round =>
  obtain ⟨c, v, ess, L, m, f, hLb, hK, hRr, hok, hlen, hst⟩ := hrel;obtain ⟨VA, vc, rfl⟩ := hK.form;have HLb := hid hLb;have HK := hid hK;have HRr := hid hRr;have HOk := hid hok;have HSt := hid hst;have htz := Jcd (f := f) hok;obtain ⟨tx, htx⟩ : ∃ tx, tx = Xi f L := ⟨_, rfl⟩
  obtain ⟨lk, la, hln⟩ := Jdh f L;rw [<- htx] at hln htz;have HLn := hid hln;have HI := hid (fun W => Yc tx W (by omega));have HTx := hid htx;clear hst hok hln htx;go_wp2_with fail
  refine (Jbr b g N cap L m i f wr HRr.out).mono ?_;rintro e w1 ⟨rfl, hb1⟩;rw [HLn.out];have HLb1 := hid (HLb.out.same (Aside.of_below (S := fun q => q = b) hb1) (fun q hq => .inl hq) hlb hlg);have HK1 := hid (HK.out.carry hb1.size (fun q _ h2 => hb1.block q h2));have HR1 := hid (HRr.out.below hb1);have HB1 := hid hb1;clear hb1 hLb hK hRr;obtain ⟨x0, x1, x2, x3, x4, x5, xf⟩ := Jf HLb1.out.zero
  obtain ⟨y0, y1, y2, y3, y4, y5, yf⟩ := Jf HLb1.out.list;have l0 := Ja HLb1.out.zero;have l1 := Ja HLb1.out.list;go_wp2_with fail
  by_cases hs : QU f L i = true /\ (Jy tx).isSome = true
  rotate_left
  ·obtain ⟨rt, kt, qt, hiv, hqt⟩ : ∃ (rt : ByteArray) (kt : Int) (qt : Bool), Jhx (Jy tx) = .tuple #[.string rt, .int .i64 kt, .bool qt] /\ qt = (Jy tx).isSome := by
    rcases Jy tx with _ | ⟨rest, kk⟩
    all_goals
     exact ⟨_, _, _, rfl, rfl⟩
   rw [hiv] at HI
   have HF : Hid (match c with | some acc => f = Jv /\ r = .good (JY acc) L m | none => f.code ≠ 0 /\ r = .bad f) := hid (by
    rcases c with _ | acc
    ·exact HSt.out
    obtain ⟨e1, -, -, k, hk, -, hr⟩ := HSt.out;refine ⟨e1, Jil hk hr ?_⟩;subst e1;rw [<- HTx.out];rcases hh : QU Jv L i with _ | _
    ·exact .inl rfl
    refine .inr ?_;rcases hi2 : Jy tx with _ | z
    ·rfl
    exact absurd ⟨hh, by rw [hi2]; rfl⟩ hs)
   obtain ⟨qh, hqh⟩ : ∃ qh, qh = QU f L i := ⟨_, rfl⟩
   rw [<- hqh, <- hqt] at hs;rw [<- hqh];clear hqh hqt hiv;refine (HI.out _).mono ?_;rintro e w2 ⟨rfl, rfl⟩;rcases qh with _ | _ <;> rcases qt with _ | _
   rotate_right
   ·exact absurd ⟨rfl, rfl⟩ hs
   all_goals
    clear hs;go_wp2_with fail
    exact bodyPost_ret (v := .agg #[.int .i64 5, .bool false, .int .i64 0, .string ⟨#[]⟩, .slice none 0 0, .slice VA ess.length vc]) (by simp only [results, Tryz.results111]; go_simp) rfl (U0 rfl hlb hlg HLb1.out HK1.out HR1.out HOk.out (by have hq := HF.out; rcases c with _ | acc <;> exact hq) QC)
  -- a round that reads
  obtain ⟨hh, his⟩ := hs;rcases c with _ | acc
  ·exfalso
   have h0 := HSt.out.1;unfold QU at hh;rw [JmF h0] at hh;cases hh
  obtain ⟨rfl, hm, hac, k, hk1, hkn, hrr⟩ := HSt.out;rcases L with _ | ⟨x, t⟩
  ·cases hh
  have hxi : x.ind = i := by
   have h2 : (decide (Jv.code = 0) && decide (x.ind = i)) = true := hh;rw [Bool.and_eq_true] at h2;exact of_decide_eq_true h2.2
  rw [hh];have e := HLn.out.symm.trans (Jab (f := Jv) (x := x) (L := t) rfl);simp only [Array.mk.injEq, List.cons.injEq, Value.int.injEq, Value.string.injEq, true_and, and_true] at e;obtain ⟨rfl, rfl, rfl⟩ := e;have HJ := hid hrr;have HNk := hid hk1;have hel := (HK1.out.good acc rfl).1;clear HSt HTx hh hrr hk1 HLn;obtain ⟨k1, hk1⟩ : ∃ k1, k = k1 + 1 := ⟨k - 1, by have h1 := HNk.out; unfold JG at h1; simp only at h1; omega⟩
  have hj2 : r = (match Jy x.text with
   | none => .good (JY acc) (x :: t) m
   | some (rest, kk) => match Yz k1 i d x t rest kk m with
    | .bad f => .bad f
    | .good u L' m' => Jn k1 (.list i d (acc ++ [u])) L' m') := by rw [HJ.out, hk1, Vb, if_neg (fun e => e hxi)]; rfl
  have hkk1 : k1 < n := by omega
  have HXI := hid hxi;have hxo := HOk.out.head;have hxz := hxo.1;have HXO := hid hxo;have hne := HNk.out;rw [hk1] at hne;have HNe := hid hne;rcases hit : Jy x.text with _ | ⟨rest, kk⟩
  ·rw [hit] at his; cases his
  rw [hit] at hj2;simp only at hj2;have HX := hid hj2;have hrest := Jdo hit hxo.2.2
  have hi1 : ∀ W, Calls Tryz.prog 110 #[.string x.text] W fun e w' => e = .returned (.tuple #[.string rest, .int .i64 kk, .bool true]) /\ W = w' := fun W => by
   have h := HI.out W;rw [hit] at h;exact h
  have HI1 := hid hi1;have HRe := hid hrest;clear hj2 hk1 hxi hxo HJ HNk hne hit hi1 hrest his HI;refine (HI1.out _).mono ?_;rintro e w2 ⟨rfl, rfl⟩;obtain ⟨wd, hwd⟩ : ∃ W, W = w1.alloc (.cells #[.int .i64 (x.ind : Nat), .string x.text, .int .i64 (x.at' : Nat)] 59) := ⟨_, rfl⟩
  have hbd : Below w1.heap.size w1 wd := by rw [hwd]; exact Jj
  have hXd : wd.heap[w1.heap.size]? = some (.cells #[.int .i64 (x.ind : Nat), .string x.text, .int .i64 (x.at' : Nat)] 59 (0, 0)) := by rw [hwd]; exact Je rfl
  rw [<- hwd];have HXd := hid hXd;have lxd := Ja hXd;have HLb1 := hid (HLb1.out.same (Aside.of_below (S := fun q => q = b) hbd) (fun q hq => .inl hq) hlb hlg);have HK1 := hid (HK1.out.carry hbd.size (fun q _ h2 => hbd.block q h2));have HR1 := hid (HR1.out.below hbd);clear hXd hbd hwd x0 x1 x2 x3 x4 x5 xf y0 y1 y2 y3 y4 y5 yf;obtain ⟨v0, v1, v2, vf⟩ := Qi HXd.out;rcases HRe.out with ⟨hk0, hre⟩ | ⟨hk2, hks, hend⟩
  ·obtain rfl := hk0
   obtain rfl := hre;obtain ⟨p, hbx⟩ := HR1.out.open;obtain ⟨a0, a1, a2, a3, a4, a5, af⟩ := Jf hbx.row;have lb := Ja hbx.row;have hpN : (p : Int) < N := by have := hbx.pos; rw [List.length_cons] at this; omega
   have hp0 : (0 : Int) <= p := by omega
   have hN2 := hbx.small;have HPos := hid hbx.pos;clear hbx;go_upto_region 8 with fail
   obtain ⟨w3, hw3⟩ : ∃ W, W = wd.setCell ⟨b, 1, none⟩ (.int .i64 ((p : Int) + 1)) := ⟨_, rfl⟩
   rw [<- hw3];have hA3 : Aside (fun q => q = b) wd w3 := by rw [hw3]; exact Jk rfl (Aside.refl _ _)
   have hX3 := (hA3.block _ lxd (by omega)).trans HXd.out;have HR1 := hid (show InAt 67 b g N cap t m Jv w3 by rw [hw3]; exact HR1.out.next HPos.out);have HLb1 := hid (HLb1.out.same hA3 (fun q hq => .inl hq) hlb hlg);have HK1 := hid (HK1.out.carry hA3.size (fun q h1 h2 => hA3.block q h2 (by omega)));have lx3 := Ja hX3;clear hw3 hA3 v0 v1 v2 vf a0 a1 a2 a3 a4 a5 af lb;obtain ⟨v0, v1, v2, vf⟩ := Qi hX3
   clear hX3;have hdd : IntKind.i64.wrap ((d : Int) + 1) = ((d + 1 : Nat) : Int) := by rw [IntKind.wrap_i64] <;> omega
   have hx2 : r = (match Jn k1 (.below i (d + 1) x.at') t m with
    | .bad f => .bad f
    | .good u L' m' => Jn k1 (.list i d (acc ++ [u])) L' m') := by
    have h := HX.out;unfold Yz at h;rw [if_pos rfl] at h;exact h
   have HX2 := hid hx2
   have hC : ∀ (W : World), InAt 67 b g N cap t m Jv W -> Calls Tryz.prog 189 #[.pointer (some ⟨b, 0, none⟩), .int .i64 i, .int .i64 ((d + 1 : Nat) : Int), .int .i64 (x.at' : Nat)] W (OutI 67 b g N cap (10 - (d + 1)) (Jn k1 (.below i (d + 1) x.at') t m) W) := fun W h2 =>
    Hbl.out k1 hkk1 i (d + 1) x.at' t m W (by omega) (by omega) hm HOk.out.tail (by have := HNe.out; unfold JG at this ⊢; simp only [J0] at this ⊢; omega) h2
   have HC := hid hC;have hgrow : ∀ (t' : TreeD) (L' : List LineD) (m' : Nat), Jn k1 (.below i (d + 1) x.at') t m = .good t' L' m' -> m + 1 <= m' /\ m' <= 300 := fun _ _ _ h => U7 h hm (by omega)
   have hlen' : ∀ (t' : TreeD) (L' : List LineD) (m' : Nat), Jn k1 (.below i (d + 1) x.at') t m = .good t' L' m' -> L'.length <= t.length := fun _ _ _ h => Ub h
   have hneed : ∀ (t' : TreeD) (L' : List LineD) (m' : Nat), Jn k1 (.below i (d + 1) x.at') t m = .good t' L' m' -> JG (.list i d (acc ++ [t'])) L' <= k1 := fun _ _ _ h => by
    have h1 := (J9 _ _ _ _ _ _ _ h).1;have h2 := HNe.out;unfold JG at h2 ⊢;simp only [J0] at h2 ⊢;omega
   have HG := hid hgrow;have HLn := hid hlen';have HNd := hid hneed;clear hx2 hC hgrow hlen' hneed;obtain ⟨y0, y1, y2, y3, y4, y5, yf⟩ := Jf HLb1.out.list;have ly := Ja HLb1.out.list;have lz := Ja HLb1.out.zero;obtain ⟨rb, hrb⟩ : ∃ rb, rb = (Value.slice VA ess.length vc).ownBlock := ⟨_, rfl⟩
   have hrl : ∀ q, rb = some q -> w.heap.size + 2 <= q /\ q < w3.heap.size := fun q hq => ⟨(HK1.out.row.lt q (by rw [<- hrb]; exact hq)).1, HK1.out.hi q (by rw [<- hrb]; exact hq)⟩
   have hn0 : rb ≠ some w.heap.size := fun h => by have := (hrl _ h).1; omega
   have hn1 : rb ≠ some (w.heap.size + 1) := fun h => by have := (hrl _ h).1; omega
   have Hrl := hid hrl;have Hr := hid hrb;have hb0 : ¬ (w.heap.size = b ∨ w.heap.size = g) := by omega
   have hb1 : ¬ (w.heap.size + 1 = b ∨ w.heap.size + 1 = g) := by omega
   have hsb : ∀ q, (q = b ∨ q = g) -> q < w.heap.size + 2 := fun q hq => by omega
   obtain ⟨el, hel2⟩ : ∃ el, el = ess.length := ⟨_, rfl⟩
   have HEl := hid hel2;clear hrl hrb hel2;obtain ⟨dz, hdz⟩ : ∃ dz : Int, dz = ((d + 1 : Nat) : Int) := ⟨_, rfl⟩
   rw [<- hdz] at hdd HC;clear hdz;go_region_law (first | (go_simp; go_at_call 189; refine (HC.out _ (HR1.out.below Jj)).mono ?_; intro e9 w9 hv9; obtain ⟨cs9, L9, m9, f9, rfl, ht9, hR9, hok9, hA9, hm9⟩ := hv9; obtain ⟨u0, u1, u2, u3, U4, u4, u44, U5, u5, u55, rfl⟩ := ht9; obtain ⟨-, -, -, -, -, p5, -⟩ := Jf ((hA9.block (w.heap.size + 1) ly hb1).trans HLb1.out.list); have l9 : w.heap.size + 1 < w9.heap.size := Nat.lt_of_lt_of_le ly hA9.size; have Hone := hid (TreeV.one ⟨u0, u1, u2, u3, U4, u4, u44, U5, u5, u55, rfl⟩)) | (refine step_append_lies _ rfl _ _ 32 rfl (w.heap.size + 2) 34 i0 (.agg #[.int .i64 0, .bool false, .int .i64 0, .string ⟨#[]⟩, .slice none 0 0, .slice none 0 0]) 6 88 Tryz.underlying32 HI0.out hz0 hz1 hz2 rfl (by decide) _ ess.length ess.flatten rfl (JhB HK1.out.row hA9 rfl hsb rfl) ⟨w9.heap.size, 0, none⟩ 1 1 [.int .i64 u0, .bool u1, .int .i64 u2, .string u3, .slice U4 u4 u44, .slice U5 u5 u55] rfl rfl (World.news_of_block (heap_alloc_new w9 _)) Hone.out (by decide) (by unfold maxLen; omega) (by omega) (by have := hA9.size; simp at this ⊢; omega) _ rfl ?_; intro g2 cap2 w2 hown2 hgrow2 hat2 hlt2; obtain ⟨-, -, -, -, -, q5, qf⟩ := Jf ((Yx ly hA9 rfl hgrow2 Hr.out hn1 hb1).trans HLb1.out.list)))
   all_goals
    have RT2 := (Yx ly hA9 rfl hgrow2 Hr.out hn1 hb1).trans HLb1.out.list;have RZ2 := (Yx lz hA9 rfl hgrow2 Hr.out hn0 hb0).trans HLb1.out.zero;have hgA : Aside (fun q => some q = rb) w9 w2 := Aside.trans (Vn (Aside.refl _ _)) ⟨hgrow2.os, hgrow2.tape, hgrow2.output, hgrow2.size, fun q h1 h2 => hgrow2.block q h1 (fun h => h2 (h.trans Hr.out.symm))⟩;have hF2 : Aside (fun q => q = b ∨ q = g ∨ w.heap.size <= q) w w2 := (HLb1.out.aside.join (Aside.trans (Aside.of_below (Jj : Below w3.heap.size w3 _)) hA9) (fun q hq _ => by omega)).join hgA (fun q hq _ => .inr (.inr (by have := (Hrl.out q hq.symm).1; omega)))
    have hR2 := hR9.past hgA (fun hq => by have := (Hrl.out _ hq.symm).1; omega) (fun hq => by have := (Hrl.out _ hq.symm).1; omega);have hl2 := Ja RT2;have hs9 : w3.heap.size <= w9.heap.size := hA9.size;have hs2 : w9.heap.size + 1 <= w2.heap.size := by have := hgrow2.size; simp at this; omega
    have hkp : ∀ q, w.heap.size + 2 <= q -> q < w3.heap.size -> (Value.slice VA ess.length vc).ownBlock ≠ some q -> w2.heap[q]? = w3.heap[q]? := fun q h1 h2 h3 => Yx h2 hA9 rfl hgrow2 Hr.out (by rw [Hr.out]; exact h3) (by omega)
    have h29 : ∀ q, w3.heap.size <= q -> q < w9.heap.size -> w2.heap[q]? = w9.heap[q]? := fun q h1 h2 => (hgrow2.block q (by simp; omega) (fun e => by have := (Hrl.out q (by rw [Hr.out]; exact e.symm)).2; omega)).trans (Below.heap_alloc _ _ _ h2)
    have Hp := hid (KidsE.push (t := JeV (Jn k1 (.below i (d + 1) x.at') t m)) (s9 := w9.heap.size) HK1.out rfl hkp (by omega) hs9 (by omega) (fun u hu => by
      rcases hres : (Jn k1 (.below i (d + 1) x.at') t m) with f' | ⟨t', L', m'⟩
      ·rw [hres] at hu; cases hu
      rw [hres] at hu hm9;cases hu
      exact (hm9.2.2.2.up (show 10 - (d + 1) <= nT by rw [HNT.out]; exact Nat.le_refl _)).carry (fun q hq => h29 q hq.1 hq.2) (fun q hq => ⟨by have := hq.1; (try simp at this); omega, hq.2⟩)) hown2 (by rcases hat2 with h | h; exact .inl h; exact .inr (by simp at h ⊢; omega)) hlt2)
    have Hm9 := hid hm9;go_wp2_with fail
    go_roundw
    case rel =>
     refine ⟨Jfg (some acc) (JeV (Jn k1 (.below i (d + 1) x.at') t m)), .slice (some ⟨g2, 0, none⟩) (ess.length + 1) cap2, ess ++ [[.int .i64 u0, .bool u1, .int .i64 u2, .string u3, .slice U4 u4 u44, .slice U5 u5 u55]], L9, m9, f9, ⟨(Below.heap_setCell _ _ _ _ (by simp)).trans RZ2, heap_setCell_same w2 (w.heap.size + 1) 5 _ _ _ RT2, Jk (.inr (.inr (by simp))) hF2⟩, Hp.out.carry (by simp) (fun x h1 _ => Below.heap_setCell _ _ _ _ (by simp; omega)), hR2.past (S := fun q => q = w.heap.size + 1) (Jk rfl (Aside.refl _ _)) (fun hq => by omega) (fun hq => by omega), hok9, by simp; omega, ?_⟩
     have hx := HX2.out;have hm := Hm9.out;rcases hres : (Jn k1 (.below i (d + 1) x.at') t m) with f' | ⟨t', L', m'⟩
     ·rw [hres] at hm hx
      exact ⟨by rw [hm.1]; exact hm.2, by rw [hm.1]; exact hx⟩
     rw [hres] at hm hx;obtain ⟨e1, e2, e3, -⟩ := hm;have hgw := HG.out _ _ _ hres;have hnl := HNd.out _ _ _ hres;rw [e2, e3];exact ⟨e1, hgw.2, by simp; omega, k1, hnl, by omega, hx⟩
    case measure =>
     have hm := Hm9.out;have hme := (hR2.past (S := fun q => q = w.heap.size + 1) (Jk (u := .slice (some ⟨g2, 0, none⟩) (ess.length + 1) cap2) (p := ⟨w.heap.size + 1, 5, none⟩) rfl (Aside.refl _ w2)) (fun hq => by omega) (fun hq => by omega)).meas;rw [hme, HRr.out.meas, if_pos (show Jv.code = 0 from rfl)];rcases hres : (Jn k1 (.below i (d + 1) x.at') t m) with f' | ⟨t', L', m'⟩
     ·rw [hres] at hm
      rw [hm.1, if_neg hm.2];omega
     rw [hres] at hm;rw [hm.1, hm.2.1, if_pos (show Jv.code = 0 from rfl)];have := HLn.out _ _ _ hres;simp only [List.length_cons];omega
  ·have hdd : IntKind.i64.wrap ((d : Int) + 1) = ((d + 1 : Nat) : Int) := by rw [IntKind.wrap_i64] <;> omega
   have hre : (rest.toList == []) = false := by
    have h1 := hend.1;rw [ByteArray.toList_eq];cases hl : rest.data.toList with
    | nil => rw [<- Jp, hl] at h1; exact absurd h1 (by simp)
    | cons _ _ => rfl
   have hre2 : rest.toList.isEmpty = false := by
    have h1 := hend.1;rw [ByteArray.toList_eq];cases hl : rest.data.toList with
    | nil => rw [<- Jp, hl] at h1; exact absurd h1 (by simp)
    | cons _ _ => rfl
   have hx2 : r = (match Jn k1 (.value (d + 1)) (⟨i + kk, rest, x.at'⟩ :: t) m with
    | .bad f => .bad f
    | .good u L' m' => Jn k1 (.list i d (acc ++ [u])) L' m') := by
    have h := HX.out;unfold Yz at h;rw [if_neg (by omega)] at h;exact h
   have hxo := HXO.out;have hok2 : InOk (⟨i + kk, rest, x.at'⟩ :: t) := InOk.cons HOk.out.tail ⟨by have := hxo.1; have := HXI.out; show i + kk + rest.size <= 20000; omega, hxo.2.1, hend⟩
   have hnv : JG (.value (d + 1)) (⟨i + kk, rest, x.at'⟩ :: t) <= k1 := by
    have := HNe.out;unfold JG at this ⊢;simp only [J0] at this ⊢;omega
   have HX2 := hid hx2;have HOk2 := hid hok2;have hikz : ((i + kk : Nat) : Int) = (i : Int) + kk := by omega
   have hik : (i : Int) + kk <= 20000 := by have := hxo.1; have := HXI.out; omega
   have HIK := hid hikz
   have hC : ∀ (W : World), InAt 67 b g N cap (⟨i + kk, rest, x.at'⟩ :: t) m Jv W -> Calls Tryz.prog 55 #[.pointer (some ⟨b, 0, none⟩), .int .i64 ((d + 1 : Nat) : Int)] W (OutI 67 b g N cap (10 - (d + 1)) (Jn k1 (.value (d + 1)) (⟨i + kk, rest, x.at'⟩ :: t) m) W) := fun W h2 =>
    Hv.out k1 hkk1 (d + 1) _ t m W (by omega) (by omega) hm HOk2.out hnv h2
   have HC := hid hC;have hgrow : ∀ (t' : TreeD) (L' : List LineD) (m' : Nat), Jn k1 (.value (d + 1)) (⟨i + kk, rest, x.at'⟩ :: t) m = .good t' L' m' -> m + 1 <= m' /\ m' <= 300 := fun _ _ _ h => JbU h hm (by omega)
   have hlen' : ∀ (t' : TreeD) (L' : List LineD) (m' : Nat), Jn k1 (.value (d + 1)) (⟨i + kk, rest, x.at'⟩ :: t) m = .good t' L' m' -> L'.length <= t.length := fun _ _ _ h => by have := Uo h; simp at this; omega
   have hneed : ∀ (t' : TreeD) (L' : List LineD) (m' : Nat), Jn k1 (.value (d + 1)) (⟨i + kk, rest, x.at'⟩ :: t) m = .good t' L' m' -> JG (.list i d (acc ++ [t'])) L' <= k1 := fun _ _ _ h => by
    have h1 := (J9 _ _ _ _ _ _ _ h).1;unfold JG at hnv ⊢;simp only [J0] at h1 hnv ⊢;omega
   have HG := hid hgrow;have HLn := hid hlen';have HNd := hid hneed;have hxi := HXI.out;clear hx2 hC hgrow hlen' hneed hok2 hxo hikz hnv;obtain ⟨p, hbx⟩ := HR1.out.open;have HPos := hid hbx.pos;obtain ⟨a0, a1, a2, a3, a4, a5, af⟩ := Jf hbx.row;have lb := Ja hbx.row;obtain ⟨c0, c1, c2, cf⟩ := hbx.line x t rfl;have lg := hbx.lines;have hpN : (p : Int) < N := by have := hbx.pos; rw [List.length_cons] at this; omega
   have hp0 : (0 : Int) <= p := by omega
   have hcap := hbx.cap';have hgb := hbx.ne;have hN2 := hbx.small;clear hbx;have hwik : IntKind.i64.wrap ((i : Int) + (kk : Int)) = ((i + kk : Nat) : Int) := by rw [IntKind.wrap_i64] <;> omega
   have HWik := hid hwik;clear hwik;have h20 : ((kk : Int) == 0) = false := JmH (by omega);go_upto_region 9 with fail
   go_cut [] from 55 to 70 (fun wx => InAt 67 b g N cap (⟨i + kk, rest, x.at'⟩ :: t) m Jv wx /\ Aside (fun q => q = g) wd wx)
   case first =>
    go_region_law (fail)
    all_goals
     (try go_wp2_with fail)
     go_meet
     exact ⟨(InAt.tell3 HR1.out HPos.out HWik.out).below Jj, (Jk (S := fun q => q = g) rfl (Jk rfl (Jk rfl (Aside.refl _ _)))).trans (Aside.of_below Jj)⟩
   case rest =>
    obtain ⟨hR8, hA8⟩ := hcut;have HLb1 := hid (HLb1.out.same hA8 (fun q hq => .inr (.inl hq)) hlb hlg);have HK1 := hid (HK1.out.carry hA8.size (fun q h1 h2 => hA8.block q h2 (by omega)));have HR1 := hid hR8;clear hR8 hA8 a0 a1 a2 a3 a4 a5 af c0 c1 c2 cf lb lg v0 v1 v2 vf;obtain ⟨y0, y1, y2, y3, y4, y5, yf⟩ := Jf HLb1.out.list;have ly := Ja HLb1.out.list;have lz := Ja HLb1.out.zero
    obtain ⟨rb, hrb⟩ : ∃ rb, rb = (Value.slice VA ess.length vc).ownBlock := ⟨_, rfl⟩
    have hrl : ∀ q, rb = some q -> w.heap.size + 2 <= q /\ q < wc.heap.size := fun q hq => ⟨(HK1.out.row.lt q (by rw [<- hrb]; exact hq)).1, HK1.out.hi q (by rw [<- hrb]; exact hq)⟩
    have hn0 : rb ≠ some w.heap.size := fun h => by have := (hrl _ h).1; omega
    have hn1 : rb ≠ some (w.heap.size + 1) := fun h => by have := (hrl _ h).1; omega
    have Hrl := hid hrl;have Hr := hid hrb;have hb0 : ¬ (w.heap.size = b ∨ w.heap.size = g) := by omega
    have hb1 : ¬ (w.heap.size + 1 = b ∨ w.heap.size + 1 = g) := by omega
    have hsb : ∀ q, (q = b ∨ q = g) -> q < w.heap.size + 2 := fun q hq => by omega
    obtain ⟨el, hel2⟩ : ∃ el, el = ess.length := ⟨_, rfl⟩
    have HEl := hid hel2;clear hrl hrb hel2;obtain ⟨dz, hdz⟩ : ∃ dz : Int, dz = ((d + 1 : Nat) : Int) := ⟨_, rfl⟩
    rw [<- hdz] at hdd HC;clear hdz;go_upto_region 10 with fail
    go_region_law (first | (go_simp; go_at_call 55; refine (HC.out _ (HR1.out.below Jj)).mono ?_; intro e9 w9 hv9; obtain ⟨cs9, L9, m9, f9, rfl, ht9, hR9, hok9, hA9, hm9⟩ := hv9; obtain ⟨u0, u1, u2, u3, U4, u4, u44, U5, u5, u55, rfl⟩ := ht9; obtain ⟨-, -, -, -, -, p5, -⟩ := Jf ((hA9.block (w.heap.size + 1) ly hb1).trans HLb1.out.list); have l9 : w.heap.size + 1 < w9.heap.size := Nat.lt_of_lt_of_le ly hA9.size; have Hone := hid (TreeV.one ⟨u0, u1, u2, u3, U4, u4, u44, U5, u5, u55, rfl⟩)) | (refine step_append_lies _ rfl _ _ 32 rfl (w.heap.size + 2) 34 i0 (.agg #[.int .i64 0, .bool false, .int .i64 0, .string ⟨#[]⟩, .slice none 0 0, .slice none 0 0]) 6 88 Tryz.underlying32 HI0.out hz0 hz1 hz2 rfl (by decide) _ ess.length ess.flatten rfl (JhB HK1.out.row hA9 rfl hsb rfl) ⟨w9.heap.size, 0, none⟩ 1 1 [.int .i64 u0, .bool u1, .int .i64 u2, .string u3, .slice U4 u4 u44, .slice U5 u5 u55] rfl rfl (World.news_of_block (heap_alloc_new w9 _)) Hone.out (by decide) (by unfold maxLen; omega) (by omega) (by have := hA9.size; simp at this ⊢; omega) _ rfl ?_; intro g2 cap2 w2 hown2 hgrow2 hat2 hlt2; obtain ⟨-, -, -, -, -, q5, qf⟩ := Jf ((Yx ly hA9 rfl hgrow2 Hr.out hn1 hb1).trans HLb1.out.list)))
    all_goals
     have RT2 := (Yx ly hA9 rfl hgrow2 Hr.out hn1 hb1).trans HLb1.out.list;have RZ2 := (Yx lz hA9 rfl hgrow2 Hr.out hn0 hb0).trans HLb1.out.zero;have hgA : Aside (fun q => some q = rb) w9 w2 := Aside.trans (Vn (Aside.refl _ _)) ⟨hgrow2.os, hgrow2.tape, hgrow2.output, hgrow2.size, fun q h1 h2 => hgrow2.block q h1 (fun h => h2 (h.trans Hr.out.symm))⟩;have hF2 : Aside (fun q => q = b ∨ q = g ∨ w.heap.size <= q) w w2 := (HLb1.out.aside.join (Aside.trans (Aside.of_below (Jj : Below wc.heap.size wc _)) hA9) (fun q hq _ => by omega)).join hgA (fun q hq _ => .inr (.inr (by have := (Hrl.out q hq.symm).1; omega)))
     have hR2 := hR9.past hgA (fun hq => by have := (Hrl.out _ hq.symm).1; omega) (fun hq => by have := (Hrl.out _ hq.symm).1; omega);have hl2 := Ja RT2;have hs9 : wc.heap.size <= w9.heap.size := hA9.size;have hs2 : w9.heap.size + 1 <= w2.heap.size := by have := hgrow2.size; simp at this; omega
     have hkp : ∀ q, w.heap.size + 2 <= q -> q < wc.heap.size -> (Value.slice VA ess.length vc).ownBlock ≠ some q -> w2.heap[q]? = wc.heap[q]? := fun q h1 h2 h3 => Yx h2 hA9 rfl hgrow2 Hr.out (by rw [Hr.out]; exact h3) (by omega)
     have h29 : ∀ q, wc.heap.size <= q -> q < w9.heap.size -> w2.heap[q]? = w9.heap[q]? := fun q h1 h2 => (hgrow2.block q (by simp; omega) (fun e => by have := (Hrl.out q (by rw [Hr.out]; exact e.symm)).2; omega)).trans (Below.heap_alloc _ _ _ h2)
     have Hp := hid (KidsE.push (t := JeV (Jn k1 (.value (d + 1)) (⟨i + kk, rest, x.at'⟩ :: t) m)) (s9 := w9.heap.size) HK1.out rfl hkp (by omega) hs9 (by omega) (fun u hu => by
       rcases hres : (Jn k1 (.value (d + 1)) (⟨i + kk, rest, x.at'⟩ :: t) m) with f' | ⟨t', L', m'⟩
       ·rw [hres] at hu; cases hu
       rw [hres] at hu hm9;cases hu
       exact (hm9.2.2.2.up (show 10 - (d + 1) <= nT by rw [HNT.out]; exact Nat.le_refl _)).carry (fun q hq => h29 q hq.1 hq.2) (fun q hq => ⟨by have := hq.1; (try simp at this); omega, hq.2⟩)) hown2 (by rcases hat2 with h | h; exact .inl h; exact .inr (by simp at h ⊢; omega)) hlt2)
     have Hm9 := hid hm9;go_wp2_with fail
     go_roundw
     case rel =>
      refine ⟨Jfg (some acc) (JeV (Jn k1 (.value (d + 1)) (⟨i + kk, rest, x.at'⟩ :: t) m)), .slice (some ⟨g2, 0, none⟩) (ess.length + 1) cap2, ess ++ [[.int .i64 u0, .bool u1, .int .i64 u2, .string u3, .slice U4 u4 u44, .slice U5 u5 u55]], L9, m9, f9, ⟨(Below.heap_setCell _ _ _ _ (by simp)).trans RZ2, heap_setCell_same w2 (w.heap.size + 1) 5 _ _ _ RT2, Jk (.inr (.inr (by simp))) hF2⟩, Hp.out.carry (by simp) (fun x h1 _ => Below.heap_setCell _ _ _ _ (by simp; omega)), hR2.past (S := fun q => q = w.heap.size + 1) (Jk rfl (Aside.refl _ _)) (fun hq => by omega) (fun hq => by omega), hok9, by simp; omega, ?_⟩
      have hx := HX2.out;have hm := Hm9.out;rcases hres : (Jn k1 (.value (d + 1)) (⟨i + kk, rest, x.at'⟩ :: t) m) with f' | ⟨t', L', m'⟩
      ·rw [hres] at hm hx
       exact ⟨by rw [hm.1]; exact hm.2, by rw [hm.1]; exact hx⟩
      rw [hres] at hm hx;obtain ⟨e1, e2, e3, -⟩ := hm;have hgw := HG.out _ _ _ hres;have hnl := HNd.out _ _ _ hres;rw [e2, e3];exact ⟨e1, hgw.2, by simp; omega, k1, hnl, by omega, hx⟩
     case measure =>
      have hm := Hm9.out;have hme := (hR2.past (S := fun q => q = w.heap.size + 1) (Jk (u := .slice (some ⟨g2, 0, none⟩) (ess.length + 1) cap2) (p := ⟨w.heap.size + 1, 5, none⟩) rfl (Aside.refl _ w2)) (fun hq => by omega) (fun hq => by omega)).meas;rw [hme, HRr.out.meas, if_pos (show Jv.code = 0 from rfl)];rcases hres : (Jn k1 (.value (d + 1)) (⟨i + kk, rest, x.at'⟩ :: t) m) with f' | ⟨t', L', m'⟩
      ·rw [hres] at hm
       rw [hm.1, if_neg hm.2];omega
      rw [hres] at hm;rw [hm.1, hm.2.1, if_pos (show Jv.code = 0 from rfl)];have := HLn.out _ _ _ hres;simp only [List.length_cons];omega
theorem ZD (w : World) : w.drew.heap = w.heap := rfl
def Jmd (t : TreeD) : Prop := t.keys = [] /\ t.kids = [] /\ QA t.kind /\ QA t.num /\ t.text.size <= 9223372036854775807
theorem Jh3 {s : ByteArray} {t : TreeD} (h : JL s = some t) : Jmd t := by
 have z : QA 0 := by unfold QA; decide
 have e : (⟨#[]⟩ : ByteArray).size <= 9223372036854775807 := by decide
 unfold JL at h;by_cases c1 : s = bs [91, 93]
 ·rw [if_pos c1] at h
  cases h
  exact ⟨rfl, rfl, (show QA 5 from by unfold QA; decide), z, e⟩
 rw [if_neg c1] at h;by_cases c2 : s = bs [123, 125]
 ·rw [if_pos c2] at h
  cases h
  exact ⟨rfl, rfl, (show QA 6 from by unfold QA; decide), z, e⟩
 rw [if_neg c2] at h;by_cases c3 : s = bs [110, 117, 108, 108] ∨ s = bs [126]
 ·rw [if_pos c3] at h
  cases h
  exact ⟨rfl, rfl, (show QA 1 from by unfold QA; decide), z, e⟩
 rw [if_neg c3] at h;by_cases c4 : s = bs [116, 114, 117, 101]
 ·rw [if_pos c4] at h
  cases h
  exact ⟨rfl, rfl, (show QA 2 from by unfold QA; decide), z, e⟩
 rw [if_neg c4] at h;by_cases c5 : s = bs [102, 97, 108, 115, 101]
 ·rw [if_pos c5] at h
  cases h
  exact ⟨rfl, rfl, (show QA 2 from by unfold QA; decide), z, e⟩
 rw [if_neg c5] at h;by_cases c6 : 0 < s.size /\ Jb s 0 = 34
 ·rw [if_pos c6] at h
  by_cases c7 : (Jr s 0).2 = s.size /\ (Jr s 0).1.size <= 400
  ·rw [if_pos c7] at h
   cases h
   exact ⟨rfl, rfl, (show QA 4 from by unfold QA; decide), z, by have := c7.2; unfold VR; simp only; omega⟩
  rw [if_neg c7] at h; cases h
 rw [if_neg c6] at h;by_cases c8 : (JF s 0).2 = s.size /\ 0 < (JF s 0).2
 ·rw [if_pos c8] at h
  cases h
  exact ⟨rfl, rfl, (show QA 3 from by unfold QA; decide), Jdk s 0, e⟩
 rw [if_neg c8] at h;by_cases c9 : Qa s = true
 ·rw [if_pos c9] at h
  cases h
  have h1 := X6 c9;unfold Qs at h1;rw [Bool.and_eq_true, decide_eq_true_eq] at h1;exact ⟨rfl, rfl, (show QA 4 from by unfold QA; decide), z, by have := h1.1; unfold VR; simp only; omega⟩
 ·rw [if_neg c9] at h; cases h
theorem XM {s : ByteArray} {t : TreeD} (h : JL s = some t) {n : Nat} {S : Nat -> Prop} {w : World} : (t.keys = [] /\ t.kids = []) /\ OwnT (n + 1) S w t [.int .i64 t.kind, .bool t.flag, .int .i64 t.num, .string t.text, .slice none 0 0, .slice none 0 0] := by
 obtain ⟨h1, h2, h3, h4, h5⟩ := Jh3 h;obtain ⟨k, f, nu, tx, ks, kd⟩ := t;obtain rfl : ks = [] := h1;obtain rfl : kd = [] := h2;exact ⟨⟨rfl, rfl⟩, Qr h3 h4 h5⟩
theorem Jgk (w0 : World) (b g N cap n : Nat) (h0 : In0 w0 b g) (hl : JlT w0 b g N cap n) (hp : JlX w0 b g N cap n) : Jjg w0 b g N cap (n + 1) := by
 intro d x r m w hd1 hd9 hm hok hn hw h;have hlb := h.lt.1;have hlg := h.lt.2;obtain ⟨p, hbx⟩ := h.open;obtain ⟨a0, a1, a2, a3, a4, a5, af⟩ := Jf hbx.row;have lb := Ja hbx.row;obtain ⟨c0, c1, c2, cf⟩ := hbx.line x r rfl;have lg := hbx.lines;have hpN : (p : Int) < N := by have := hbx.pos; rw [List.length_cons] at this; omega
 have hp0 : (0 : Int) <= p := by omega
 have hcap := hbx.cap';have hgb := hbx.ne;have hN2 := hbx.small;have hxo := hok.head;have hxz : x.text.size <= 20000 := by have := hxo.1; omega
 have H := hid h;have H0 := hid h0;have HW := hid hw;have Hl := hid hl;have Hp := hid hp;have HOk := hid hok;have HN := hid hn;obtain ⟨res, hres⟩ : ∃ q, q = Jn (n + 1) (.value d) (x :: r) m := ⟨_, rfl⟩
 rw [<- hres];rw [VH] at hres;have HRes := hid hres;obtain ⟨nT, hnT⟩ : ∃ k, 10 - d = k + 1 := ⟨9 - d, by omega⟩
 rw [hnT];have HNT := hid hnT;obtain ⟨xi, xt, xa⟩ := x;simp only at c0 c1 c2 hxz;clear hbx h h0 hw hl hp hok hn hres hnT hxo;go_enter Tryz.func51, Tryz.ntmps51
 go_upto_region 1 with fail
 go_cut [5] from 12 to 21 (fun s5 wx => s5 = .pointer (some ⟨w.heap.size + 1, 0, none⟩) /\ wx.heap[w.heap.size + 1]? = some (.cells #[.int .i64 (xi : Nat), .string xt, .int .i64 (xa : Nat)] 59 (0, 0)) /\ wx.heap[w.heap.size]? = some (.cells #[.int .i64 0, .bool false, .int .i64 0, .string ⟨#[]⟩, .slice none 0 0, .slice none 0 0] 34 (0, 0)) /\ Below w.heap.size w wx)
 case first =>
  go_region_law (fail)
  all_goals
   (try go_wp2_with fail)
   go_meet
   exact ⟨rfl, by rw [ZD]; exact Je (by simp), by rw [ZD]; exact (Below.heap_alloc _ _ _ (by simp)).trans (Je rfl), Jj⟩
 case rest =>
  obtain ⟨rfl, hx1, ht1, hb1⟩ := hcut;have HX1 := hid hx1;have HT1 := hid ht1;have HB1 := hid hb1;have HR1 := hid (H.out.below hb1);obtain ⟨y0, y1, y2, yf⟩ := Qi hx1;have ly := Ja hx1;have lz := Ja ht1;clear hx1 ht1 hb1 a0 a1 a2 a3 a4 a5 af c0 c1 c2 cf lb lg;go_wp2_with fail
  refine (WX b g N cap _ m d xa wc HR1.out (by omega) (by omega)).mono ?_;rintro e w2 ⟨rfl, hR2, hA2⟩;have hX2 := (hA2.block _ ly (by omega)).trans HX1.out;have hT2 := (hA2.block _ lz (by omega)).trans HT1.out;have HR2 := hid hR2;have HX2 := hid hX2;have HT2 := hid hT2;have HA2 := hid (show Aside (fun q => q = b ∨ w.heap.size <= q) w w2 from (Aside.of_below HB1.out).trans (hA2.mono (fun q hq => .inl hq)))
  have HW2 := hid (H0.out.keepW HW.out (HA2.out.mono (fun q hq => hq.elim .inl (fun hq => .inr (.inr hq)))));clear hR2 hA2 hX2 hT2 y0 y1 y2 yf ly lz;obtain ⟨y0, y1, y2, yf⟩ := Qi HX2.out;obtain ⟨z0, z1, z2, z3, z4, z5, zf⟩ := Jf HT2.out;have ly := Ja HX2.out;have lz := Ja HT2.out;obtain ⟨p2, hbx⟩ := HR2.out.open;obtain ⟨a0, a1, a2, a3, a4, a5, af⟩ := Jf hbx.row;have lb := Ja hbx.row
  clear hbx;rcases ZP d m xa with ⟨e1, e2⟩ | ⟨f, e1, e2, e3⟩
  rotate_left
  ·have HF : Hid (res = .bad f) := hid (by rw [HRes.out, e1])
   have HE := hid (And.intro e2 e3);rw [e2] at a3 a4 a5;have d1 : (f.code != 0) = true := bne_iff_ne.2 e3;have d2 : (f.code == 0) = false := JmH e3;clear e1 e2 e3;go_wp2_with fail
   exact bodyPost_ret (v := .agg #[.int .i64 0, .bool false, .int .i64 0, .string ⟨#[]⟩, .slice none 0 0, .slice none 0 0]) (by simp only [results, Tryz.results51]; go_simp) rfl ⟨_, _, _, _, rfl, ⟨_, _, _, _, _, _, _, _, _, _, rfl⟩, HR2.out.past (S := fun q => q = w.heap.size) QC (by omega) (by omega), HOk.out, Aside.low2 ((HA2.out.mono (fun q hq => hq.elim .inl (fun hq => .inr (.inr hq)))).join (S' := fun q => q = w.heap.size) QC (fun q hq _ => .inr (.inr (by omega)))), by rw [HF.out]; exact HE.out⟩
  have hd8 := (Vp e1).1;have hm3 := (Vp e1).2
  have HRs := hid (show res = (if (Jy xt).isSome then Jn n (.list xi d []) (⟨xi, xt, xa⟩ :: r) (m + 1)
    else if (Qq xt).isSome then Jn n (.pairs xi d [] []) (⟨xi, xt, xa⟩ :: r) (m + 1)
    else match JL xt with
     | some t => .good t r (m + 1)
     | none => .bad (Qd 4 xa)) by rw [HRes.out, e1]; rfl)
  have hR2' := HR2.out;rw [e2] at a3 a4 a5 hR2';have HR2 := hid hR2';have a3' : w2.cell? ⟨b, 3, none⟩ = some (.int .i64 0) := a3;clear e1 e2 hR2' a3 HRes;rcases hit : Jy xt with _ | ⟨rest, kk⟩
  rotate_left
  ·have HF : Hid (res = Jn n (.list xi d []) (⟨xi, xt, xa⟩ :: r) (m + 1)) := hid (by rw [HRs.out, hit]; rfl)
   have hi1 : Calls Tryz.prog 101 #[.string xt] w2 fun e w' => e = .returned (.tuple #[.string rest, .int .i64 kk, .bool true]) /\ w2 = w' := by
    have h := Ye xt w2 (by omega);rw [hit] at h;exact h
   have HI1 := hid hi1;have HL1 := hid (Hl.out xi d _ (m + 1) w2 hd1 hd8 (by omega) HOk.out (by have := HN.out; unfold JG at this ⊢; simp only at this ⊢; omega) HW2.out HR2.out);clear hit hi1;go_wp2_with fail
   refine HI1.out.mono ?_;rintro e w3 ⟨rfl, rfl⟩;go_wp2_with fail
   refine HL1.out.mono ?_;intro e w5 hv5;obtain ⟨cs, L', m', f', rfl, ht, h5, h6, h7, h8⟩ := hv5;obtain ⟨u0, u1, u2, u3, U4, u4, u44, U5, u5, u55, rfl⟩ := ht
   have HV := hid (show OutI 61 b g N cap (nT + 1) res w2 (.returned (.agg #[.int .i64 u0, .bool u1, .int .i64 u2, .string u3, .slice U4 u4 u44, .slice U5 u5 u55])) w5 by
    rw [HF.out, <- HNT.out]
    exact ⟨_, L', m', f', rfl, ⟨u0, u1, u2, u3, U4, u4, u44, U5, u5, u55, rfl⟩, h5, h6, h7, h8⟩)
   have HT5 := hid ((h7.block _ lz (by omega)).trans HT2.out);obtain ⟨z0, z1, z2, z3, z4, z5, zf⟩ := Jf HT5.out;have l5 := Ja HT5.out;clear h5 h6 h7 h8;go_wp2_with fail
   exact bodyPost_ret (v := .agg #[.int .i64 u0, .bool u1, .int .i64 u2, .string u3, .slice U4 u4 u44, .slice U5 u5 u55]) (by simp only [results, Tryz.results51]; go_simp) rfl (HV.out.close ((HA2.out.mono (fun q hq => hq.elim .inl (fun hq => .inr (.inr hq))))) QC lz hlb hlg)
  have hi1 : Calls Tryz.prog 101 #[.string xt] w2 fun e w' => e = .returned (.tuple #[.string ⟨#[]⟩, .int .i64 0, .bool false]) /\ w2 = w' := by
   have h := Ye xt w2 (by omega);rw [hit] at h;exact h
  have HI1 := hid hi1;have HK := hid (Xx xt w2 (by omega) (H0.out.cas.below HW2.out) (H0.out.tab.below HW2.out));rcases hky : Qq xt with _ | ⟨key, rest⟩
  rotate_left
  ·have HF : Hid (res = Jn n (.pairs xi d [] []) (⟨xi, xt, xa⟩ :: r) (m + 1)) := hid (by rw [HRs.out, hit, hky]; rfl)
   have hk1 : Calls Tryz.prog 103 #[.string xt] w2 fun e w' => e = .returned (.tuple #[.string key, .string rest, .bool true]) /\ Below w2.heap.size w2 w' := by
    have h := HK.out;rw [hky] at h;exact h
   have HK1 := hid hk1;clear hit hi1 hky hk1;go_wp2_with fail
   refine HI1.out.mono ?_;rintro e w3 ⟨rfl, rfl⟩;go_wp2_with fail
   refine HK1.out.mono ?_;rintro e w3 ⟨rfl, hb3⟩;have HX3 := hid ((hb3.block _ ly).trans HX2.out);have HT3 := hid ((hb3.block _ lz).trans HT2.out);have HR3 := hid (HR2.out.below hb3);have HA3 := hid (HA2.out.trans (Aside.of_below hb3));have HW3 := hid (HW2.out.trans (hb3.mono HW2.out.size));clear hb3 y0 y1 y2 yf z0 z1 z2 z3 z4 z5 zf a0 a1 a2 a3' a4 a5 af;obtain ⟨y0, y1, y2, yf⟩ := Qi HX3.out
   have ly3 := Ja HX3.out;have lz3 := Ja HT3.out;have HP1 := hid (Hp.out xi d _ (m + 1) w3 hd1 hd8 (by omega) HOk.out (by have := HN.out; unfold JG at this ⊢; simp only at this ⊢; omega) HW3.out HR3.out);go_wp2_with fail
   refine HP1.out.mono ?_;intro e w5 hv5;obtain ⟨cs, L', m', f', rfl, ht, h5, h6, h7, h8⟩ := hv5;obtain ⟨u0, u1, u2, u3, U4, u4, u44, U5, u5, u55, rfl⟩ := ht
   have HV := hid (show OutI 61 b g N cap (nT + 1) res w3 (.returned (.agg #[.int .i64 u0, .bool u1, .int .i64 u2, .string u3, .slice U4 u4 u44, .slice U5 u5 u55])) w5 by
    rw [HF.out, <- HNT.out]
    exact ⟨_, L', m', f', rfl, ⟨u0, u1, u2, u3, U4, u4, u44, U5, u5, u55, rfl⟩, h5, h6, h7, h8⟩)
   have HT5 := hid ((h7.block _ lz3 (by omega)).trans HT3.out);obtain ⟨z0, z1, z2, z3, z4, z5, zf⟩ := Jf HT5.out;have l5 := Ja HT5.out;clear h5 h6 h7 h8;go_wp2_with fail
   exact bodyPost_ret (v := .agg #[.int .i64 u0, .bool u1, .int .i64 u2, .string u3, .slice U4 u4 u44, .slice U5 u5 u55]) (by simp only [results, Tryz.results51]; go_simp) rfl (HV.out.close ((HA3.out.mono (fun q hq => hq.elim .inl (fun hq => .inr (.inr hq))))) QC lz3 hlb hlg)
  have hk1 : Calls Tryz.prog 103 #[.string xt] w2 fun e w' => e = .returned (.tuple #[.string ⟨#[]⟩, .string ⟨#[]⟩, .bool false]) /\ Below w2.heap.size w2 w' := by
   have h := HK.out;rw [hky] at h;exact h
  have HK1 := hid hk1
  have HF : Hid (res = (match JL xt with
     | some t => .good t r (m + 1)
     | none => .bad (Qd 4 xa))) := hid (by rw [HRs.out, hit, hky]; rfl)
  clear hit hi1 hky hk1;go_wp2_with fail
  refine HI1.out.mono ?_;rintro e w3 ⟨rfl, rfl⟩;go_wp2_with fail
  refine HK1.out.mono ?_;rintro e w3 ⟨rfl, hb3⟩;have HX3 := hid ((hb3.block _ ly).trans HX2.out);have HT3 := hid ((hb3.block _ lz).trans HT2.out);have HR3 := hid (HR2.out.below hb3);have HA3 := hid (HA2.out.trans (Aside.of_below hb3));have HW3 := hid (HW2.out.trans (hb3.mono HW2.out.size));clear hb3 y0 y1 y2 yf z0 z1 z2 z3 z4 z5 zf a0 a1 a2 a3' a4 a5 af;obtain ⟨y0, y1, y2, yf⟩ := Qi HX3.out
  have ly3 := Ja HX3.out;have lz3 := Ja HT3.out;go_wp2_with fail
  refine (JaD w0 b g N cap _ r (m + 1) Jv xt xa w3 H0.out HW3.out (by omega) HR3.out).mono ?_;rintro e w5 ⟨rfl, hR5, hA5⟩;obtain ⟨u0, u1, u2, u3, U4, u4, u44, U5, u5, u55, hsc⟩ := Je9 xt
  have HV := hid (show OutI 61 b g N cap (nT + 1) res w3 (.returned (.agg #[.int .i64 u0, .bool u1, .int .i64 u2, .string u3, .slice U4 u4 u44, .slice U5 u5 u55])) w5 by
   refine ⟨_, r, m + 1, scF Jv xt xa, rfl, ⟨u0, u1, u2, u3, U4, u4, u44, U5, u5, u55, rfl⟩, hR5, HOk.out.tail, hA5.mono (fun q hq => .inl hq), ?_⟩;rw [HF.out];unfold scA at hsc;unfold scF;rcases hs : JL xt with _ | t
   ·exact ⟨if_pos rfl, by show (4 : Int) ≠ 0; decide⟩
   rw [hs] at hsc;refine ⟨rfl, rfl, rfl, ?_⟩;obtain ⟨k1, k2⟩ := XM hs (n := nT) (S := fun x => w3.heap.size <= x /\ x < w5.heap.size) (w := w5);rw [<- hsc]
   exact k2)
  rw [hsc];have HT5 := hid ((hA5.block _ lz3 (by omega)).trans HT3.out);obtain ⟨z0, z1, z2, z3, z4, z5, zf⟩ := Jf HT5.out;have l5 := Ja HT5.out;clear hR5 hA5 hsc;go_wp2_with fail
  exact bodyPost_ret (v := .agg #[.int .i64 u0, .bool u1, .int .i64 u2, .string u3, .slice U4 u4 u44, .slice U5 u5 u55]) (by simp only [results, Tryz.results51]; go_simp) rfl (HV.out.close ((HA3.out.mono (fun q hq => hq.elim .inl (fun hq => .inr (.inr hq))))) QC lz3 hlb hlg)
end Go.Proofs.YtohcpifekcehjaaGreatDoor
