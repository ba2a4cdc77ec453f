/- Steps to FnIndentedNormal. No conditions. -/
import Derived.Test.YtohcpifekcehjaaGreatDoorKfni11
import Derived.Test.YtohcpifekcehjaaGreatDoorKfni5
import Derived.Test.YtohcpifekcehjaaGreatDoorKfni6
import Derived.Test.YtohcpifekcehjaaGreatDoorKfni1
import Derived.Test.YtohcpifekcehjaaGreatDoorKfni3
import Derived.Test.YtohcpifekcehjaaGreatDoorKfni7
set_option maxHeartbeats 16000000
set_option maxRecDepth 20000
namespace Go.Proofs.YtohcpifekcehjaaGreatDoor
open Go.RowKit Go.Lib
def Jav (f : Flt) (L : List LineD) : Array Value := if f.code = 0 then (match L with
  | [] => #[.int .i64 0, .string ⟨#[]⟩, .int .i64 0]
  | x :: _ => #[.int .i64 (x.ind : Nat), .string x.text, .int .i64 (x.at' : Nat)]) else #[.int .i64 0, .string ⟨#[]⟩, .int .i64 0]
theorem Jio {f : Flt} {L : List LineD} (h : ¬ f.code = 0) : Jav f L = #[.int .i64 0, .string ⟨#[]⟩, .int .i64 0] := if_neg h
theorem Jip {f : Flt} : Jav f [] = #[.int .i64 0, .string ⟨#[]⟩, .int .i64 0] := by unfold Jav; split <;> rfl
theorem Jab {f : Flt} {x : LineD} {L : List LineD} (h : f.code = 0) : Jav f (x :: L) = #[.int .i64 (x.ind : Nat), .string x.text, .int .i64 (x.at' : Nat)] := if_pos h
theorem Jgp (w : World) : w.drew.heap = w.heap := rfl
theorem Jbr (b g N cap : Nat) (L : List LineD) (m i : Nat) (f : Flt) (w : World) (h : InAt 67 b g N cap L m f w) :
  Calls Tryz.prog 188 #[.pointer (some ⟨b, 0, none⟩), .int .i64 i] w fun e w' => e = .returned (.tuple #[.agg (Jav f L), .bool (QU f L i)]) /\ Below w.heap.size w w' := by
 have H := hid h;obtain ⟨p, hb⟩ := h.open;have hpos := hb.pos;have hsm := hb.small;have hcp := hb.cap';have hln := hb.lines;have HLn := hid hb.line;obtain ⟨a0, a1, a2, a3, a4, a5, af⟩ := Jf hb.row;have l0 := Ja hb.row;obtain ⟨z, hz⟩ : ∃ z, z = f.code := ⟨_, rfl⟩
 rw [<- hz] at a3;obtain ⟨r, hr⟩ : ∃ r, r = QU f L i := ⟨_, rfl⟩
 rw [<- hr];obtain ⟨ln, hl⟩ : ∃ ln, ln = Jav f L := ⟨_, rfl⟩
 rw [<- hl];have HR := hid hr;have HL := hid hl;have HZ := hid hz;clear hb h hr hz hl;by_cases hc : z = 0
 rotate_left
 ·have d1 : (z != 0) = true := bne_iff_ne.2 hc
  have d1' : (z == 0) = false := JmH hc;have HE : Hid (r = false /\ ln = #[.int .i64 0, .string ⟨#[]⟩, .int .i64 0]) := hid ⟨by rw [HR.out]; unfold QU; rw [JmF (fun e => hc (HZ.out.trans e))]; rfl, by rw [HL.out]; exact Jio (fun e => hc (HZ.out.trans e))⟩;clear hc;go_enter Tryz.func188, Tryz.ntmps188
  go_wp2_with fail
  refine Jm 18 (by kernel_rfl) (by kernel_rfl) (by decide) ?_
  iterate 18 (apply Exists.intro; refine And.intro ?_ ?_; (focus (intro W hW; (try simp only [Act.put, List.setIfInBounds_toArray, List.set_cons_zero, List.set_cons_succ]); first | (exact wpList_skip rfl ⟨rfl, rfl, Below.refl _ _⟩) | (obtain ⟨hcW, hfW⟩ := JE hW; have hsW := hW.size; (try simp at hsW); (try have hsW0 := Jd hsW); (try (have hsW1 := Jc hsW; (try (have hsW2 := Jc hsW1)))); go_wp2_with fail; exact ⟨rfl, rfl, Jj⟩))))
  intro wd hbwd
  (try simp only [Act.put, List.setIfInBounds_toArray, List.set_cons_zero, List.set_cons_succ])
  (try simp only [List.drop_succ_cons, List.drop_nil])
  have HT1 := hid ((hbwd.block w.heap.size (by simp)).trans (Je (w := w) (o := .cells #[.int .i64 0, .string ⟨#[]⟩, .int .i64 0] 59) rfl));have hb0 : Below w.heap.size w wd := Below.trans Jj (hbwd.mono (by simp));obtain ⟨y0, y1, y2, yf⟩ := Qi HT1.out;have ly := Ja HT1.out;go_wp2_with fail
  exact bodyPost_ret (v := .tuple #[.agg #[.int .i64 0, .string ⟨#[]⟩, .int .i64 0], .bool false]) (by simp only [results, Tryz.results188]; go_simp) rfl ⟨by rw [HE.out.1, HE.out.2], Jj⟩
 have hfc : f.code = 0 := HZ.out.symm.trans hc;have hfz : decide (f.code = 0) = true := JmG hfc;rcases L with _ | ⟨x, L⟩
 ·have HE : Hid (r = false /\ ln = #[.int .i64 0, .string ⟨#[]⟩, .int .i64 0]) := hid ⟨by rw [HR.out]; unfold QU; rw [hfz]; rfl, by rw [HL.out]; exact Jip⟩
  have d2 : decide ((N : Int) <= p) = true := JmG (by simp at hpos; omega);have d3 : decide (N <= p) = true := JmG (by simp at hpos; omega);obtain rfl := hc;clear hpos HR HL hfz hfc HLn;go_enter Tryz.func188, Tryz.ntmps188
  go_wp2_with fail
  refine Jm 18 (by kernel_rfl) (by kernel_rfl) (by decide) ?_
  iterate 18 (apply Exists.intro; refine And.intro ?_ ?_; (focus (intro W hW; (try simp only [Act.put, List.setIfInBounds_toArray, List.set_cons_zero, List.set_cons_succ]); first | (exact wpList_skip rfl ⟨rfl, rfl, Below.refl _ _⟩) | (obtain ⟨hcW, hfW⟩ := JE hW; have hsW := hW.size; (try simp at hsW); (try have hsW0 := Jd hsW); (try (have hsW1 := Jc hsW; (try (have hsW2 := Jc hsW1)))); go_wp2_with fail; exact ⟨rfl, rfl, Jj⟩))))
  intro wd hbwd
  (try simp only [Act.put, List.setIfInBounds_toArray, List.set_cons_zero, List.set_cons_succ])
  (try simp only [List.drop_succ_cons, List.drop_nil])
  have HT1 := hid ((hbwd.block w.heap.size (by simp)).trans (Je (w := w) (o := .cells #[.int .i64 0, .string ⟨#[]⟩, .int .i64 0] 59) rfl));have hb0 : Below w.heap.size w wd := Below.trans Jj (hbwd.mono (by simp));obtain ⟨y0, y1, y2, yf⟩ := Qi HT1.out;have ly := Ja HT1.out;go_wp2_with fail
  exact bodyPost_ret (v := .tuple #[.agg #[.int .i64 0, .string ⟨#[]⟩, .int .i64 0], .bool false]) (by simp only [results, Tryz.results188]; go_simp) rfl ⟨by rw [HE.out.1, HE.out.2], Jj⟩
 ·have HE : Hid (r = decide (x.ind = i) /\ ln = #[.int .i64 (x.ind : Nat), .string x.text, .int .i64 (x.at' : Nat)]) := hid ⟨by rw [HR.out]; unfold QU; rw [hfz]; rfl, by rw [HL.out]; exact Jab hfc⟩
  obtain ⟨c0, c1, c2, cf⟩ := HLn.out x L rfl;have hlt : (p : Int) < N := by rw [List.length_cons] at hpos; omega
  have hz0 : (0 : Int) <= p := by omega
  have d2 : decide ((N : Int) <= p) = false := JmF (by omega);have d3 : decide (N <= p) = false := JmF (by omega);obtain ⟨k, t, a⟩ := x;simp only at c0 c1 c2 HE;obtain rfl := hc;have hposK := hpos;clear hpos HR HL hfz hfc HLn;have HPos := hid hposK;clear hposK;go_enter Tryz.func188, Tryz.ntmps188
  go_wp2_with fail
  refine Jm 18 (by kernel_rfl) (by kernel_rfl) (by decide) ?_
  iterate 18 (apply Exists.intro; refine And.intro ?_ ?_; (focus (intro W hW; (try simp only [Act.put, List.setIfInBounds_toArray, List.set_cons_zero, List.set_cons_succ]); first | (exact wpList_skip rfl ⟨rfl, rfl, Below.refl _ _⟩) | (obtain ⟨hcW, hfW⟩ := JE hW; have hsW := hW.size; (try simp at hsW); (try have hsW0 := Jd hsW); (try (have hsW1 := Jc hsW; (try (have hsW2 := Jc hsW1)))); go_wp2_with fail; exact ⟨rfl, rfl, Jj⟩))))
  intro wd hbwd
  (try simp only [Act.put, List.setIfInBounds_toArray, List.set_cons_zero, List.set_cons_succ])
  (try simp only [List.drop_succ_cons, List.drop_nil])
  have HT1 := hid ((hbwd.block w.heap.size (by simp)).trans (Je (w := w) (o := .cells #[.int .i64 0, .string ⟨#[]⟩, .int .i64 0] 59) rfl));have hb0 : Below w.heap.size w wd := Below.trans Jj (hbwd.mono (by simp));have HB0 := hid hb0;have HR1 := hid (H.out.below hb0);clear a0 a1 a2 a3 a4 a5 af c0 c1 c2 cf hbwd hb0;obtain ⟨p1, hbx⟩ := HR1.out.open;obtain rfl : p1 = p := by have := HPos.out; have := hbx.pos; omega
  obtain ⟨a0, a1, a2, a3, a4, a5, af⟩ := Jf hbx.row;have lb := Ja hbx.row;have lg := hbx.lines;obtain ⟨c0, c1, c2, cf⟩ := hbx.line _ _ rfl;simp only at c0 c1 c2;obtain ⟨y0, y1, y2, yf⟩ := Qi HT1.out;have ly := Ja HT1.out;clear hbx;go_upto_region 3 with fail
  go_cut [6] from 26 to 35 (fun s6 wx => s6 = .pointer (some ⟨wd.heap.size, 0, none⟩) /\ wx.heap[wd.heap.size]? = some (.cells #[.int .i64 (k : Nat), .string t, .int .i64 (a : Nat)] 59 (0, 0)) /\ Below wd.heap.size wd wx)
  case first =>
   go_region_law (fail)
   all_goals
    (try go_wp2_with fail)
    go_meet
    exact ⟨rfl, by (try rw [Jgp]); exact Je (by simp), Jj⟩
  case rest =>
   obtain ⟨rfl, hx1, hb1⟩ := hcut;have HB1 := hid (HB0.out.trans (hb1.mono HB0.out.size));have hT2 := (hb1.block _ ly).trans HT1.out;obtain ⟨x0, x1, x2, xf⟩ := Qi hx1;have lx := Ja hx1;clear y0 y1 y2 yf a0 a1 a2 a3 a4 a5 af c0 c1 c2 cf hb1 hx1;obtain ⟨y0, y1, y2, yf⟩ := Qi hT2;have ly2 := Ja hT2;clear hT2;by_cases hki : k = i
   ·have d4 : ((k : Int) == (i : Int)) = true := beq_iff_eq.2 (by omega)
    have HE2 : Hid (r = true) := hid (by rw [HE.out.1]; exact JmG hki);subst hki;go_wp2_with fail
    go_region_law (fail)
    all_goals
     (try go_wp2_with fail)
     exact bodyPost_ret (v := .tuple #[.agg #[.int .i64 (k : Nat), .string t, .int .i64 (a : Nat)], .bool true]) (by simp only [results, Tryz.results188]; go_simp) rfl ⟨by rw [HE2.out, HE.out.2], (have hb01 := HB1.out; Jj)⟩
   have d4 : ((k : Int) == (i : Int)) = false := JmH (by omega);have d5 : (k == i) = false := JmH hki;have HE2 : Hid (r = false) := hid (by rw [HE.out.1]; exact JmF hki);go_wp2_with fail
   go_region_law (fail)
   all_goals
    (try go_wp2_with fail)
    exact bodyPost_ret (v := .tuple #[.agg #[.int .i64 (k : Nat), .string t, .int .i64 (a : Nat)], .bool false]) (by simp only [results, Tryz.results188]; go_simp) rfl ⟨by rw [HE2.out, HE.out.2], (have hb01 := HB1.out; Jj)⟩
def Wu (L : List LineD) : Nat := L.length
def JlD (j : JobI) (L L' : List LineD) : Prop := Wu L' <= Wu L /\ match j with
 | .value _ => Wu L' + 1 <= Wu L
 | .below _ _ _ => True
 | .list i _ _ => ZH i L = true -> Wu L' + 1 <= Wu L
 | .pairs i _ _ _ => Wa i L = true -> Wu L' + 1 <= Wu L
theorem UI (x : LineD) (l : List LineD) : Wu (x :: l) = Wu l + 1 := rfl
theorem Ve : ∀ (n : Nat) (j : JobI) (L : List LineD) (m : Nat) (t : TreeD) (L' : List LineD) (m' : Nat), Jn n j L m = .good t L' m' -> JlD j L L'
 | 0, j, L, m, t, L', m', h => by cases h
 | n + 1, .value d, [], m, t, L', m', h => by cases h
 | n + 1, .value d, x :: r, m, t, L', m', h => by
  rw [VH] at h;rcases hb : J1 d m x.at' with _ | f
  ·rw [hb] at h
   simp only at h;by_cases c1 : (Jy x.text).isSome = true
   ·rw [if_pos c1] at h
    have g := Ve n _ _ _ _ _ _ h;have g2 := g.2 (by show (decide (x.ind = x.ind) && (Jy x.text).isSome) = true; rw [c1]; simp);exact ⟨g.1, g2⟩
   rw [if_neg c1] at h;by_cases c2 : (Qq x.text).isSome = true
   ·rw [if_pos c2] at h
    have g := Ve n _ _ _ _ _ _ h;have g2 := g.2 (by show (decide (x.ind = x.ind) && !(Jy x.text).isSome && (Qq x.text).isSome) = true; rw [c2]; simp at c1; simp [c1]);exact ⟨g.1, g2⟩
   rw [if_neg c2] at h;rcases hs : JL x.text with _ | u
   ·rw [hs] at h; cases h
   ·rw [hs] at h
    cases h
    unfold JlD;rw [UI];exact ⟨by omega, by simp only; omega⟩
  rw [hb] at h; cases h
 | n + 1, .below i d a, L, m, t, L', m', h => by
  rw [VG] at h;by_cases c : UT i L = true
  ·rw [if_pos c] at h
   exact ⟨(Ve n (.value d) L m t L' m' h).1, trivial⟩
  rw [if_neg c] at h;rcases hb : J1 d m a with _ | f
  ·rw [hb] at h
   cases h
   exact ⟨Nat.le_refl _, trivial⟩
  rw [hb] at h; cases h
 | n + 1, .list i d acc, [], m, t, L', m', h => by
  cases h
  exact ⟨Nat.le_refl _, fun e => by cases e⟩
 | n + 1, .list i d acc, x :: r, m, t, L', m', h => by
  rw [Vb] at h;by_cases c1 : x.ind ≠ i
  ·rw [if_pos c1] at h
   cases h
   exact ⟨Nat.le_refl _, fun e => by simp [ZH, c1] at e⟩
  rw [if_neg c1] at h;rcases hi : Jy x.text with _ | ⟨rest, k⟩
  ·rw [hi] at h
   cases h
   exact ⟨Nat.le_refl _, fun e => by simp [ZH, hi] at e⟩
  rw [hi] at h;simp only at h;rcases hr : Yz n i d x r rest k m with f | ⟨u, L1, m1⟩
  ·rw [hr] at h; cases h
  rw [hr] at h;simp only at h
  have hv : Wu L1 + 1 <= Wu (x :: r) := by
   unfold Yz at hr;by_cases c2 : k = 0
   ·rw [if_pos c2] at hr
    have := (Ve n (.below i (d + 1) x.at') _ _ _ _ _ hr).1;rw [UI];omega
   rw [if_neg c2] at hr;have := (Ve n (.value (d + 1)) _ _ _ _ _ hr).2;simp only [UI] at this;rw [UI];omega
  have g := (Ve n _ _ _ _ _ _ h).1;exact ⟨by omega, fun _ => by omega⟩
 | n + 1, .pairs i d ks acc, [], m, t, L', m', h => by
  cases h
  exact ⟨Nat.le_refl _, fun e => by cases e⟩
 | n + 1, .pairs i d ks acc, x :: r, m, t, L', m', h => by
  rw [QR] at h;by_cases c1 : x.ind ≠ i ∨ (Jy x.text).isSome = true
  ·rw [if_pos c1] at h
   cases h
   exact ⟨Nat.le_refl _, fun e => by rcases c1 with c1 | c1 <;> simp [Wa, c1] at e⟩
  rw [if_neg c1] at h;rcases hi : Qq x.text with _ | ⟨key, rest⟩
  ·rw [hi] at h
   cases h
   exact ⟨Nat.le_refl _, fun e => by simp [Wa, hi] at e⟩
  rw [hi] at h;simp only at h;by_cases c2 : 400 < key.size
  ·rw [if_pos c2] at h; cases h
  rw [if_neg c2] at h;by_cases c3 : ks.contains key = true
  ·rw [if_pos c3] at h; cases h
  rw [if_neg c3] at h;rcases hr : Vk n i d x r rest m with f | ⟨u, L1, m1⟩
  ·rw [hr] at h; cases h
  rw [hr] at h;simp only at h
  have hv : Wu L1 + 1 <= Wu (x :: r) := by
   unfold Vk at hr;rw [UI];by_cases c4 : rest.size = 0
   ·rw [if_pos c4] at hr
    have := (Ve n (.below i (d + 1) x.at') _ _ _ _ _ hr).1;omega
   rw [if_neg c4] at hr;rcases hb : J1 (d + 1) m x.at' with _ | f
   ·rw [hb] at hr
    simp only at hr;rcases hs : JL rest with _ | v
    ·rw [hs] at hr; cases hr
    rw [hs] at hr;cases hr
    omega
   rw [hb] at hr; cases hr
  have g := (Ve n _ _ _ _ _ _ h).1;exact ⟨by omega, fun _ => by omega⟩
theorem Uo {n d m m' : Nat} {L L' : List LineD} {t : TreeD} (h : Jn n (.value d) L m = .good t L' m') : L'.length < L.length := by
 have := (Ve n _ _ _ _ _ _ h).2;unfold Wu at this;exact this
theorem Ub {n m m' : Nat} {j : JobI} {L L' : List LineD} {t : TreeD} (h : Jn n j L m = .good t L' m') : L'.length <= L.length := by
 have := (Ve n _ _ _ _ _ _ h).1;unfold Wu at this;exact this
theorem JbU {n d m m' : Nat} {L L' : List LineD} {t : TreeD} (h : Jn n (.value d) L m = .good t L' m') (hm : m <= 300) (hd : d <= 9) : m + 1 <= m' /\ m' <= 300 := by
 obtain ⟨-, h2, h3⟩ := Vj n _ _ _ _ _ _ h hm (11 - d) (by omega);obtain ⟨N, hN⟩ : ∃ N, 11 - d = N + 1 := ⟨10 - d, by omega⟩
 rw [hN] at h2;unfold Jl at h2;omega
theorem U7 {n i d a m m' : Nat} {L L' : List LineD} {t : TreeD} (h : Jn n (.below i d a) L m = .good t L' m') (hm : m <= 300) (hd : d <= 9) : m + 1 <= m' /\ m' <= 300 := by
 obtain ⟨-, h2, h3⟩ := Vj n _ _ _ _ _ _ h hm (11 - d) (by omega);obtain ⟨N, hN⟩ : ∃ N, 11 - d = N + 1 := ⟨10 - d, by omega⟩
 rw [hN] at h2;unfold Jl at h2;omega
def TreeV (cs : List Value) : Prop := ∃ (k : Int) (fl : Bool) (nu : Int) (t : ByteArray) (A4 : Option Addr) (n4 c4 : Nat) (A5 : Option Addr) (n5 c5 : Nat), cs = [.int .i64 k, .bool fl, .int .i64 nu, .string t, .slice A4 n4 c4, .slice A5 n5 c5]
theorem TreeV.one {cs : List Value} (h : TreeV cs) : ∀ u ∈ cs, u.oneCell' = true := by
 obtain ⟨k, fl, nu, t, A4, n4, c4, A5, n5, c5, rfl⟩ := h;intro u hu;simp at hu;rcases hu with rfl | rfl | rfl | rfl | rfl | rfl <;> rfl
def OutI (ty : TypeId) (b g N cap nT : Nat) (r : ResI) (w : World) (e : Ending) (w' : World) : Prop :=
 ∃ (cs : List Value) (L' : List LineD) (m' : Nat) (f' : Flt), e = .returned (.agg cs.toArray) /\ TreeV cs /\ InAt ty b g N cap L' m' f' w' /\ InOk L' /\ Aside (fun q => q = b ∨ q = g) w w' /\
  match r with
  | .bad f => f' = f /\ f.code ≠ 0
  | .good t L m => f' = Jv /\ L' = L /\ m' = m /\ OwnT nT (fun x => w.heap.size <= x /\ x < w'.heap.size) w' t cs
def JeV : ResI -> Option TreeD
 | .bad _ => none
 | .good t _ _ => some t
structure KidsE (nT base : Nat) (wx : World) (c : Option (List TreeD)) (v : Value) (ess : List (List Value)) : Prop where
 six : ∀ es ∈ ess, es.length = 6
 row : wx.ownsRow base 34 6 v ess.length ess.flatten
 hi : ∀ q, v.ownBlock = some q -> q < wx.heap.size
 good : ∀ acc, c = some acc -> acc.length = ess.length /\ ∃ F : Nat -> Nat -> Prop, (∀ i b, F i b -> base <= b /\ b < wx.heap.size /\ v.ownBlock ≠ some b) /\ (∀ i j b, F i b -> F j b -> i = j) /\ ∀ i d es, acc[i]? = some d -> ess[i]? = some es -> OwnT nT (F i) wx d es
theorem KidsE.nil (nT base : Nat) (wx : World) : KidsE nT base wx (some []) (.slice none 0 0) [] :=
 ⟨fun _ h => (by cases h), World.ownsRow_nil _ _ _ _, fun _ h => (by cases h), fun acc h => by
  cases h
  exact ⟨rfl, fun _ _ => False, fun _ _ h => h.elim, fun _ _ _ h => h.elim, fun i d es h => (by simp at h)⟩⟩
theorem KidsE.grow {nT base : Nat} {wx : World} {acc : List TreeD} {v : Value} {ess : List (List Value)} (h : KidsE nT base wx (some acc) v ess) : GrowK nT base wx.heap.size wx acc v := by
 obtain ⟨hl, F, h1, h2, h3⟩ := h.good acc rfl;exact ⟨ess, F, hl.symm, h.six, by rw [hl]; exact h.row, h.hi, h1, h2, h3⟩
theorem KidsE.form {nT base : Nat} {wx : World} {c : Option (List TreeD)} {v : Value} {ess : List (List Value)} (h : KidsE nT base wx c v ess) : ∃ A cp, v = .slice A ess.length cp := JP h.row
theorem KidsE.carry {nT base : Nat} {wx wy : World} {c : Option (List TreeD)} {v : Value} {ess : List (List Value)} (h : KidsE nT base wx c v ess) (hs : wx.heap.size <= wy.heap.size) (hb : ∀ q, base <= q -> q < wx.heap.size -> wy.heap[q]? = wx.heap[q]?) : KidsE nT base wy c v ess :=
 ⟨h.six, Jh h.row (fun q hq => hb q (h.row.lt q hq).1 (h.hi q hq)), fun q hq => Nat.lt_of_lt_of_le (h.hi q hq) hs, fun acc hc => by
  obtain ⟨hl, F, h1, h2, h3⟩ := h.good acc hc
  exact ⟨hl, F, fun i b hF => ⟨(h1 i b hF).1, Nat.lt_of_lt_of_le (h1 i b hF).2.1 hs, (h1 i b hF).2.2⟩, h2, fun i d es hd he => (h3 i d es hd he).carry (fun b hF => hb b (h1 i b hF).1 (h1 i b hF).2.1) (fun _ h => h)⟩⟩
def Jfg : Option (List TreeD) -> Option TreeD -> Option (List TreeD)
 | some acc, some t => some (acc ++ [t])
 | _, _ => none
theorem KidsE.push {nT base g cap s9 : Nat} {wr w2 : World} {c : Option (List TreeD)} {t : Option TreeD} {v : Value} {ess : List (List Value)} {cs : List Value} (h : KidsE nT base wr c v ess) (hcs : cs.length = 6)
  (hkeep : ∀ q, base <= q -> q < wr.heap.size -> v.ownBlock ≠ some q -> w2.heap[q]? = wr.heap[q]?) (hbase : base <= wr.heap.size) (hs9 : wr.heap.size <= s9) (hs2 : s9 <= w2.heap.size)
  (hown : ∀ u, t = some u -> OwnT nT (fun x => wr.heap.size <= x /\ x < s9) w2 u cs)
  (ho : w2.ownsRow base 34 6 (.slice (some ⟨g, 0, none⟩) (ess.length + 1) cap) (ess.length + 1) (ess.flatten ++ cs)) (hat : v.ownBlock = some g ∨ s9 <= g) (hg : g < w2.heap.size) :
  KidsE nT base w2 (Jfg c t) (.slice (some ⟨g, 0, none⟩) (ess.length + 1) cap) (ess ++ [cs]) := by
 refine ⟨?_, by simpa using ho, ?_, ?_⟩
 ·intro x hx
  rcases List.mem_append.1 hx with hx | hx
  ·exact h.six x hx
  simp at hx; subst hx; exact hcs
 ·intro q hq
  simp [Value.ownBlock] at hq;omega
 intro acc2 hc2;rcases c with _ | acc
 ·cases hc2
 rcases t with _ | u
 ·cases hc2
 cases hc2
 obtain ⟨hl, F, h5, h6, h7⟩ := h.good acc rfl;have hu := hown u rfl;refine ⟨by simp [hl], fun i b => (i < acc.length /\ F i b) ∨ (i = acc.length /\ wr.heap.size <= b /\ b < s9), ?_, ?_, ?_⟩
 ·rintro i b (⟨hi, hF⟩ | ⟨hi, hF1, hF2⟩)
  ·obtain ⟨f1, f2, f3⟩ := h5 i b hF
   refine ⟨f1, by omega, fun e => ?_⟩;simp [Value.ownBlock] at e;rcases hat with hat | hat
   ·rw [hat, e] at f3; exact f3 rfl
   omega
  refine ⟨by omega, by omega, fun e => ?_⟩;simp [Value.ownBlock] at e;rcases hat with hat | hat
  ·have := h.hi g hat; omega
  omega
 ·rintro i j b (⟨hi, hF⟩ | ⟨hi, hF, -⟩) (⟨hj, hG⟩ | ⟨hj, hG, -⟩)
  ·exact h6 i j b hF hG
  ·have := (h5 i b hF).2.1; omega
  ·have := (h5 j b hG).2.1; omega
  omega
 ·intro i d' es' hd' hes'
  by_cases hlt : i < acc.length
  ·rw [List.getElem?_append_left hlt] at hd'
   rw [List.getElem?_append_left (by omega)] at hes';exact (h7 i d' es' hd' hes').carry (fun b hF => hkeep b (h5 i b hF).1 (h5 i b hF).2.1 (h5 i b hF).2.2) (fun b hF => .inl ⟨hlt, hF⟩)
  have hil : i = acc.length := by
   have := (List.getElem?_eq_some_iff.1 hd').1;simp at this;omega
  subst hil;rw [List.getElem?_append_right (by omega)] at hd';rw [List.getElem?_append_right (by omega)] at hes';simp at hd';simp [hl] at hes';subst hd' hes';exact hu.carry (fun _ _ => rfl) (fun b hF => .inr ⟨rfl, hF.1, hF.2⟩)
structure LBoxI (b g : Nat) (kind : Int) (w wx : World) (vk v : Value) : Prop where
 zero : wx.heap[w.heap.size]? = some (.cells #[.int .i64 0, .bool false, .int .i64 0, .string ⟨#[]⟩, .slice none 0 0, .slice none 0 0] 34 (0, 0))
 list : wx.heap[w.heap.size + 1]? = some (.cells #[.int .i64 kind, .bool false, .int .i64 0, .string ⟨#[]⟩, vk, v] 34 (0, 0))
 aside : Aside (fun q => q = b ∨ q = g ∨ w.heap.size <= q) w wx
theorem LBoxI.same {b g : Nat} {kind : Int} {w wx wy : World} {vk v : Value} {S : Nat -> Prop} (h : LBoxI b g kind w wx vk v) (hF : Aside S wx wy) (hS : ∀ q, S q -> q = b ∨ q = g ∨ w.heap.size + 2 <= q) (hb : b < w.heap.size) (hg : g < w.heap.size) : LBoxI b g kind w wy vk v :=
 ⟨(hF.block _ (Ja h.zero) (fun hq => by have := hS _ hq; omega)).trans h.zero, (hF.block _ (Ja h.list) (fun hq => by have := hS _ hq; omega)).trans h.list, h.aside.join hF (fun q hq _ => by have := hS q hq; omega)⟩
theorem Aside.low2 {b g : Nat} {a c : World} (h : Aside (fun q => q = b ∨ q = g ∨ a.heap.size <= q) a c) : Aside (fun q => q = b ∨ q = g) a c :=
 ⟨h.os, h.tape, h.output, h.size, fun i hi hn => h.block i hi (fun hq => hq.elim (fun e => hn (.inl e)) (fun hq => hq.elim (fun e => hn (.inr e)) (fun hq => absurd hi (by omega))))⟩
def inM (N b : Nat) (w : World) : Nat := match w.cell? ⟨b, 3, none⟩ with
 | some (.int _ z) => if z = 0 then (match w.cell? ⟨b, 1, none⟩ with | some (.int _ y) => N + 1 - y.toNat | _ => 0) else 0
 | _ => 0
theorem InAt.meas {ty : TypeId} {b g N cap : Nat} {L : List LineD} {m : Nat} {f : Flt} {w : World} (h : InAt ty b g N cap L m f w) : inM N b w = if f.code = 0 then L.length + 1 else 0 := by
 obtain ⟨p, hb⟩ := h.open;obtain ⟨a0, a1, a2, a3, a4, a5, af⟩ := Jf hb.row;have := hb.pos;unfold inM;rw [a3, a1];simp only [Int.toNat_natCast];split
 ·omega
 rfl
def Jkh (ty : TypeId) (b g N cap i n d nT : Nat) (r : ResI) (w wx : World) : Prop :=
 ∃ (c : Option (List TreeD)) (v : Value) (ess : List (List Value)) (L : List LineD) (m : Nat) (f : Flt), LBoxI b g 5 w wx (.slice none 0 0) v /\ KidsE nT (w.heap.size + 2) wx c v ess /\ InAt ty b g N cap L m f wx /\ InOk L /\ ess.length <= 301 /\
  match c with
  | some acc => f = Jv /\ m <= 300 /\ acc.length <= m /\ ∃ k, JG (.list i d acc) L <= k /\ k <= n /\ r = Jn k (.list i d acc) L m
  | none => f.code ≠ 0 /\ r = .bad f
def Zg (s : ByteArray) : Bool := Qe.any fun c => decide (Jb s 0 = (c.toNat : Int))
def WY (s : ByteArray) (i : Nat) : Bool := QG i fun j => Zy (Jb s j)
def Jji (s : ByteArray) : Bool := decide (s = bs [110, 117, 108, 108]) || decide (s = bs [126]) || decide (s = bs [116, 114, 117, 101]) || decide (s = bs [102, 97, 108, 115, 101])
theorem Jkj (s : ByteArray) : Jda s = WY s s.size := by
 rw [Bool.eq_iff_iff];unfold Jda WY QG;simp only [List.all_eq_true, List.mem_range, Bool.and_eq_true, decide_eq_true_eq];constructor
 ·intro h i hi
  have hm : s.get! i ∈ s.data.toList := List.mem_of_getElem? (J7 hi);have := h _ hm;unfold Zy Jb;exact JmG (by omega)
 intro h c hc;obtain ⟨i, hi, e⟩ := List.getElem_of_mem hc;have hl : i < s.size := by rw [Jp] at hi; exact hi
 have e2 := J7 hl;rw [List.getElem?_eq_getElem hi, e] at e2;cases e2
 have h2 := h i hl;unfold Zy Jb at h2;have := of_decide_eq_true h2;omega
theorem Jbg (s : ByteArray) : Qa s = (Q6 s.size 1 400 && Qt s && !Zg s && !decide (Jb s 0 = 32) && !decide (Jb s (s.size - 1) = 32) && QG s.size (VO s) && !WY s s.size && !Jji s) := by
 have e : Q6 s.size 1 400 = (decide (1 <= s.size) && decide (s.size <= 400)) := by
  unfold Q6;rw [Bool.eq_iff_iff];simp only [Bool.and_eq_true, decide_eq_true_eq];omega
 unfold Qa Jji;rw [Jkj, e];show _ = (_ && _ && _ && !Zg s && _ && _ && _ && _ && _)
 simp only [Bool.not_or, Bool.and_assoc];rfl
theorem Vw {s : ByteArray} (h : Q6 s.size 1 400 = false ∨ Qt s = false ∨ Zg s = true ∨ Jb s 0 = 32 ∨ Jb s (s.size - 1) = 32) : Qa s = false := by
 rw [Jbg];rcases h with h | h | h | h | h <;> simp [h]
theorem Vv {s : ByteArray} {i : Nat} (hi : i < s.size) (h : VO s i = false) : Qa s = false := by
 rw [Jbg, ZI _ i _ hi h];simp
theorem JcN {s : ByteArray} (h1 : Q6 s.size 1 400 = true) (h2 : Qt s = true) (h3 : Zg s = false) (h4 : Jb s 0 ≠ 32) (h5 : Jb s (s.size - 1) ≠ 32) (h6 : QG s.size (VO s) = true) : Qa s = (!WY s s.size && !Jji s) := by
 rw [Jbg, h1, h2, h3, h6];simp [h4, h5]
structure TxtNe (x y : ByteArray) : Prop where
 dec : decide (x = y) = false
 lst : (x.toList == y.toList) = false
theorem TxtNe.of {x y : ByteArray} (h : ¬ x = y) : TxtNe x y := ⟨JmF h, JmH (fun e => h (by
 rw [ByteArray.toList_eq, ByteArray.toList_eq] at e;cases x; cases y
 congr 1
 exact Array.toList_inj.1 e))⟩
theorem Jhj (l : List UInt8) : (bs l).toList = l := by rw [ByteArray.toList_eq]; rfl
theorem Vi (s : ByteArray) (l : List UInt8) : decide (s = bs l) = (s.toList == l) := by
 by_cases e : s = bs l
 ·subst e
  rw [Jhj];simp
 have := (TxtNe.of e).lst;rw [Jhj] at this;rw [JmF e, this]
theorem Jk7 (s : ByteArray) (a b : UInt8) : Lib.hasPrefix s.data.toList [a, b] = decide (2 <= s.size /\ Jb s 0 = (a.toNat : Int) /\ Jb s 1 = (b.toNat : Int)) := by
 unfold hasPrefix;rw [Bool.eq_iff_iff, List.isPrefixOf_iff_prefix, List.prefix_iff_eq_take, decide_eq_true_eq];rw [<- Jp];rcases hl : s.data.toList with _ | ⟨x, _ | ⟨y, l⟩⟩
 ·simp
 ·simp
 have e0 := @J7 s 0 (by rw [<- Jp, hl]; simp);have e1 := @J7 s 1 (by rw [<- Jp, hl]; simp);rw [hl] at e0 e1;simp only [List.getElem?_cons_zero, List.getElem?_cons_succ, Option.some.injEq] at e0 e1;unfold Jb;rw [<- e0, <- e1];simp only [List.length_cons, List.length_nil, List.take_succ_cons, List.take_zero, List.cons.injEq, and_true];constructor
 ·rintro ⟨h1, h2⟩
  rw [h1, h2];exact ⟨by omega, rfl, rfl⟩
 rintro ⟨-, h1, h2⟩;exact ⟨(UInt8.toNat_inj.1 (by omega)).symm, (UInt8.toNat_inj.1 (by omega)).symm⟩
theorem Jhv (s : ByteArray) (a : UInt8) : Lib.hasPrefix s.data.toList [a] = decide (0 < s.size /\ Jb s 0 = (a.toNat : Int)) := by
 unfold hasPrefix;rw [Bool.eq_iff_iff, List.isPrefixOf_iff_prefix, List.prefix_iff_eq_take, decide_eq_true_eq];rw [<- Jp];rcases hl : s.data.toList with _ | ⟨x, l⟩
 ·simp
 have e0 := @J7 s 0 (by rw [<- Jp, hl]; simp);rw [hl] at e0;simp only [List.getElem?_cons_zero, Option.some.injEq] at e0;unfold Jb;rw [<- e0];simp only [List.length_cons, List.length_nil, List.take_succ_cons, List.take_zero, List.cons.injEq, and_true];constructor
 ·intro h1
  rw [h1];exact ⟨by omega, rfl⟩
 rintro ⟨-, h1⟩;exact (UInt8.toNat_inj.1 (by omega)).symm
theorem Jbi {s : ByteArray} {i : Nat} : ∀ (f k : Nat), k + f = s.size -> k <= i -> i < s.size -> (∀ j, k <= j -> j < i -> Qc s j = false) -> Qc s i = true -> Un s f k = some i
 | 0, k, h, hk, hi, _, _ => by omega
 | f + 1, k, h, hk, hi, hn, he => by
  unfold Un;rw [if_pos (by omega)];by_cases e : k = i
  ·subst e
   rw [if_pos he]
  rw [if_neg (by rw [hn k (Nat.le_refl _) (by omega)]; decide)];exact Jbi f (k + 1) (by omega) (by omega) hi (fun j h1 h2 => hn j (by omega) h2) he
theorem Jb0 {s : ByteArray} : ∀ (f k : Nat), (∀ j, k <= j -> j < s.size -> Qc s j = false) -> Un s f k = none
 | 0, k, _ => rfl
 | f + 1, k, hn => by
  unfold Un;by_cases e : k < s.size
  ·rw [if_pos e, if_neg (by rw [hn k (Nat.le_refl _) e]; decide)]
   exact Jb0 f (k + 1) (fun j h1 h2 => hn j (by omega) h2)
  rw [if_neg e]
def Jl1 : Option (ByteArray × ByteArray) -> Value
 | none => .tuple #[.string ⟨#[]⟩, .string ⟨#[]⟩, .bool false]
 | some (k, r) => .tuple #[.string k, .string r, .bool true]
def Jhx : Option (ByteArray × Nat) -> Value
 | none => .tuple #[.string ⟨#[]⟩, .int .i64 0, .bool false]
 | some (r, k) => .tuple #[.string r, .int .i64 k, .bool true]
theorem Jfe {s : ByteArray} {e : Nat} (h : 0 < s.size) (hq : Jb s 0 = 34) (hz : (Jr s 0).2 = (e : Int)) (he : Qc s e = true) : Qq s = some ((Jr s 0).1, Qb s (e + 1)) := by
 unfold Qq;rw [if_pos ⟨h, hq⟩, hz, if_pos ⟨by omega, by rw [Int.toNat_natCast]; exact he⟩, Int.toNat_natCast]
theorem Ys {s : ByteArray} (h : 0 < s.size) (hq : Jb s 0 = 34) (he : (Jr s 0).2 < 0 ∨ Qc s (Jr s 0).2.toNat = false) : Qq s = none := by
 unfold Qq;rw [if_pos ⟨h, hq⟩, if_neg];rintro ⟨h1, h2⟩;rcases he with h3 | h3
 ·omega
 rw [h3] at h2; cases h2
theorem Jdf {s : ByteArray} {i : Nat} (hq : ¬ (0 < s.size /\ Jb s 0 = 34)) (hi : i < s.size) (hn : ∀ j, j < i -> Qc s j = false) (he : Qc s i = true) : Qq s = if Qa (s.extract 0 i) then some (s.extract 0 i, Qb s (i + 1)) else none := by
 unfold Qq;rw [if_neg hq, Jbi s.size 0 (Nat.zero_add _) (Nat.zero_le _) hi (fun j _ h => hn j h) he, extract_upto];rfl
theorem Je7 {s : ByteArray} (hq : ¬ (0 < s.size /\ Jb s 0 = 34)) (hn : ∀ j, j < s.size -> Qc s j = false) : Qq s = none := by
 unfold Qq;rw [if_neg hq, Jb0 s.size 0 (fun j _ h => hn j h)]
theorem JaN (s : ByteArray) (i : Nat) : bs (trimLeftB (s.extract i s.size).data.toList 32) = Qb s i := by
 unfold Qb;rw [extract_eq, List.take_of_length_le (by rw [List.length_drop, Jp]; exact Nat.le_refl _)]
theorem JfO (s : ByteArray) (i : Nat) : (s.extract i s.size).extract (Vh (s.extract i s.size).data.toList) (s.extract i s.size).size = Qb s i := by
 have := Jer (s.extract i s.size).data.toList;have e : bs (s.extract i s.size).data.toList = s.extract i s.size := rfl;rw [e] at this;rw [this, JaN]
theorem JeK {s : ByteArray} (h : s = bs [45]) : Jy s = some (bs [], 0) := by unfold Jy; rw [if_pos h]
theorem Jdb {s : ByteArray} (h : ¬ s = bs [45]) (h2 : 2 <= s.size) (h0 : Jb s 0 = 45) (h1 : Jb s 1 = 32) : Jy s = some (Qb s 2, s.size - (Qb s 2).size) := by unfold Jy; rw [if_neg h, if_pos ⟨h2, h0, h1⟩]
theorem Wm {s : ByteArray} (h : ¬ s = bs [45]) (h2 : ¬ (2 <= s.size /\ Jb s 0 = 45 /\ Jb s 1 = 32)) : Jy s = none := by unfold Jy; rw [if_neg h, if_neg h2]
theorem Jc0 (s : ByteArray) (i : Nat) : (Qb s i).size <= s.size := by
 unfold Qb;have h := ZG (s.data.toList.drop i) 32;rw [List.length_drop, Jp] at h;have e : (bs (trimLeftB (s.data.toList.drop i) 32)).size = (trimLeftB (s.data.toList.drop i) 32).length := size_mk _;omega
theorem Ye (s : ByteArray) (w : World) (hs : s.size <= 1048576) :
  Calls Tryz.prog 101 #[.string s] w fun e w' => e = .returned (Jhx (Jy s)) /\ w = w' := by
 by_cases h : s = (⟨#[45]⟩ : ByteArray)
 ·have HF := JeK h
  subst h;rw [HF];go_enter Tryz.func101, Tryz.ntmps101
  go_wp2_with fail
  exact bodyPost_ret (v := .tuple #[.string ⟨#[]⟩, .int .i64 0, .bool true]) (by simp only [results, Tryz.results101]; go_simp) rfl ⟨rfl, rfl⟩
 have HN := TxtNe.of h;have KP := Uy s ⟨#[45, 32]⟩ w;rw [show Lib.hasPrefix s.data.toList (⟨#[45, 32]⟩ : ByteArray).data.toList = _ from Jk7 s 45 32] at KP;have KT := WI (s.extract 2 s.size) w;rw [JaN] at KT;have hz := Jc0 s 2;have k1 : (s.toList == [45]) = false := by have := HN.lst; rw [show (⟨#[45]⟩ : ByteArray).toList = [45] from by rw [ByteArray.toList_eq]] at this; exact this
 by_cases hp : 2 <= s.size /\ Jb s 0 = ((45 : UInt8).toNat : Int) /\ Jb s 1 = ((32 : UInt8).toNat : Int)
 ·rw [JmG hp] at KP
  have HF := Jdb h hp.1 hp.2.1 hp.2.2;rw [HF];obtain ⟨t, ht⟩ : ∃ t, t = Qb s 2 := ⟨_, rfl⟩
  rw [<- ht] at KT hz ⊢;have h2 : 2 <= s.size := hp.1;have h2I : (2 : Int) <= s.size := by omega
  have hw : IntKind.i64.wrap ((s.size : Int) - (t.size : Int)) = (s.size : Int) - (t.size : Int) := by rw [IntKind.wrap_i64] <;> omega
  have HK := hid (And.intro KP KT);have HC : Hid (((s.size - t.size : Nat) : Int) = (s.size : Int) - (t.size : Int)) := hid (by omega);clear KP KT hp HF ht h;go_enter Tryz.func101, Tryz.ntmps101
  go_wp2_with fail
  refine HK.out.1.mono ?_;rintro e w1 ⟨rfl, rfl⟩;go_wp2_with fail
  refine HK.out.2.mono ?_;rintro e w1 ⟨rfl, rfl⟩;go_wp2_with fail
  exact bodyPost_ret (v := .tuple #[.string t, .int .i64 ((s.size : Int) - (t.size : Int)), .bool true]) (by simp only [results, Tryz.results101]; go_simp) rfl ⟨by rw [<- HC.out]; rfl, rfl⟩
 ·rw [JmF hp] at KP
  have HF := Wm h hp;rw [HF];have HK := hid KP;clear KP KT hp HF h;go_enter Tryz.func101, Tryz.ntmps101
  go_wp2_with fail
  refine HK.out.mono ?_;rintro e w1 ⟨rfl, rfl⟩;go_wp2_with fail
  exact bodyPost_ret (v := .tuple #[.string ⟨#[]⟩, .int .i64 0, .bool false]) (by simp only [results, Tryz.results101]; go_simp) rfl ⟨rfl, rfl⟩
theorem Jkb {s : ByteArray} (h2 : 2 <= s.size) (hb : Jb s 1 = 32) : s.extract (1 + Vh (s.extract 1 s.size).data.toList) s.size = Qb s 2 /\ 1 + Vh (s.extract 1 s.size).data.toList = s.size - (Qb s 2).size := by
 have e1 : (s.extract 1 s.size).data.toList = s.data.toList.drop 1 := by rw [extract_eq, List.take_of_length_le (by rw [List.length_drop, Jp]; exact Nat.le_refl _)]
 have e2 : s.data.toList.drop 1 = 32 :: s.data.toList.drop 2 := by
  rw [YO (by omega)];congr 1
  unfold Jb at hb;exact UInt8.toNat_inj.1 (by have e : (32 : UInt8).toNat = 32 := rfl; omega)
 have e3 : trimLeftB (32 :: s.data.toList.drop 2) 32 = trimLeftB (s.data.toList.drop 2) 32 := by unfold trimLeftB; rfl
 have hl := ZG (s.data.toList.drop 2) 32;have hz : (Qb s 2).size = (trimLeftB (s.data.toList.drop 2) 32).length := size_mk _;rw [List.length_drop, Jp] at hl
 have e4 : Vh (s.extract 1 s.size).data.toList = s.size - 1 - (Qb s 2).size := by
  rw [e1, e2];unfold Vh;rw [e3, <- hz, List.length_cons, List.length_drop, Jp];omega
 refine ⟨?_, by omega⟩
 have e5 : Vh (s.data.toList.drop 2) = s.size - 2 - (Qb s 2).size := by
  unfold Vh;rw [<- hz, List.length_drop, Jp]
 have e6 : trimLeftB (s.data.toList.drop 2) 32 = (s.data.toList.drop 2).drop (Vh (s.data.toList.drop 2)) := by
  unfold Vh trimLeftB;exact List.suffix_iff_eq_drop.1 (List.dropWhile_suffix _)
 have e7 : Qb s 2 = bs ((s.data.toList.drop 2).drop (s.size - 2 - (Qb s 2).size)) := by
  rw [<- e5, <- e6];rfl
 rw [e7, List.drop_drop, e4, extract_eq, List.take_of_length_le (by rw [List.length_drop, Jp]; exact Nat.le_refl _), show 1 + (s.size - 1 - (Qb s 2).size) = 2 + (s.size - 2 - (Qb s 2).size) by omega];rfl
theorem Yc (s : ByteArray) (w : World) (hs : s.size <= 1048576) :
  Calls Tryz.prog 110 #[.string s] w fun e w' => e = .returned (Jhx (Jy s)) /\ w = w' := by
 by_cases h : s = (⟨#[45]⟩ : ByteArray)
 ·have HF := JeK h
  subst h;rw [HF];go_enter Tryz.func110, Tryz.ntmps110
  go_wp2_with fail
  exact bodyPost_ret (v := .tuple #[.string ⟨#[]⟩, .int .i64 0, .bool true]) (by simp only [results, Tryz.results110]; go_simp) rfl ⟨rfl, rfl⟩
 have k1 : (s.toList == [45]) = false := by have := (TxtNe.of h).lst; rw [show (⟨#[45]⟩ : ByteArray).toList = [45] from by rw [ByteArray.toList_eq]] at this; exact this
 by_cases h2 : 2 <= s.size
 rotate_left
 ·have HF := Wm h (fun g => h2 g.1)
  rw [HF];have d2 : decide ((s.size : Int) < 2) = true := JmG (by omega);clear HF h;go_enter Tryz.func110, Tryz.ntmps110
  go_wp2_with fail
  exact bodyPost_ret (v := .tuple #[.string ⟨#[]⟩, .int .i64 0, .bool false]) (by simp only [results, Tryz.results110]; go_simp) rfl ⟨rfl, rfl⟩
 have d2 : decide ((s.size : Int) < 2) = false := JmF (by omega);have h0 : 0 < s.size := by omega
 have h1 : 1 < s.size := by omega
 have h1I : (1 : Int) < s.size := by omega
 have h1L : (1 : Int) <= s.size := by omega
 obtain ⟨b, hbb⟩ : ∃ b : Nat, b = (s.get! 0).toNat := ⟨_, rfl⟩
 have hx : (s[0]'h0).toNat = b := by rw [hbb]; exact JA s 0 h0
 have HB : Hid (Jb s 0 = b) := hid (by unfold Jb; rw [hbb]);obtain ⟨c, hcc⟩ : ∃ b : Nat, b = (s.get! 1).toNat := ⟨_, rfl⟩
 have hxc : (s[1]'h1).toNat = c := by rw [hcc]; exact JA s 1 h1
 have HC : Hid (Jb s 1 = c) := hid (by unfold Jb; rw [hcc]);clear hbb hcc;by_cases g0 : (b : Int) = 45
 rotate_left
 ·have HF := Wm h (fun g => g0 (HB.out.symm.trans g.2.1))
  rw [HF];have j0 : ((b : Int) != 45) = true := bne_iff_ne.2 g0;have j1 : ((b : Int) == 45) = false := JmH g0;clear HF h;go_enter Tryz.func110, Tryz.ntmps110
  go_wp2_with fail
  exact bodyPost_ret (v := .tuple #[.string ⟨#[]⟩, .int .i64 0, .bool false]) (by simp only [results, Tryz.results110]; go_simp) rfl ⟨rfl, rfl⟩
 have j0 : ((b : Int) == 45) = true := beq_iff_eq.2 g0;have j0' : ((b : Int) != 45) = false := by unfold bne; rw [j0]; rfl
 by_cases g1 : (c : Int) = 32
 rotate_left
 ·have HF := Wm h (fun g => g1 (HC.out.symm.trans g.2.2))
  rw [HF];have j1 : ((c : Int) != 32) = true := bne_iff_ne.2 g1;have j1' : ((c : Int) == 32) = false := JmH g1;clear HF h;go_enter Tryz.func110, Tryz.ntmps110
  go_wp2_with fail
  exact bodyPost_ret (v := .tuple #[.string ⟨#[]⟩, .int .i64 0, .bool false]) (by simp only [results, Tryz.results110]; go_simp) rfl ⟨rfl, rfl⟩
 have j1 : ((c : Int) == 32) = true := beq_iff_eq.2 g1;have j1' : ((c : Int) != 32) = false := by unfold bne; rw [j1]; rfl
 have HF := Jdb h h2 (HB.out.trans g0) (HC.out.trans g1);have KI := Vz (s.extract 1 s.size) w (by rw [ByteArray.size_extract]; omega);obtain ⟨e1, e2⟩ := Jkb h2 (HC.out.trans g1);have hz := Jc0 s 2;rw [HF];obtain ⟨n, hn⟩ : ∃ n, n = Vh (s.extract 1 s.size).data.toList := ⟨_, rfl⟩
 rw [<- hn] at KI e1 e2;have hle : 1 + n <= s.size := by omega
 have hleI : (1 : Int) + n <= s.size := by omega
 have HK := hid KI;have HE := hid e1;rw [<- e2];clear KI e1 e2 hn HF h hz g0 g1;go_enter Tryz.func110, Tryz.ntmps110
 go_wp2_with fail
 refine HK.out.mono ?_;rintro e w1 ⟨rfl, rfl⟩;go_wp2_with fail
 exact bodyPost_ret (v := .tuple #[.string (s.extract (1 + n) s.size), .int .i64 (1 + (n : Int)), .bool true]) (by simp only [results, Tryz.results110]; go_simp) rfl ⟨by rw [HE.out, show 1 + (n : Int) = ((1 + n : Nat) : Int) by omega]; rfl, rfl⟩
theorem Zm {s : ByteArray} {i : Nat} {q1 q2 q3 : Bool} (hi : i < s.size) (h1 : decide (Jb s i = 58) = q1) (h2 : decide (i + 1 = s.size) = q2) (h3 : decide (Jb s (i + 1) = 32) = q3) : Qc s i = (q1 && (q2 || q3)) := by
 unfold Qc;rw [h1, h2, h3, JmG hi, Bool.true_and]
theorem JdJ {s : ByteArray} {i : Nat} (hi : ¬ i < s.size) : Qc s i = false := by
 unfold Qc;rw [JmF hi, Bool.false_and, Bool.false_and]
theorem X7 (s : ByteArray) (i : Nat) (w : World) (hs : s.size <= 1048576) (hi : i <= 1048576) :
  Calls Tryz.prog 181 #[.string s, .int .i64 i] w fun e w' => e = .returned (.bool (Qc s i)) /\ w = w' := by
 by_cases hlt : (i : Int) < s.size
 ·have hii : i < s.size := by omega
  have hd : decide ((i : Int) < s.size) = true := JmG hlt;have hz : (0 : Int) <= i := by omega
  obtain ⟨b, hbb⟩ : ∃ b : Nat, b = (s.get! i).toNat := ⟨_, rfl⟩
  have hx : (s[i]'hii).toNat = b := by rw [hbb]; exact JA s i hii
  have HY : Hid (Jb s i = b) := hid (by unfold Jb; rw [hbb]);clear hbb;by_cases h58 : (b : Int) = 58
  ·have k1 : ((b : Int) == 58) = true := beq_iff_eq.2 h58
   by_cases hl : (i : Int) + 1 = s.size
   ·have k2 : ((i : Int) + 1 == s.size) = true := beq_iff_eq.2 hl
    have HE := hid (Zm hii (JmG (by rw [HY.out]; exact h58)) (JmG (by omega)) rfl);go_enter Tryz.func181, Tryz.ntmps181
    go_wp2_with fail
    go_ret
    exact ⟨by rw [HE.out]; rfl, rfl⟩
   have k2 : ((i : Int) + 1 == s.size) = false := JmH hl;have hjj : i + 1 < s.size := by omega
   have hjI : (i : Int) + 1 < s.size := by omega
   have hz1 : (0 : Int) <= (i : Int) + 1 := by omega
   obtain ⟨c, hcc⟩ : ∃ c : Nat, c = (s.get! (i + 1)).toNat := ⟨_, rfl⟩
   have hxc : (s[i + 1]'hjj).toNat = c := by rw [hcc]; exact JA s (i + 1) hjj
   have HZ : Hid (Jb s (i + 1) = c) := hid (by unfold Jb; rw [hcc]);clear hcc;by_cases h32 : (c : Int) = 32
   focus
    have k3 : ((c : Int) == 32) = true := beq_iff_eq.2 h32;have HE := hid (Zm hii (JmG (by rw [HY.out]; exact h58)) (JmF (by omega)) (JmG (by rw [HZ.out]; exact h32)))
   rotate_left
   focus
    have k3 : ((c : Int) == 32) = false := JmH h32;have HE := hid (Zm hii (JmG (by rw [HY.out]; exact h58)) (JmF (by omega)) (JmF (by rw [HZ.out]; exact h32)))
   rotate_left
   all_goals
    go_enter Tryz.func181, Tryz.ntmps181
    go_wp2_with fail
    go_ret
    exact ⟨by rw [HE.out]; rfl, rfl⟩
  have k1 : ((b : Int) == 58) = false := JmH h58;have HE := hid (Zm hii (JmF (by rw [HY.out]; exact h58)) rfl rfl);go_enter Tryz.func181, Tryz.ntmps181
  go_wp2_with fail
  go_ret
  exact ⟨by rw [HE.out, Bool.false_and]; rfl, rfl⟩
 have hd : decide ((i : Int) < s.size) = false := JmF hlt;have HE := hid (JdJ (s := s) (i := i) (by omega));go_enter Tryz.func181, Tryz.ntmps181
 go_wp2_with fail
 go_ret
 exact ⟨by rw [HE.out]; rfl, rfl⟩
theorem Jaa (s : ByteArray) (i : Nat) (w : World) (hs : s.size <= 1048576) (hii : i < s.size) :
  Calls Tryz.prog 191 #[.string s, .int .i64 i] w fun e w' => e = .returned (.bool (Qc s i)) /\ w = w' := by
 have hlt : (i : Int) < s.size := by omega
 have hz : (0 : Int) <= i := by omega
 obtain ⟨b, hbb⟩ : ∃ b : Nat, b = (s.get! i).toNat := ⟨_, rfl⟩
 have hx : (s[i]'hii).toNat = b := by rw [hbb]; exact JA s i hii
 have HY : Hid (Jb s i = b) := hid (by unfold Jb; rw [hbb]);clear hbb;by_cases h58 : (b : Int) = 58
 ·have k1 : ((b : Int) == 58) = true := beq_iff_eq.2 h58
  by_cases hl : (i : Int) = (s.size : Int) - 1
  ·have k2 : ((i : Int) == (s.size : Int) - 1) = true := beq_iff_eq.2 hl
   have HE := hid (Zm hii (JmG (by rw [HY.out]; exact h58)) (JmG (by omega)) rfl);clear hl;go_enter Tryz.func191, Tryz.ntmps191
   go_wp2_with fail
   go_ret
   exact ⟨by rw [HE.out]; rfl, rfl⟩
  have k2 : ((i : Int) == (s.size : Int) - 1) = false := JmH hl;have hjj : i + 1 < s.size := by omega
  have hjI : (i : Int) + 1 < s.size := by omega
  have hz1 : (0 : Int) <= (i : Int) + 1 := by omega
  obtain ⟨c, hcc⟩ : ∃ c : Nat, c = (s.get! (i + 1)).toNat := ⟨_, rfl⟩
  have hxc : (s[i + 1]'hjj).toNat = c := by rw [hcc]; exact JA s (i + 1) hjj
  have HZ : Hid (Jb s (i + 1) = c) := hid (by unfold Jb; rw [hcc]);clear hcc;by_cases h32 : (c : Int) = 32
  focus
   have k3 : ((c : Int) == 32) = true := beq_iff_eq.2 h32;have HE := hid (Zm hii (JmG (by rw [HY.out]; exact h58)) (JmF (by omega)) (JmG (by rw [HZ.out]; exact h32)))
  rotate_left
  focus
   have k3 : ((c : Int) == 32) = false := JmH h32;have HE := hid (Zm hii (JmG (by rw [HY.out]; exact h58)) (JmF (by omega)) (JmF (by rw [HZ.out]; exact h32)))
  rotate_left
  all_goals
   go_enter Tryz.func191, Tryz.ntmps191
   go_wp2_with fail
   go_ret
   exact ⟨by rw [HE.out]; rfl, rfl⟩
 have k1 : ((b : Int) == 58) = false := JmH h58;have HE := hid (Zm hii (JmF (by rw [HY.out]; exact h58)) rfl rfl);go_enter Tryz.func191, Tryz.ntmps191
 go_wp2_with fail
 go_ret
 exact ⟨by rw [HE.out, Bool.false_and]; rfl, rfl⟩
theorem Jct (s : ByteArray) : Zg s = Qe.contains (s.get! 0) := by
 rw [List.contains_eq_any_beq];unfold Zg;congr 1
 funext c
 exact VN.symm
theorem Jj1 (s : ByteArray) : decide (0 <= Lib.indexByte Qe (s.get! 0)) = Zg s := by
 rw [Jct];rcases h : Qe.contains (s.get! 0) with _ | _
 ·exact JmF (by have := XT.2 h; omega)
 refine JmG ?_;rcases Int.lt_or_le (Lib.indexByte Qe (s.get! 0)) 0 with g | g
 ·rw [XT.1 g] at h; cases h
 exact g
theorem Jev (s : ByteArray) (b : Nat) (hb : b = (s.get! 0).toNat) (w : World) : Calls Tryz.prog 130 #[.string { data := #[45, 63, 58, 44, 91, 93, 123, 125, 38, 42, 33, 124, 62, 39, 37, 64, 96] }, .int .u8 b] w fun e w' => ∃ z : Int, e = .returned (.int .i64 z) /\ decide (0 <= z) = Zg s /\ w = w' := by
 subst hb;exact (QB _ (s.get! 0) w).mono (fun _ _ h => ⟨_, h.1, Jj1 s, h.2⟩)
theorem YV (s : ByteArray) (w : World) (hs : s.size <= 1048576) (hT : Tabs w) :
  Calls Tryz.prog 182 #[.string s] w fun e w' => e = .returned (.bool (Qa s)) /\ Below w.heap.size w w' := by
 have HU := hid (ZB s w (by omega) hT);obtain ⟨r, hr⟩ : ∃ r, r = Qa s := ⟨_, rfl⟩
 rw [<- hr];have HR := hid hr;clear hr hT;rcases hq1 : Q6 s.size 1 400 with _ | _
 ·have HF := hid (HR.out.trans (Vw (.inl hq1)))
  go_enter Tryz.func182, Tryz.ntmps182
  go_wp2_with (first | (go_at_call 63; refine (JW _ _ _ _).mono ?_; rintro e w' ⟨rfl, rfl⟩))
  go_ret
  exact ⟨by rw [HF.out]; rfl, Jj⟩
 have hq : 1 <= s.size /\ s.size <= 400 := by
  unfold Q6 at hq1;have := of_decide_eq_true hq1;omega
 obtain ⟨hsz1, hsz4⟩ := hq;rcases hq2 : Qt s with _ | _
 ·have HF := hid (HR.out.trans (Vw (.inr (.inl hq2))))
  rw [hq2] at HU;go_enter Tryz.func182, Tryz.ntmps182
  go_wp2_with (first | (go_at_call 222; refine HU.out.mono ?_; rintro e w1 ⟨rfl, hb1⟩) | (go_at_call 63; refine (JW _ _ _ _).mono ?_; rintro e w' ⟨rfl, rfl⟩))
  go_ret
  exact ⟨by rw [HF.out]; rfl, Jj⟩
 rw [hq2] at HU;obtain ⟨p, hp⟩ : ∃ p, s.size = p + 1 := ⟨s.size - 1, by omega⟩
 have hpz : (s.size : Int) = (p : Int) + 1 := by omega
 have hq1p : Q6 ((p : Int) + 1) 1 400 = true := by rw [<- hpz]; exact hq1
 have h0 : 0 < s.size := by omega
 have hpp : p < s.size := by omega
 have hps : s.size - 1 = p := by omega
 obtain ⟨b, hbb⟩ : ∃ b : Nat, b = (s.get! 0).toNat := ⟨_, rfl⟩
 have hx : (s[0]'h0).toNat = b := by rw [hbb]; exact JA s 0 h0
 obtain ⟨l, hll⟩ : ∃ b : Nat, b = (s.get! p).toNat := ⟨_, rfl⟩
 have hxl : (s[p]'hpp).toNat = l := by rw [hll]; exact JA s p hpp
 have HB : Hid (Jb s 0 = b) := hid (by unfold Jb; rw [hbb]);have HL : Hid (Jb s (s.size - 1) = l) := hid (by rw [hps]; unfold Jb; rw [hll]);have HI := hid (Jev s b hbb);clear hbb hll hps hp hsz1;rcases hq3 : Zg s with _ | _
 rotate_left
 ·have HF := hid (HR.out.trans (Vw (.inr (.inr (.inl hq3)))))
  rw [hq3] at HI;go_enter Tryz.func182, Tryz.ntmps182
  go_wp2_with (first | (go_at_call 222; refine HU.out.mono ?_; rintro e w1 ⟨rfl, hb1⟩) | (go_at_call 130; refine (HI.out _).mono ?_; rintro e w1 ⟨z, rfl, hz, rfl⟩; have hz2 := of_decide_eq_true hz) | (go_at_call 63; refine (JW _ _ _ _).mono ?_; rintro e w' ⟨rfl, rfl⟩))
  go_ret
  exact ⟨by rw [HF.out]; rfl, Jj⟩
 rw [hq3] at HI;have HQ := hid hq3;clear hq3;by_cases h4 : (b : Int) = 32
 ·have HF := hid (HR.out.trans (Vw (.inr (.inr (.inr (.inl (HB.out.trans h4)))))))
  have k4 : ((b : Int) == 32) = true := beq_iff_eq.2 h4;clear h4;go_enter Tryz.func182, Tryz.ntmps182
  go_wp2_with (first | (go_at_call 222; refine HU.out.mono ?_; rintro e w1 ⟨rfl, hb1⟩) | (go_at_call 130; refine (HI.out _).mono ?_; rintro e w1 ⟨z, rfl, hz, rfl⟩; have hz2 := of_decide_eq_false hz) | (go_at_call 63; refine (JW _ _ _ _).mono ?_; rintro e w' ⟨rfl, rfl⟩))
  go_ret
  exact ⟨by rw [HF.out]; rfl, Jj⟩
 have k4 : ((b : Int) == 32) = false := JmH h4;by_cases h5 : (l : Int) = 32
 ·have HF := hid (HR.out.trans (Vw (.inr (.inr (.inr (.inr (HL.out.trans h5)))))))
  have k5 : ((l : Int) == 32) = true := beq_iff_eq.2 h5;clear h5;go_enter Tryz.func182, Tryz.ntmps182
  go_wp2_with (first | (go_at_call 222; refine HU.out.mono ?_; rintro e w1 ⟨rfl, hb1⟩) | (go_at_call 130; refine (HI.out _).mono ?_; rintro e w1 ⟨z, rfl, hz, rfl⟩; have hz2 := of_decide_eq_false hz) | (go_at_call 63; refine (JW _ _ _ _).mono ?_; rintro e w' ⟨rfl, rfl⟩))
  go_ret
  exact ⟨by rw [HF.out]; rfl, Jj⟩
 have k5 : ((l : Int) == 32) = false := JmH h5;have HG := hid (fun h6 => JcN hq1 hq2 HQ.out (by rw [HB.out]; exact h4) (by rw [HL.out]; exact h5) h6);go_enter Tryz.func182, Tryz.ntmps182
 go_wp2_with (first | (go_at_call 222; refine HU.out.mono ?_; rintro e w1 ⟨rfl, hb1⟩) | (go_at_call 130; refine (HI.out _).mono ?_; rintro e w1 ⟨z, rfl, hz, rfl⟩; have hz2 := of_decide_eq_false hz) | (go_at_call 63; refine (JW _ _ _ _).mono ?_; rintro e w' ⟨rfl, rfl⟩))
 have HB1 := hid hb1;clear hb1 hq1p hpp hx hxl k4 k5 h4 h5;go_loop [3, 36] (fun s3 s36 => ∃ k : Nat, s3 = .bool (WY s k) /\ s36 = .int .i64 k /\ k <= s.size /\ QG k (VO s) = true) (fun _ s36 => s.size - (intOf s36).toNat)
 case atStart => exact ⟨0, rfl, rfl, Nat.zero_le _, rfl⟩
 case round =>
  obtain ⟨k, rfl, rfl, hk, ha⟩ := hrel;have HA := hid ha;clear ha;obtain ⟨dg, hdg⟩ : ∃ q, q = WY s k := ⟨_, rfl⟩
  rw [<- hdg];have HD := hid hdg;clear hdg;by_cases hlt : (k : Int) < s.size
  ·have hkk : k < s.size := by omega
   have hd : decide ((k : Int) < (p : Int) + 1) = true := JmG (by omega);have hz : (0 : Int) <= k := by omega
   obtain ⟨c, hcc⟩ : ∃ c : Nat, c = (s.get! k).toNat := ⟨_, rfl⟩
   have hxc : (s[k]'hkk).toNat = c := by rw [hcc]; exact JA s k hkk
   have HC : Hid (Jb s k = c) := hid (by unfold Jb; rw [hcc]);clear hcc;have HE := hid (X7 s k w1 (by omega) (by omega));obtain ⟨en, hen⟩ : ∃ q, q = Qc s k := ⟨_, rfl⟩
   rw [<- hen] at HE;have HN := hid hen;clear hen;have HP : Hid (VO s k = !(decide ((c : Int) < 32) || decide ((c : Int) = 34) || decide ((c : Int) = 35) || decide ((c : Int) = 92) || en)) := hid (by unfold VO; rw [HC.out, <- HN.out]);by_cases g1 : (c : Int) < 32
   ·have j1 : decide ((c : Int) < 32) = true := JmG g1
    have HF := hid (HR.out.trans (Vv hkk (by rw [HP.out, j1]; rfl)));go_wp2_with fail
    go_ret
    exact ⟨by rw [HF.out]; rfl, HB1.out⟩
   have j1 : decide ((c : Int) < 32) = false := JmF g1;by_cases g2 : (c : Int) = 34
   ·have j2 : ((c : Int) == 34) = true := beq_iff_eq.2 g2
    have HF := hid (HR.out.trans (Vv hkk (by rw [HP.out, JmG g2]; simp)));go_wp2_with fail
    go_ret
    exact ⟨by rw [HF.out]; rfl, HB1.out⟩
   have j2 : ((c : Int) == 34) = false := JmH g2;by_cases g3 : (c : Int) = 35
   ·have j3 : ((c : Int) == 35) = true := beq_iff_eq.2 g3
    have HF := hid (HR.out.trans (Vv hkk (by rw [HP.out, JmG g3]; simp)));go_wp2_with fail
    go_ret
    exact ⟨by rw [HF.out]; rfl, HB1.out⟩
   have j3 : ((c : Int) == 35) = false := JmH g3;by_cases g4 : (c : Int) = 92
   ·have j4 : ((c : Int) == 92) = true := beq_iff_eq.2 g4
    have HF := hid (HR.out.trans (Vv hkk (by rw [HP.out, JmG g4]; simp)));go_wp2_with fail
    go_ret
    exact ⟨by rw [HF.out]; rfl, HB1.out⟩
   have j4 : ((c : Int) == 92) = false := JmH g4;rcases en with _ | _
   rotate_left
   ·have HF := hid (HR.out.trans (Vv hkk (by rw [HP.out]; simp)))
    go_wp2_with (go_at_call 181; refine HE.out.mono ?_; rintro e w2 ⟨rfl, rfl⟩)
    go_ret
    exact ⟨by rw [HF.out]; rfl, HB1.out⟩
   have HA2 : Hid (QG (k + 1) (VO s) = true) := hid (by rw [Vc, HA.out, HP.out, JmF g1, JmF g2, JmF g3, JmF g4]; rfl);have HD2 : Hid (WY s (k + 1) = (dg && Zy (c : Int))) := hid (by rw [HD.out, <- HC.out]; unfold WY; exact Vc _ _);rcases dg with _ | _
   all_goals
    go_wp2_with (first | (go_at_call 181; refine HE.out.mono ?_; rintro e w2 ⟨rfl, rfl⟩) | (go_at_call 201; refine (Y8 _ _).mono ?_; rintro e w' ⟨rfl, rfl⟩))
    go_round
    ·exact ⟨k + 1, by rw [HD2.out]; rfl, by go_num, hkk, HA2.out⟩
    first | omega | (simp [intOf]; done) | (simp [intOf]; omega)
  have hd : decide ((k : Int) < (p : Int) + 1) = false := JmF (by omega);have hke : k = s.size := by omega
  have HF := hid (HR.out.trans (HG.out (hke ▸ HA.out)));have HD3 := hid (hke ▸ HD.out);rw [<- HD3.out] at HF;obtain ⟨q1, hm1⟩ : ∃ q, (s.toList == [110, 117, 108, 108]) = q := ⟨_, rfl⟩
  obtain ⟨q2, hm2⟩ : ∃ q, (s.toList == [126]) = q := ⟨_, rfl⟩
  obtain ⟨q3, hm3⟩ : ∃ q, (s.toList == [116, 114, 117, 101]) = q := ⟨_, rfl⟩
  obtain ⟨q4, hm4⟩ : ∃ q, (s.toList == [102, 97, 108, 115, 101]) = q := ⟨_, rfl⟩
  have HW : Hid (r = (!dg && !(q1 || q2 || q3 || q4))) := hid (by
   rw [HF.out];unfold Jji;simp only [Vi]
   rw [<- hm1, <- hm2, <- hm3, <- hm4])
  clear HF;rcases dg with _ | _
  ·rcases q1 with _ | _ <;> rcases q2 with _ | _ <;> rcases q3 with _ | _ <;> rcases q4 with _ | _
   all_goals
    go_wp2_with fail
    go_ret
    exact ⟨by rw [HW.out]; rfl, HB1.out⟩
  go_wp2_with fail
  go_ret
  exact ⟨by rw [HW.out]; rfl, HB1.out⟩
theorem Xx (s : ByteArray) (w : World) (hs : s.size <= 1048576) (hV : CTab w) (hT : Tabs w) :
  Calls Tryz.prog 103 #[.string s] w fun e w' => e = .returned (Jl1 (Qq s)) /\ Below w.heap.size w w' := by
 have KP := Uy s ⟨#[34]⟩ w;rw [show Lib.hasPrefix s.data.toList (⟨#[34]⟩ : ByteArray).data.toList = _ from Jhv s 34] at KP;have HKT := hid (fun (i : Nat) (W : World) => WI (s.extract i s.size) W);obtain ⟨r, hr⟩ : ∃ r, r = Qq s := ⟨_, rfl⟩
 rw [<- hr];have HR := hid hr;clear hr;by_cases hq : 0 < s.size /\ Jb s 0 = ((34 : UInt8).toNat : Int)
 ·rw [JmG hq] at KP
  have HK := hid KP;have HQ := hid (Zq s 0 w hs (by omega) hV hT);have hnx := Jbo s 0;obtain ⟨k, a, hka⟩ : ∃ k a, Jr s 0 = (k, a) := ⟨_, _, rfl⟩
  rw [hka] at HQ hnx;have hk1 : (Jr s 0).1 = k := by rw [hka]
  have hk2 : (Jr s 0).2 = a := by rw [hka]
  have HK2 := hid (And.intro hk1 hk2);have HQ0 := hid hq;clear KP hka hV hT hk1 hk2 hq;simp only at hnx;by_cases ha : a < 0
  ·have hd : decide (a < 0) = true := JmG ha
   have HF := hid (HR.out.trans (Ys HQ0.out.1 HQ0.out.2 (.inl (by rw [HK2.out.2]; exact ha))));clear hnx;go_enter Tryz.func103, Tryz.ntmps103
   go_wp2_with fail
   refine HK.out.mono ?_;rintro e w1 ⟨rfl, rfl⟩;go_wp2_with fail
   refine HQ.out.mono ?_;rintro e w1 ⟨rfl, hb1⟩;go_wp2_with fail
   exact bodyPost_ret (v := .tuple #[.string ⟨#[]⟩, .string ⟨#[]⟩, .bool false]) (by simp only [results, Tryz.results103]; go_simp) rfl ⟨by rw [HF.out]; rfl, Jj⟩
  obtain ⟨e, rfl⟩ : ∃ e : Nat, a = (e : Int) := ⟨a.toNat, by omega⟩
  have he : e <= s.size := by omega
  have hd : decide ((e : Int) < 0) = false := JmF ha;have HE := hid (fun W => X7 s e W hs (by omega));clear hnx ha;rcases hen : Qc s e with _ | _
  ·rw [hen] at HE
   have HF := hid (HR.out.trans (Ys HQ0.out.1 HQ0.out.2 (.inr (by rw [HK2.out.2, Int.toNat_natCast]; exact hen))));clear hen;go_enter Tryz.func103, Tryz.ntmps103
   go_wp2_with fail
   refine HK.out.mono ?_;rintro e w1 ⟨rfl, rfl⟩;go_wp2_with fail
   refine HQ.out.mono ?_;rintro e w1 ⟨rfl, hb1⟩;go_wp2_with (go_at_call 181; refine (HE.out _).mono ?_; rintro e w2 ⟨rfl, rfl⟩)
   exact bodyPost_ret (v := .tuple #[.string ⟨#[]⟩, .string ⟨#[]⟩, .bool false]) (by simp only [results, Tryz.results103]; go_simp) rfl ⟨by rw [HF.out]; rfl, Jj⟩
  rw [hen] at HE;have HF := hid (HR.out.trans (Jfe HQ0.out.1 HQ0.out.2 HK2.out.2 hen))
  have hes : e < s.size := by
   unfold Qc at hen;rw [Bool.and_eq_true, Bool.and_eq_true, decide_eq_true_eq] at hen;exact hen.1.1
  have hesI : (e : Int) + 1 <= s.size := by omega
  have hz1 : (0 : Int) <= (e : Int) + 1 := by omega
  have hesN : e + 1 <= s.size := hes;have HT1 := hid (HKT.out (e + 1));rw [JaN] at HT1;rw [HK2.out.1] at HF;obtain ⟨t, ht⟩ : ∃ t, t = Qb s (e + 1) := ⟨_, rfl⟩
  rw [<- ht] at HT1 HF;clear hen ht;go_enter Tryz.func103, Tryz.ntmps103
  go_wp2_with fail
  refine HK.out.mono ?_;rintro e w1 ⟨rfl, rfl⟩;go_wp2_with fail
  refine HQ.out.mono ?_;rintro e w1 ⟨rfl, hb1⟩;go_wp2_with (go_at_call 181; refine (HE.out _).mono ?_; rintro e w2 ⟨rfl, rfl⟩)
  refine (HT1.out _).mono ?_;rintro e w2 ⟨rfl, rfl⟩;go_wp2_with fail
  exact bodyPost_ret (v := .tuple #[.string k, .string t, .bool true]) (by simp only [results, Tryz.results103]; go_simp) rfl ⟨by rw [HF.out]; rfl, Jj⟩
 rw [JmF hq] at KP;have HK := hid KP;have HQ0 := hid hq;have HVT := hid (And.intro hV hT);clear KP hV hT hq;go_enter Tryz.func103, Tryz.ntmps103
 go_wp2_with fail
 refine HK.out.mono ?_;rintro e w1 ⟨rfl, rfl⟩;go_wp2_with fail
 go_loop [31] (fun s31 => ∃ k : Nat, s31 = .int .i64 k /\ k <= s.size /\ ∀ j, j < k -> Qc s j = false) (fun s31 => s.size - (intOf s31).toNat)
 case atStart => exact ⟨0, rfl, Nat.zero_le _, fun j hj => absurd hj (by omega)⟩
 case round =>
  obtain ⟨k, rfl, hk, ha⟩ := hrel;have HA := hid ha;clear ha;by_cases hlt : (k : Int) < s.size
  ·have hkk : k < s.size := by omega
   have hd : decide ((k : Int) < s.size) = true := JmG hlt;have hz : (0 : Int) <= k := by omega
   have hkI : (k : Int) <= s.size := by omega
   have HE := hid (X7 s k w hs (by omega));rcases hen : Qc s k with _ | _
   ·rw [hen] at HE
    have HN := hid hen;clear hen;go_wp2_with (go_at_call 181; refine HE.out.mono ?_; rintro e w2 ⟨rfl, rfl⟩)
    go_round
    ·exact ⟨k + 1, by go_num, hkk, fun j hj => by
      rcases Nat.lt_or_ge j k with h | h
      ·exact HA.out j h
      rw [show j = k by omega]; exact HN.out⟩
    first | omega | (simp [intOf]; done) | (simp [intOf]; omega)
   rw [hen] at HE;have HF := hid (HR.out.trans (Jdf HQ0.out hkk HA.out hen));have HP := hid (YV (s.extract 0 k) w (by rw [ByteArray.size_extract]; omega) HVT.out.2);have hesI : (k : Int) + 1 <= s.size := by omega
   have hz1 : (0 : Int) <= (k : Int) + 1 := by omega
   have hesN : k + 1 <= s.size := hkk;have HT1 := hid (HKT.out (k + 1));rw [JaN] at HT1;obtain ⟨t, ht⟩ : ∃ t, t = Qb s (k + 1) := ⟨_, rfl⟩
   rw [<- ht] at HT1 HF;clear hen ht;rcases hpl : Qa (s.extract 0 k) with _ | _
   ·rw [hpl] at HP HF
    clear hpl;go_wp2_with (go_at_call 181; refine HE.out.mono ?_; rintro e w2 ⟨rfl, rfl⟩)
    refine HP.out.mono ?_;rintro e w1 ⟨rfl, hb1⟩;go_wp2_with fail
    exact bodyPost_ret (v := .tuple #[.string ⟨#[]⟩, .string ⟨#[]⟩, .bool false]) (by simp only [results, Tryz.results103]; go_simp) rfl ⟨by rw [HF.out]; rfl, Jj⟩
   rw [hpl] at HP HF;clear hpl;go_wp2_with (go_at_call 181; refine HE.out.mono ?_; rintro e w2 ⟨rfl, rfl⟩)
   refine HP.out.mono ?_;rintro e w1 ⟨rfl, hb1⟩;have HB1 := hid hb1;clear hb1;go_wp2_with fail
   refine Jm 11 (by kernel_rfl) (by kernel_rfl) (by decide) ?_
   iterate 7 refine ds ?_
   (apply Exists.intro; refine And.intro ?_ ?_; (focus (intro W hW; (try simp only [Act.put, List.setIfInBounds_toArray, List.set_cons_zero, List.set_cons_succ]); first | (obtain ⟨hcW, hfW⟩ := JE hW; have hsW := hW.size; (try simp at hsW); (try have hsW0 := Jd hsW); (try (have hsW1 := Jc hsW; (try (have hsW2 := Jc hsW1)))); go_wp2_with (first | (go_at_call 175; refine (HT1.out _).mono ?_; rintro e w9 ⟨rfl, rfl⟩)); exact ⟨rfl, rfl, Jj⟩))))
   iterate 3 refine ds ?_
   intro wd hbwd
   (try simp only [Act.put, List.setIfInBounds_toArray, List.set_cons_zero, List.set_cons_succ])
   (try simp only [List.drop_succ_cons, List.drop_nil])
   have HBd := hid (HB1.out.trans (hbwd.mono HB1.out.size));clear hbwd;go_wp2_with fail
   exact bodyPost_ret (v := .tuple #[.string (s.extract 0 k), .string t, .bool true]) (by simp only [results, Tryz.results103]; go_simp) rfl ⟨by rw [HF.out]; rfl, HBd.out⟩
  have hd : decide ((k : Int) < s.size) = false := JmF hlt;have HF := hid (HR.out.trans (Je7 HQ0.out (fun j hj => HA.out j (by omega))));go_wp2_with fail
  exact bodyPost_ret (v := .tuple #[.string ⟨#[]⟩, .string ⟨#[]⟩, .bool false]) (by simp only [results, Tryz.results103]; go_simp) rfl ⟨by rw [HF.out]; rfl, Jj⟩
def JcL : Option TreeD -> Value
 | none => .tuple #[.agg #[.int .i64 0, .bool false, .int .i64 0, .string ⟨#[]⟩, .slice none 0 0, .slice none 0 0], .bool false]
 | some t => .tuple #[.agg #[.int .i64 t.kind, .bool t.flag, .int .i64 t.num, .string t.text, .slice none 0 0, .slice none 0 0], .bool true]
theorem Jhr {s : ByteArray} (h : s = ⟨#[91, 93]⟩) : JL s = some (JY []) := by subst h; kernel_rfl
theorem JhT {s : ByteArray} (h : s = ⟨#[123, 125]⟩) : JL s = some (QD [] []) := by subst h; kernel_rfl
theorem JhO {s : ByteArray} (h : s = ⟨#[110, 117, 108, 108]⟩) : JL s = some UD := by subst h; kernel_rfl
theorem JhI {s : ByteArray} (h : s = ⟨#[126]⟩) : JL s = some UD := by subst h; kernel_rfl
theorem JhG {s : ByteArray} (h : s = ⟨#[116, 114, 117, 101]⟩) : JL s = some (Wx true) := by subst h; kernel_rfl
theorem Jha {s : ByteArray} (h : s = ⟨#[102, 97, 108, 115, 101]⟩) : JL s = some (Wx false) := by subst h; kernel_rfl
structure ScalNo (s : ByteArray) : Prop where
 c1 : ¬ s = ⟨#[91, 93]⟩
 c2 : ¬ s = ⟨#[123, 125]⟩
 c3 : ¬ s = ⟨#[110, 117, 108, 108]⟩
 c4 : ¬ s = ⟨#[126]⟩
 c5 : ¬ s = ⟨#[116, 114, 117, 101]⟩
 c6 : ¬ s = ⟨#[102, 97, 108, 115, 101]⟩
theorem We {s : ByteArray} (h : ScalNo s) : JL s = if 0 < s.size /\ Jb s 0 = 34 then (if (Jr s 0).2 = s.size /\ (Jr s 0).1.size <= 400 then some (VR (Jr s 0).1) else none)
 else if (JF s 0).2 = s.size /\ 0 < (JF s 0).2 then some (Jid (JF s 0).1)
 else if Qa s then some (VR s) else none := by
 unfold JL;rw [if_neg (show ¬ s = bs [91, 93] from h.c1), if_neg (show ¬ s = bs [123, 125] from h.c2), if_neg (show ¬ (s = bs [110, 117, 108, 108] ∨ s = bs [126]) from fun g => g.elim h.c3 h.c4), if_neg (show ¬ s = bs [116, 114, 117, 101] from h.c5), if_neg (show ¬ s = bs [102, 97, 108, 115, 101] from h.c6)]
theorem YF {s : ByteArray} (h : ScalNo s) (hq : 0 < s.size /\ Jb s 0 = 34) (hn : ¬ ((Jr s 0).2 = s.size /\ (Jr s 0).1.size <= 400)) : JL s = none := by
 rw [We h, if_pos hq, if_neg hn]
theorem JdD {s : ByteArray} (h : ScalNo s) (hq : 0 < s.size /\ Jb s 0 = 34) (h1 : (Jr s 0).2 = s.size) (h2 : (Jr s 0).1.size <= 400) : JL s = some (VR (Jr s 0).1) := by
 rw [We h, if_pos hq, if_pos ⟨h1, h2⟩]
theorem JfW {s : ByteArray} (h : ScalNo s) (hq : ¬ (0 < s.size /\ Jb s 0 = 34)) (h1 : (JF s 0).2 = s.size) (h2 : 0 < (JF s 0).2) : JL s = some (Jid (JF s 0).1) := by
 rw [We h, if_neg hq, if_pos ⟨h1, h2⟩]
theorem JaF {s : ByteArray} (h : ScalNo s) (hq : ¬ (0 < s.size /\ Jb s 0 = 34)) (h1 : ¬ ((JF s 0).2 = s.size /\ 0 < (JF s 0).2)) : JL s = if Qa s then some (VR s) else none := by
 rw [We h, if_neg hq, if_neg h1]
theorem JfP {s : ByteArray} (h : ScalNo s) (hq : ¬ (0 < s.size /\ Jb s 0 = 34)) (h1 : ¬ ((JF s 0).2 = s.size /\ 0 < (JF s 0).2)) (hp : Qa s = true) : JL s = some (VR s) := by
 rw [JaF h hq h1, if_pos hp]
theorem JcT {s : ByteArray} (h : ScalNo s) (hq : ¬ (0 < s.size /\ Jb s 0 = 34)) (h1 : ¬ ((JF s 0).2 = s.size /\ 0 < (JF s 0).2)) (hp : Qa s = false) : JL s = none := by
 rw [JaF h hq h1, if_neg (by rw [hp]; decide)]
theorem Xm (s : ByteArray) (w : World) (hs : s.size <= 1048576) (hV : CTab w) (hT : Tabs w) (hE : ErrR w) :
  Calls Tryz.prog 186 #[.string s] w fun e w' => e = .returned (JcL (JL s)) /\ Below w.heap.size w w' := by
 by_cases c1 : s = (⟨#[91, 93]⟩ : ByteArray)
 ·have HF := Jhr c1
  subst c1;rw [HF];clear HF;go_enter Tryz.func186, Tryz.ntmps186
  go_wp2_with fail
  exact bodyPost_ret (v := .tuple #[.agg #[.int .i64 5, .bool false, .int .i64 0, .string ⟨#[]⟩, .slice none 0 0, .slice none 0 0], .bool true]) (by simp only [results, Tryz.results186]; go_simp) rfl ⟨rfl, Jj⟩
 have k1 : (s.toList == [91, 93]) = false := by rw [<- Vi]; exact JmF c1
 by_cases c2 : s = (⟨#[123, 125]⟩ : ByteArray)
 ·have HF := JhT c2
  subst c2;rw [HF];clear HF;go_enter Tryz.func186, Tryz.ntmps186
  go_wp2_with fail
  exact bodyPost_ret (v := .tuple #[.agg #[.int .i64 6, .bool false, .int .i64 0, .string ⟨#[]⟩, .slice none 0 0, .slice none 0 0], .bool true]) (by simp only [results, Tryz.results186]; go_simp) rfl ⟨rfl, Jj⟩
 have k2 : (s.toList == [123, 125]) = false := by rw [<- Vi]; exact JmF c2
 by_cases c3 : s = (⟨#[110, 117, 108, 108]⟩ : ByteArray)
 ·have HF := JhO c3
  subst c3;rw [HF];clear HF;go_enter Tryz.func186, Tryz.ntmps186
  go_wp2_with fail
  exact bodyPost_ret (v := .tuple #[.agg #[.int .i64 1, .bool false, .int .i64 0, .string ⟨#[]⟩, .slice none 0 0, .slice none 0 0], .bool true]) (by simp only [results, Tryz.results186]; go_simp) rfl ⟨rfl, Jj⟩
 have k3 : (s.toList == [110, 117, 108, 108]) = false := by rw [<- Vi]; exact JmF c3
 by_cases c4 : s = (⟨#[126]⟩ : ByteArray)
 ·have HF := JhI c4
  subst c4;rw [HF];clear HF;go_enter Tryz.func186, Tryz.ntmps186
  go_wp2_with fail
  exact bodyPost_ret (v := .tuple #[.agg #[.int .i64 1, .bool false, .int .i64 0, .string ⟨#[]⟩, .slice none 0 0, .slice none 0 0], .bool true]) (by simp only [results, Tryz.results186]; go_simp) rfl ⟨rfl, Jj⟩
 have k4 : (s.toList == [126]) = false := by rw [<- Vi]; exact JmF c4
 by_cases c5 : s = (⟨#[116, 114, 117, 101]⟩ : ByteArray)
 ·have HF := JhG c5
  subst c5;rw [HF];clear HF;go_enter Tryz.func186, Tryz.ntmps186
  go_wp2_with fail
  exact bodyPost_ret (v := .tuple #[.agg #[.int .i64 2, .bool true, .int .i64 0, .string ⟨#[]⟩, .slice none 0 0, .slice none 0 0], .bool true]) (by simp only [results, Tryz.results186]; go_simp) rfl ⟨rfl, Jj⟩
 have k5 : (s.toList == [116, 114, 117, 101]) = false := by rw [<- Vi]; exact JmF c5
 by_cases c6 : s = (⟨#[102, 97, 108, 115, 101]⟩ : ByteArray)
 ·have HF := Jha c6
  subst c6;rw [HF];clear HF;go_enter Tryz.func186, Tryz.ntmps186
  go_wp2_with fail
  exact bodyPost_ret (v := .tuple #[.agg #[.int .i64 2, .bool false, .int .i64 0, .string ⟨#[]⟩, .slice none 0 0, .slice none 0 0], .bool true]) (by simp only [results, Tryz.results186]; go_simp) rfl ⟨rfl, Jj⟩
 have k6 : (s.toList == [102, 97, 108, 115, 101]) = false := by rw [<- Vi]; exact JmF c6
 have HC := hid (ScalNo.mk c1 c2 c3 c4 c5 c6);clear c1 c2 c3 c4 c5 c6;obtain ⟨r, hr⟩ : ∃ r, r = JL s := ⟨_, rfl⟩
 rw [<- hr];have HR := hid hr;clear hr;have KP := fun (W : World) => Uy s ⟨#[34]⟩ W
 rw [show Lib.hasPrefix s.data.toList (⟨#[34]⟩ : ByteArray).data.toList = _ from Jhv s 34] at KP;have HVT := hid (And.intro hV (And.intro hT hE));clear hV hT hE;by_cases hq : 0 < s.size /\ Jb s 0 = ((34 : UInt8).toNat : Int)
 ·rw [JmG hq] at KP
  have HK := hid KP;have HQ := hid (fun (W : World) (hb : Below w.heap.size w W) => Zq s 0 W hs (by omega) (HVT.out.1.below hb) (HVT.out.2.1.below hb));obtain ⟨k, a, hka⟩ : ∃ k a, Jr s 0 = (k, a) := ⟨_, _, rfl⟩
  rw [hka] at HQ;have hk1 : (Jr s 0).1 = k := by rw [hka]
  have hk2 : (Jr s 0).2 = a := by rw [hka]
  have HK2 := hid (And.intro hk1 hk2);have HQ0 := hid hq;clear KP;clear hka hk1 hk2 hq;by_cases h1 : a = (s.size : Int)
  rotate_left
  ·have d1 : (a != (s.size : Int)) = true := bne_iff_ne.2 h1
   have d2 : (a == (s.size : Int)) = false := JmH h1;have HF := hid (HR.out.trans (YF HC.out HQ0.out (fun h => h1 (HK2.out.2.symm.trans h.1))));clear h1;go_enter Tryz.func186, Tryz.ntmps186
   go_wp2_with fail
   refine (HK.out _).mono ?_;rintro e w0 ⟨rfl, rfl⟩;go_wp2_with fail
   refine (HQ.out _ Jj).mono ?_;rintro e w1 ⟨rfl, hb1⟩;have HT1 := hid ((hb1.block w.heap.size (by simp)).trans (Je (w := w) (o := .cells #[.int .i64 0, .bool false, .int .i64 0, .string ⟨#[]⟩, .slice none 0 0, .slice none 0 0] 34) rfl));have HB1 := hid (Jj : Below w.heap.size w w1);obtain ⟨x0, x1, x2, x3, x4, x5, xf⟩ := Jf HT1.out;have l1 := Ja HT1.out;clear hb1;go_wp2_with fail
   exact bodyPost_ret (v := .tuple #[.agg #[.int .i64 0, .bool false, .int .i64 0, .string ⟨#[]⟩, .slice none 0 0, .slice none 0 0], .bool false]) (by simp only [results, Tryz.results186]; go_simp) rfl ⟨by rw [HF.out]; rfl, HB1.out.trans (Aside.below (S := fun q => q = w.heap.size) QC HB1.out.size (fun i hi => by omega))⟩
  have d2 : (a == (s.size : Int)) = true := beq_iff_eq.2 h1;have d1 : (a != (s.size : Int)) = false := by unfold bne; rw [d2]; rfl
  by_cases h2 : (400 : Int) < k.size
  ·have d3 : decide ((400 : Int) < k.size) = true := JmG h2
   have HF := hid (HR.out.trans (YF HC.out HQ0.out (fun h => by have := h.2; rw [HK2.out.1] at this; omega)));clear h1;go_enter Tryz.func186, Tryz.ntmps186
   go_wp2_with fail
   refine (HK.out _).mono ?_;rintro e w0 ⟨rfl, rfl⟩;go_wp2_with fail
   refine (HQ.out _ Jj).mono ?_;rintro e w1 ⟨rfl, hb1⟩;have HT1 := hid ((hb1.block w.heap.size (by simp)).trans (Je (w := w) (o := .cells #[.int .i64 0, .bool false, .int .i64 0, .string ⟨#[]⟩, .slice none 0 0, .slice none 0 0] 34) rfl));have HB1 := hid (Jj : Below w.heap.size w w1);obtain ⟨x0, x1, x2, x3, x4, x5, xf⟩ := Jf HT1.out;have l1 := Ja HT1.out;clear hb1;go_wp2_with fail
   exact bodyPost_ret (v := .tuple #[.agg #[.int .i64 0, .bool false, .int .i64 0, .string ⟨#[]⟩, .slice none 0 0, .slice none 0 0], .bool false]) (by simp only [results, Tryz.results186]; go_simp) rfl ⟨by rw [HF.out]; rfl, HB1.out.trans (Aside.below (S := fun q => q = w.heap.size) QC HB1.out.size (fun i hi => by omega))⟩
  ·have d3 : decide ((400 : Int) < k.size) = false := JmF h2
   have HF := hid (HR.out.trans (JdD HC.out HQ0.out (HK2.out.2.trans h1) (by rw [HK2.out.1]; omega)));rw [HK2.out.1] at HF;clear h1;go_enter Tryz.func186, Tryz.ntmps186
   go_wp2_with fail
   refine (HK.out _).mono ?_;rintro e w0 ⟨rfl, rfl⟩;go_wp2_with fail
   refine (HQ.out _ Jj).mono ?_;rintro e w1 ⟨rfl, hb1⟩;have HT1 := hid ((hb1.block w.heap.size (by simp)).trans (Je (w := w) (o := .cells #[.int .i64 0, .bool false, .int .i64 0, .string ⟨#[]⟩, .slice none 0 0, .slice none 0 0] 34) rfl));have HB1 := hid (Jj : Below w.heap.size w w1);obtain ⟨x0, x1, x2, x3, x4, x5, xf⟩ := Jf HT1.out;have l1 := Ja HT1.out;clear hb1;go_wp2_with fail
   refine (WC _ _).mono ?_;rintro e w2 ⟨rfl, hb2⟩;have HT2 := hid ((hb2.block _ l1).trans HT1.out);have HB2 := hid (HB1.out.trans (hb2.mono HB1.out.size));clear x0 x1 x2 x3 x4 x5 xf hb2;obtain ⟨x0, x1, x2, x3, x4, x5, xf⟩ := Jf HT2.out;have l2 := Ja HT2.out;go_wp2_with fail
   exact bodyPost_ret (v := .tuple #[.agg #[.int .i64 4, .bool false, .int .i64 0, .string k, .slice none 0 0, .slice none 0 0], .bool true]) (by simp only [results, Tryz.results186]; go_simp) rfl ⟨by rw [HF.out]; rfl, HB2.out.trans (Aside.below (S := fun q => q = w.heap.size) QC HB2.out.size (fun i hi => by omega))⟩
 ·rw [JmF hq] at KP
  have HK := hid KP;have HQ0 := hid hq;clear KP hq;have HQ := hid (fun (W : World) (hb : Below w.heap.size w W) => XU s 0 W hs (by omega) (HVT.out.2.2.below hb));have HP := hid (fun (W : World) (hb : Below w.heap.size w W) => YV s W hs (HVT.out.2.1.below hb));obtain ⟨z, a, hka⟩ : ∃ k a, JF s 0 = (k, a) := ⟨_, _, rfl⟩
  rw [hka] at HQ;have hk1 : (JF s 0).1 = z := by rw [hka]
  have hk2 : (JF s 0).2 = a := by rw [hka]
  have HK2 := hid (And.intro hk1 hk2);clear hka hk1 hk2;by_cases hw : a = (s.size : Int) /\ 0 < a
  ·have d2 : (a == (s.size : Int)) = true := beq_iff_eq.2 hw.1
   have d3 : decide ((0 : Int) < a) = true := JmG hw.2;have HF := hid (HR.out.trans (JfW HC.out HQ0.out (HK2.out.2.trans hw.1) (by rw [HK2.out.2]; exact hw.2)));rw [HK2.out.1] at HF;clear hw;go_enter Tryz.func186, Tryz.ntmps186
   go_wp2_with fail
   refine (HK.out _).mono ?_;rintro e w0 ⟨rfl, rfl⟩;go_wp2_with fail
   refine (HQ.out _ Jj).mono ?_;rintro e w1 ⟨rfl, hb1⟩;have HT1 := hid ((hb1.block w.heap.size (by simp)).trans (Je (w := w) (o := .cells #[.int .i64 0, .bool false, .int .i64 0, .string ⟨#[]⟩, .slice none 0 0, .slice none 0 0] 34) rfl));have HB1 := hid (Jj : Below w.heap.size w w1);obtain ⟨x0, x1, x2, x3, x4, x5, xf⟩ := Jf HT1.out;have l1 := Ja HT1.out;clear hb1;go_wp2_with fail
   refine (JdU _ _).mono ?_;rintro e w2 ⟨rfl, hb2⟩;have HT2 := hid ((hb2.block _ l1).trans HT1.out);have HB2 := hid (HB1.out.trans (hb2.mono HB1.out.size));clear x0 x1 x2 x3 x4 x5 xf hb2;obtain ⟨x0, x1, x2, x3, x4, x5, xf⟩ := Jf HT2.out;have l2 := Ja HT2.out;go_wp2_with fail
   exact bodyPost_ret (v := .tuple #[.agg #[.int .i64 3, .bool false, .int .i64 z, .string ⟨#[]⟩, .slice none 0 0, .slice none 0 0], .bool true]) (by simp only [results, Tryz.results186]; go_simp) rfl ⟨by rw [HF.out]; rfl, HB2.out.trans (Aside.below (S := fun q => q = w.heap.size) QC HB2.out.size (fun i hi => by omega))⟩
  have hw2 : (a == (s.size : Int)) = false ∨ ((a == (s.size : Int)) = true /\ decide ((0 : Int) < a) = false) := by
   by_cases e : a = (s.size : Int)
   ·exact .inr ⟨beq_iff_eq.2 e, JmF (fun h => hw ⟨e, h⟩)⟩
   exact .inl (JmH e)
  have HW := hid (fun h => hw (by rw [<- HK2.out.2]; exact h));clear hw;rcases hpl : Qa s with _ | _
  ·rw [hpl] at HP
   have HF := hid (HR.out.trans (JcT HC.out HQ0.out HW.out hpl));clear hpl;rcases hw2 with d2 | ⟨d2, d3⟩
   all_goals
    go_enter Tryz.func186, Tryz.ntmps186
    go_wp2_with fail
    refine (HK.out _).mono ?_;rintro e w0 ⟨rfl, rfl⟩;go_wp2_with fail
    refine (HQ.out _ Jj).mono ?_;rintro e w1 ⟨rfl, hb1⟩;have HT1 := hid ((hb1.block w.heap.size (by simp)).trans (Je (w := w) (o := .cells #[.int .i64 0, .bool false, .int .i64 0, .string ⟨#[]⟩, .slice none 0 0, .slice none 0 0] 34) rfl));have HB1 := hid (Jj : Below w.heap.size w w1);obtain ⟨x0, x1, x2, x3, x4, x5, xf⟩ := Jf HT1.out;have l1 := Ja HT1.out;clear hb1;go_wp2_with fail
    refine (HP.out _ HB1.out).mono ?_;rintro e w2 ⟨rfl, hb2⟩;have HT2 := hid ((hb2.block _ l1).trans HT1.out);have HB2 := hid (HB1.out.trans (hb2.mono HB1.out.size));clear x0 x1 x2 x3 x4 x5 xf hb2;obtain ⟨x0, x1, x2, x3, x4, x5, xf⟩ := Jf HT2.out;have l2 := Ja HT2.out;go_wp2_with fail
    exact bodyPost_ret (v := .tuple #[.agg #[.int .i64 0, .bool false, .int .i64 0, .string ⟨#[]⟩, .slice none 0 0, .slice none 0 0], .bool false]) (by simp only [results, Tryz.results186]; go_simp) rfl ⟨by rw [HF.out]; rfl, HB2.out.trans (Aside.below (S := fun q => q = w.heap.size) QC HB2.out.size (fun i hi => by omega))⟩
  rw [hpl] at HP;have HF := hid (HR.out.trans (JfP HC.out HQ0.out HW.out hpl));clear hpl;rcases hw2 with d2 | ⟨d2, d3⟩
  all_goals
   go_enter Tryz.func186, Tryz.ntmps186
   go_wp2_with fail
   refine (HK.out _).mono ?_;rintro e w0 ⟨rfl, rfl⟩;go_wp2_with fail
   refine (HQ.out _ Jj).mono ?_;rintro e w1 ⟨rfl, hb1⟩;have HT1 := hid ((hb1.block w.heap.size (by simp)).trans (Je (w := w) (o := .cells #[.int .i64 0, .bool false, .int .i64 0, .string ⟨#[]⟩, .slice none 0 0, .slice none 0 0] 34) rfl));have HB1 := hid (Jj : Below w.heap.size w w1);obtain ⟨x0, x1, x2, x3, x4, x5, xf⟩ := Jf HT1.out;have l1 := Ja HT1.out;clear hb1;go_wp2_with fail
   refine (HP.out _ HB1.out).mono ?_;rintro e w2 ⟨rfl, hb2⟩;have HT2 := hid ((hb2.block _ l1).trans HT1.out);have HB2 := hid (HB1.out.trans (hb2.mono HB1.out.size));clear x0 x1 x2 x3 x4 x5 xf hb2;obtain ⟨x0, x1, x2, x3, x4, x5, xf⟩ := Jf HT2.out;have l2 := Ja HT2.out;go_wp2_with fail
   refine (WC _ _).mono ?_;rintro e w3 ⟨rfl, hb3⟩;have HT3 := hid ((hb3.block _ l2).trans HT2.out);have HB3 := hid (HB2.out.trans (hb3.mono HB2.out.size));clear x0 x1 x2 x3 x4 x5 xf hb3;obtain ⟨x0, x1, x2, x3, x4, x5, xf⟩ := Jf HT3.out;have l3 := Ja HT3.out;go_wp2_with fail
   exact bodyPost_ret (v := .tuple #[.agg #[.int .i64 4, .bool false, .int .i64 0, .string s, .slice none 0 0, .slice none 0 0], .bool true]) (by simp only [results, Tryz.results186]; go_simp) rfl ⟨by rw [HF.out]; rfl, HB3.out.trans (Aside.below (S := fun q => q = w.heap.size) QC HB3.out.size (fun i hi => by omega))⟩
end Go.Proofs.YtohcpifekcehjaaGreatDoor
