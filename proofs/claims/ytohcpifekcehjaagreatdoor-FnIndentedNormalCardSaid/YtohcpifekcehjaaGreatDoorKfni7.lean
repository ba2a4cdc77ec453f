/- Steps to FnIndentedNormal. No conditions. -/
import Derived.Test.YtohcpifekcehjaaGreatDoorKfni5
import Derived.Lib.Split
import Derived.Lib.SplitLaws
import Derived.Lib.Replace
import Derived.Test.YtohcpifekcehjaaGreatDoorKfni1
import Derived.Test.YtohcpifekcehjaaGreatDoorKfni6
import Derived.Lib.SpaceUEq
import Derived.SizedLaws
import Derived.Shelf.Vars
import Derived.Test.YtohcpifekcehjaaGreatDoorKfni4
import Derived.Test.YtohcpifekcehjaaGreatDoorKfni3
import Derived.Test.YtohcpifekcehjaaGreatDoorKfni2
import Derived.Shelf.Lays2
import Derived.Shelf.Spec.SearchS
import Derived.Shelf.Spec.SlicesInsert
import Derived.Shelf.Spec.SlicesInsertGrow
import Derived.Lib.LazyBuf
import Derived.Deep.RegionLaw
import Derived.Deep.CutBlock
import Derived.Deep.CutRange
import Derived.Laws.IdiomCopy
import Derived.Lib.Overlaps
import Derived.Lib.AppendZerosOnto
set_option maxHeartbeats 16000000
set_option maxRecDepth 20000
namespace Go.Proofs.YtohcpifekcehjaaGreatDoor
open Go.RowKit Go.Lib
def UK (l : List UInt8) : List (List UInt8) := splitK [10] 0 (count l [10]) l
theorem JgK (l : List UInt8) : UK (10 :: l) = [] :: UK l := by
 unfold UK;rw [count_cons_eq, Nat.add_comm];have e : index (10 :: l) [10] = 0 := by rw [index_one]; rfl
 show (if index (10 :: l) [10] == -1 then _ else _) = _
 rw [e];rfl
theorem JfN {c : UInt8} (hc : c ≠ 10) (l : List UInt8) : ∃ a r, UK l = a :: r /\ UK (c :: l) = (c :: a) :: r := by
 unfold UK;rw [count_cons_ne c 10 l hc];rcases hk : count l [10] with _ | k
 ·exact ⟨l, [], rfl, rfl⟩
 obtain ⟨i, hi⟩ := index_of_count (s := l) (old := [10]) (by rw [hk]; exact Nat.succ_pos _)
 have e : index (c :: l) [10] = ((i + 1 : Nat) : Int) := by
  rw [index_one] at hi ⊢;unfold indexByte;have h1 : (c == 10) = false := JmH hc;have h2 : ((indexByte l 10) == -1) = false := JmH (by omega);rw [h1, h2, hi];simp
 refine ⟨l.take i, splitK [10] 0 k (l.drop (i + 1)), ?_, ?_⟩
 ·show (if index l [10] == -1 then _ else _) = _
  have h2 : ((index l [10]) == -1) = false := JmH (by omega);rw [h2, hi];rfl
 show (if index (c :: l) [10] == -1 then _ else _) = _
 have h2 : ((index (c :: l) [10]) == -1) = false := JmH (by omega);rw [h2, e];rfl
theorem WE : ∀ (l acc : List UInt8), ∃ a r, UK l = a :: r /\ QH acc l = (acc ++ a) :: r
 | [], acc => ⟨[], [], rfl, by unfold QH; rw [List.append_nil]⟩
 | c :: l, acc => by
  by_cases hc : c = 10
  ·subst hc
   obtain ⟨a, r, h1, h2⟩ := WE l [];refine ⟨[], UK l, JgK l, ?_⟩;unfold QH;rw [if_pos rfl, h2, h1, List.append_nil, List.nil_append]
  obtain ⟨a, r, h1, h2⟩ := JfN hc l;obtain ⟨b, q, h3, h4⟩ := WE l (acc ++ [c]);rw [h1] at h3;injection h3 with h5 h6
  subst h5 h6;refine ⟨c :: a, r, h2, ?_⟩;unfold QH;rw [if_neg hc, h4, List.append_assoc];rfl
theorem Ji2 (s : ByteArray) : (splitB ⟨#[10]⟩ 0 (count s.data.toList [10]) s).map (fun x => x.data.toList) = QH [] s.data.toList := by
 have h := splitB_data ⟨#[10]⟩ 0 (count s.data.toList [10]) s;obtain ⟨a, r, h1, h2⟩ := WE s.data.toList [];rw [h2, List.nil_append, <- h1];exact h
def MaxL (w : World) : Prop := ∃ m, w.cell? ⟨Yf.g 1, 0, none⟩ = some (.int .i64 m)
theorem MaxL.below {w w' : World} (h : MaxL w) (hb : Below w.heap.size w w') : MaxL w' := by
 obtain ⟨m, h1⟩ := h;exact ⟨m, (hb.cell (p := ⟨Yf.g 1, 0, none⟩) (Lib.lt_of_cell h1)).trans h1⟩
theorem Jls (s : ByteArray) (w : World) (hs : s.size <= 1048576) (hM : MaxL w) :
  Calls Tryz.prog 92 #[.string s, .string ⟨#[10]⟩] w fun e w' => ∃ P : List ByteArray, e = .returned (.slice (some ⟨w.heap.size, 0, none⟩) P.length P.length) /\ P.map (fun x => x.data.toList) = QH [] s.data.toList /\ P.length <= s.size + 1 /\ w' = w.alloc (.cells (P.map Value.string).toArray 9) := by
 obtain ⟨m, hm⟩ := hM;have h := Any.strings_Split JiE (by kernel_rfl) s ⟨#[10]⟩ m w (by omega) hm (by decide);change Calls Tryz.prog 92 _ _ _ at h
 have hlen := Lib.splitB_all ⟨#[10]⟩ (by decide) 0 _ s rfl;have hle := Lib.countB_le ⟨#[10]⟩ (by decide) s.size s (Nat.le_refl _);refine h.mono ?_;rintro e w' ⟨rfl, rfl⟩;refine ⟨splitB ⟨#[10]⟩ 0 (countB s ⟨#[10]⟩) s, by rw [hlen], Ji2 s, by rw [hlen]; have e1 : (⟨#[10]⟩ : ByteArray).size = 1 := rfl; (try rw [e1] at hle); omega, rfl⟩
theorem Jgw (s : ByteArray) (pos : Nat) : ((Utf8.decode s pos).1 < 32 ↔ Jb s pos < 32) /\ ∀ j, pos < j -> j < pos + (Utf8.decode s pos).2 -> 32 <= Jb s j := by
 have hd := decode_at s pos;have hc := decodeN_conts (s.size - pos) (s.get! pos).toNat (s.get! (pos + 1)).toNat (s.get! (pos + 2)).toNat (s.get! (pos + 3)).toNat
 have hl : (decodeN (s.size - pos) (s.get! pos).toNat (s.get! (pos + 1)).toNat (s.get! (pos + 2)).toNat (s.get! (pos + 3)).toNat).1 < 32 ↔ (s.get! pos).toNat < 32 := by
  unfold decodeN;repeat' split
  all_goals first | omega | (simp only; done) | (simp only; omega)
 rw [<- hd] at hc hl;obtain ⟨c1, c2, c3, c4⟩ := hc;refine ⟨by unfold Jb; omega, fun j h1 h2 => ?_⟩;unfold Jb;have : j = pos + 1 ∨ j = pos + 2 ∨ j = pos + 3 := by omega
 rcases this with rfl | rfl | rfl
 ·have := (c1 (by omega)).1; omega
 ·have := (c2 (by omega)).1; omega
 have := (c3 (by omega)).1; omega
def JdR (r : Nat) : Bool := decide (r < 32)
theorem JhN (s : ByteArray) : ∀ (f pos : Nat), s.size <= pos + f -> ((∀ j, pos <= j -> j < s.size -> 32 <= Jb s j) -> idxFuncFrom JdR true s f pos = -1) /\ (∀ j, pos <= j -> j < s.size -> Jb s j < 32 -> 0 <= idxFuncFrom JdR true s f pos)
 | 0, pos, h => ⟨fun _ => rfl, fun j h1 h2 _ => by omega⟩
 | f + 1, pos, h => by
  unfold idxFuncFrom;by_cases hp : pos < s.size
  ·rw [if_pos hp]
   obtain ⟨h1, h2⟩ := Jgw s pos;have hw := Lib.width_pos s pos;by_cases hr : (Utf8.decode s pos).1 < 32
   ·rw [if_pos (show JdR _ = true from JmG hr)]
    refine ⟨fun g => ?_, fun _ _ _ _ => by omega⟩;have := g pos (Nat.le_refl _) hp;have := h1.1 hr;omega
   rw [if_neg (show ¬ JdR _ = true by unfold JdR; rw [JmF hr]; decide)];obtain ⟨g1, g2⟩ := JhN s f (pos + (Utf8.decode s pos).2) (by omega);refine ⟨fun g => g1 (fun j hj => g j (by omega)), fun j hj hj2 hj3 => ?_⟩;rcases Nat.lt_or_ge j (pos + (Utf8.decode s pos).2) with hlt | hge
   ·rcases Nat.lt_or_ge pos j with h3 | h3
    ·have := h2 j h3 hlt; omega
    have e : j = pos := by omega
    subst e;exact absurd (h1.2 hj3) hr
   exact g2 j hge hj2 hj3
  rw [if_neg hp];exact ⟨fun _ => rfl, fun j h1 h2 _ => by omega⟩
theorem JeT (x : ByteArray) : decide (0 <= idxFunc JdR true x) = Zf x.data.toList := by
 obtain ⟨h1, h2⟩ := JhN x x.size 0 (by omega);unfold idxFunc;rcases hl : Zf x.data.toList with _ | _
 ·refine JmF ?_
  rw [h1 (fun j _ hj => ?_)]
  ·decide
  rcases Int.lt_or_le (Jb x j) 32 with g | g
  ·rw [Jhy hj g] at hl; cases hl
  exact g
 refine JmG ?_;unfold Zf at hl;obtain ⟨c, hc, hc2⟩ := List.any_eq_true.1 hl;obtain ⟨t, ht⟩ := List.getElem?_of_mem hc;have hlt : t < x.size := by rw [<- Jp]; exact (List.getElem?_eq_some_iff.1 ht).1
 rw [J7 hlt] at ht;cases ht
 exact h2 t (Nat.zero_le _) hlt (by unfold Jb; have := of_decide_eq_true hc2; omega)
theorem Jgf (x : ByteArray) (w : World) :
  Calls Tryz.prog 93 #[.string x, .func (.func 94) #[] #[]] w fun e w' => ∃ z : Int, e = .returned (.int .i64 z) /\ decide (0 <= z) = Zf x.data.toList /\ Below w.heap.size w w' := by
 have h := Any.strings_IndexFunc JjO 94 #[] (enters_of Tryz.func94 (by kernel_rfl) rfl) JdR x w (fun W r _ => by
  unfold FnGives;by_cases hr : (r : Int) < 32
  ·have hd : JdR r = true := JmG (by omega)
   have hd2 : decide ((r : Int) < 32) = true := JmG hr;rw [hd];go_enter Tryz.func94, Tryz.ntmps94
   go_wp2
   go_ret
   exact ⟨rfl, 0, rfl⟩
  have hd : JdR r = false := JmF (by omega);have hd2 : decide ((r : Int) < 32) = false := JmF hr;rw [hd];go_enter Tryz.func94, Tryz.ntmps94
  go_wp2
  go_ret
  exact ⟨rfl, 0, rfl⟩)
 change Calls Tryz.prog 93 _ _ _ at h
 exact h.mono (fun e w' h => ⟨_, h.1, JeT x, h.2⟩)
open Go.ChangeShapes Go.WideShapes Go.ChangeAt Go.RowKit
variable {H : Type} {enc : TypeId × Value -> H}
theorem Jcs {C : Checked} {os : Os} {f : FuncId} {fn : Func} {s : ChangeSpec} {X : World -> Array Value -> Prop} {fresh : Bool}
  (hX : ∀ (w w' : World) (args : Array Value), w.heap = w'.heap -> X w args -> X w' args)
  (own : ownKnob C.prog.godebug = none) (started : os.Started) (noInit : C.prog.inits.idxOf? f = none) (hfn : C.prog.funcs[f]? = some fn)
  (witness : ∃ (w : World) (tape : Tape) (i : Input), w.os = os /\ (w.forCall tape i).Shaped C.prog /\ i.vars = [] /\ Input.okWide C.prog (w.forCall tape i) .any w.heap.size f i /\
   ((s.pre enc C.prog fn [] false (w.forCall tape i).memory i.args /\ X (w.forCall tape i).memory i.args) /\ sizedMet enc C.prog fn (OpenSpec.ofChange s) false (w.forCall tape i).memory i.args) /\ Assume.holds {} C.prog (lone (Frame.enter C.prog f i.args .normal) [] (w.forCall tape i)))
  (contract : ∀ (W : World) (base : Nat) (args : Array Value) (ds gs : List (DataW H)) (before : List MemPlace),
   (∀ (j : Nat) t v, fn.params[j]? = some t -> args[j]? = some v -> Value.okWide C.prog W .any base t v) ->
   DataW.Whole enc C.prog fn.params.toList s.vars false W args.toList ds gs before -> X W args -> W.ShapedOpen C.prog ->
   Calls C.prog f args W fun e W' => ∃ v, e = .returned v /\ s.post enc C.prog fn false fresh false false W args v W') :
  ReturnsInHanded {} C os f .any (fun w args => (s.pre enc C.prog fn [] false w args /\ X w args) /\ sizedMet enc C.prog fn (OpenSpec.ofChange s) false w args) (s.post enc C.prog fn false fresh false false) := by
 refine returnsInHanded_of_calls own started noInit witness ?_;intro w tape i _ hsh _ hok hpre _;obtain ⟨_, _, _, fn', hfn', _, _, _, _, hval⟩ := hok;obtain rfl : fn' = fn := Option.some.inj (hfn'.symm.trans hfn);obtain ⟨⟨⟨ds, gs, before, hw, -⟩, hx⟩, -⟩ := hpre;have hw' := DataW.Whole.of_heap (w' := w.forCall tape i) (by rfl) hw;have hx' := hX _ (w.forCall tape i) _ (by rfl) hx
 exact (contract (w.forCall tape i) w.heap.size i.args ds gs before hval hw' hx' hsh).mono fun e W' ⟨v, he, hp⟩ => by
  subst he;exact ChangeSpec.post_blind hp
theorem JlL {W : World} (h : W.ShapedOpen Tryz.prog) : MaxL W :=
 cell_of_shapedOpen_int (g := Yf.g 1) (t := 3) (zero := #[.int .i64 0]) (k := .i64) h (of_decide_eq_true (by kernel_rfl)) (by kernel_rfl) rfl (by kernel_rfl) (by kernel_rfl) (by kernel_rfl)
def Rd (s : ByteArray) (j : Nat) (l : List UInt8) : Prop := s.data.toList.drop j = l
theorem Rd.byte {s : ByteArray} {j : Nat} {l : List UInt8} (h : Rd s j l) (k : Nat) {c : UInt8} (hk : l[k]? = some c) : j + k < s.size /\ Jb s (j + k) = (c.toNat : Int) := by
 have h1 : s.data.toList[j + k]? = some c := by rw [<- List.getElem?_drop, show s.data.toList.drop j = l from h, hk]
 obtain ⟨h2, h3⟩ := List.getElem?_eq_some_iff.1 h1;have h4 : j + k < s.size := by rw [Array.length_toList] at h2; exact h2
 refine ⟨h4, ?_⟩;rw [Array.getElem_toList] at h3;unfold Jb ByteArray.get!;show (((s.data[j + k]!).toNat : Nat) : Int) = _
 rw [getElem!_pos s.data (j + k) h4, h3]
theorem Rd.byte0 {s : ByteArray} {j : Nat} {c : UInt8} {l : List UInt8} (h : Rd s j (c :: l)) : j < s.size /\ Jb s j = (c.toNat : Int) := h.byte 0 rfl
theorem Rd.drop {s : ByteArray} {j : Nat} {a b : List UInt8} (h : Rd s j (a ++ b)) : Rd s (j + a.length) b := by
 unfold Rd at h ⊢;rw [<- List.drop_drop, h, List.drop_left]
theorem Rd.len {s : ByteArray} {j : Nat} {l : List UInt8} (h : Rd s j l) (hj : j <= s.size) : j + l.length = s.size := by
 have h1 := congrArg List.length (show s.data.toList.drop j = l from h);rw [List.length_drop, Array.length_toList] at h1;have h2 : s.data.size = s.size := rfl;omega
theorem Vg {l l' : List UInt8} {k i : Nat} (h : l'.take k = l.take k) (hi : i < k) : l'.getD i 0 = l.getD i 0 := by
 have h1 := congrArg (fun z : List UInt8 => z[i]?) h;simp only [List.getElem?_take, if_pos hi] at h1;rw [List.getD_eq_getElem?_getD, List.getD_eq_getElem?_getD, h1]
theorem XR {l l' : List UInt8} (hv : decodeL l ≠ (65533, 1)) (hl : l'.take (decodeL l).2 = l.take (decodeL l).2) (hn : (decodeL l).2 <= l'.length) : decodeL l' = decodeL l := by
 rw [decodeL_N] at hv hl hn ⊢;rw [decodeL_N];have k0 := (l.getD 0 0).toNat_lt;have k1 := (l.getD 1 0).toNat_lt;have k2 := (l.getD 2 0).toNat_lt;have k3 := (l.getD 3 0).toNat_lt;have k1' := (l'.getD 1 0).toNat_lt;have k2' := (l'.getD 2 0).toNat_lt;have k3' := (l'.getD 3 0).toNat_lt;rcases Nat.lt_or_ge (l.getD 0 0).toNat 192 with c | c
 ·have w := YP l.length (l.getD 0 0).toNat (l.getD 1 0).toNat (l.getD 2 0).toNat (l.getD 3 0).toNat c
  have w' := YP l'.length (l.getD 0 0).toNat (l'.getD 1 0).toNat (l'.getD 2 0).toNat (l'.getD 3 0).toNat c;have he := w.1.2 hv;rw [w.2 he] at hl hn;rw [Vg hl (by omega), w.2 he, w'.2 he]
 rcases Nat.lt_or_ge (l.getD 0 0).toNat 224 with c2 | c2
 ·have w := YJ l.length (l.getD 0 0).toNat (l.getD 1 0).toNat (l.getD 2 0).toNat (l.getD 3 0).toNat c c2 k1
  have he := w.2 hv;have hp := w.1.2 hv;rw [he] at hl hn;have e1 := Vg (i := 1) hl (by omega);have w' := YJ l'.length (l.getD 0 0).toNat (l'.getD 1 0).toNat (l'.getD 2 0).toNat (l'.getD 3 0).toNat c c2 k1';rw [Vg hl (by omega), he];rw [e1] at w' ⊢;exact w'.2 (w'.1.1 ⟨hn, hp.2.1, hp.2.2⟩)
 rcases Nat.lt_or_ge (l.getD 0 0).toNat 240 with c3 | c3
 ·have w := YU l.length (l.getD 0 0).toNat (l.getD 1 0).toNat (l.getD 2 0).toNat (l.getD 3 0).toNat c2 c3 k1 k2
  have he := w.2 hv;have hp := w.1.2 hv;rw [he] at hl hn;have e1 := Vg (i := 1) hl (by omega);have e2 := Vg (i := 2) hl (by omega);have w' := YU l'.length (l.getD 0 0).toNat (l'.getD 1 0).toNat (l'.getD 2 0).toNat (l'.getD 3 0).toNat c2 c3 k1' k2';rw [Vg hl (by omega), he];rw [e1, e2] at w' ⊢;exact w'.2 (w'.1.1 ⟨hn, hp.2.1, hp.2.2.1, hp.2.2.2⟩)
 ·have w := YK l.length (l.getD 0 0).toNat (l.getD 1 0).toNat (l.getD 2 0).toNat (l.getD 3 0).toNat c3 k0 k1 k2 k3
  have he := w.2 hv;have hp := w.1.2 hv;rw [he] at hl hn;have e1 := Vg (i := 1) hl (by omega);have e2 := Vg (i := 2) hl (by omega);have e3 := Vg (i := 3) hl (by omega);have w' := YK l'.length (l.getD 0 0).toNat (l'.getD 1 0).toNat (l'.getD 2 0).toNat (l'.getD 3 0).toNat c3 k0 k1' k2' k3';rw [Vg hl (by omega), he];rw [e1, e2, e3] at w' ⊢;exact w'.2 (w'.1.1 ⟨hn, hp.2.1, hp.2.2.1, hp.2.2.2.1, hp.2.2.2.2⟩)
theorem JbO {l : List UInt8} (h : (l.getD 0 0).toNat < 128) : decodeL l = ((l.getD 0 0).toNat, 1) := by
 rw [decodeL_N];exact (YP _ _ _ _ _ (by omega)).2 (by unfold J5; rw [if_neg (by omega), if_pos h])
theorem Jjd {s : ByteArray} {j : Nat} {c : UInt8} {l : List UInt8} (h : Rd s j (c :: l)) (hc : c.toNat < 128) : JI s j = ((c.toNat : Int), ((j + 1 : Nat) : Int)) := by
 have h0 := h.byte0.1;have h1 := Qm s j h0;rw [show s.data.toList.drop j = c :: l from h, JbO (by simpa using hc)] at h1;unfold JI;rw [if_pos h0, <- h1];rw [if_neg (by intro e; have := congrArg Prod.fst e; simp at this; omega)];simp
theorem Jkp {c : UInt8} (hc : c.toNat < 128) : (Jq (c.toNat : Nat)).data.toList = [c] := by
 refine Xb ?_;unfold J5;rw [if_neg (by omega), if_pos hc];rfl
theorem Jff {x : Nat} (hx : x < 16) : UV ((Y4 x).toNat : Int) = x := by
 have : ∀ y : Fin 16, UV ((Y4 y.val).toNat : Int) = y.val := by decide
 exact this ⟨x, hx⟩
theorem Jjr {s : ByteArray} {j : Nat} {c : UInt8} {l : List UInt8} (h : Rd s j (qB c ++ l)) (hc : c.toNat < 128) : Jb s j ≠ 34 /\ J8 s j = ((c.toNat : Int), ((j + (qB c).length : Nat) : Int)) := by
 have esc : ∀ (x : UInt8) (r : List UInt8) (v : Int), Rd s j (92 :: x :: r) -> J4 s (j + 1) = (v, ((j + 2 : Nat) : Int)) -> Jb s j ≠ 34 /\ J8 s j = (v, ((j + 2 : Nat) : Int)) := by
  intro x r v hr he;have b0 := hr.byte0.2;have e92 : Jb s j = 92 := b0;refine ⟨by rw [e92]; decide, ?_⟩;unfold J8;rw [if_pos e92, he]
 have one : ∀ (x : UInt8) (r : List UInt8) (v : Int), Rd s j (92 :: x :: r) -> (Jb s (j + 1) = x.toNat -> J4 s (j + 1) = (v, ((j + 1 : Nat) : Int) + 1)) -> Jb s j ≠ 34 /\ J8 s j = (v, ((j + 2 : Nat) : Int)) := by
  intro x r v hr he;have b1 := hr.byte 1 rfl;refine esc x r v hr ?_;rw [he b1.2];congr 1
 unfold qB qN at h ⊢;by_cases c1 : c.toNat = 34 ∨ c.toNat = 92
 ·rw [if_pos c1] at h ⊢
  refine one (UInt8.ofNat c.toNat) l _ h (fun hb => ?_);have hi := (h.byte 1 rfl).1;have hb2 : Jb s (j + 1) = (c.toNat : Int) := by rw [hb]; simp
  unfold J4;rw [if_pos hi, if_pos (by rw [hb2]; omega), hb2]
 rw [if_neg c1] at h ⊢;by_cases c2 : c.toNat = 8
 ·rw [if_pos c2] at h ⊢
  refine one 98 l _ h (fun hb => ?_);have hi := (h.byte 1 rfl).1;have hb2 : Jb s (j + 1) = 98 := hb;unfold J4;rw [if_pos hi, if_neg (by omega), if_pos (by omega), c2];rfl
 rw [if_neg c2] at h ⊢;by_cases c3 : c.toNat = 12
 ·rw [if_pos c3] at h ⊢
  refine one 102 l _ h (fun hb => ?_);have hi := (h.byte 1 rfl).1;have hb2 : Jb s (j + 1) = 102 := hb;unfold J4;rw [if_pos hi, if_neg (by omega), if_neg (by omega), if_pos (by omega), c3];rfl
 rw [if_neg c3] at h ⊢;by_cases c4 : c.toNat = 10
 ·rw [if_pos c4] at h ⊢
  refine one 110 l _ h (fun hb => ?_);have hi := (h.byte 1 rfl).1;have hb2 : Jb s (j + 1) = 110 := hb;unfold J4;rw [if_pos hi, if_neg (by omega), if_neg (by omega), if_neg (by omega), if_pos (by omega), c4];rfl
 rw [if_neg c4] at h ⊢;by_cases c5 : c.toNat = 13
 ·rw [if_pos c5] at h ⊢
  refine one 114 l _ h (fun hb => ?_);have hi := (h.byte 1 rfl).1;have hb2 : Jb s (j + 1) = 114 := hb;unfold J4;rw [if_pos hi, if_neg (by omega), if_neg (by omega), if_neg (by omega), if_neg (by omega), if_pos (by omega), c5];rfl
 rw [if_neg c5] at h ⊢;by_cases c6 : c.toNat = 9
 ·rw [if_pos c6] at h ⊢
  refine one 116 l _ h (fun hb => ?_);have hi := (h.byte 1 rfl).1;have hb2 : Jb s (j + 1) = 116 := hb;unfold J4;rw [if_pos hi, if_neg (by omega), if_neg (by omega), if_neg (by omega), if_neg (by omega), if_neg (by omega), if_pos (by omega), c6];rfl
 rw [if_neg c6] at h ⊢;by_cases c7 : c.toNat < 32
 ·rw [if_pos c7] at h ⊢
  have b0 : Jb s j = 92 := h.byte0.2;have b1 : Jb s (j + 1) = 117 := (h.byte 1 rfl).2;have b2 : Jb s (j + 2) = 48 := (h.byte 2 rfl).2;have b3 : Jb s (j + 3) = 48 := (h.byte 3 rfl).2;have b4 : Jb s (j + 4) = ((Y4 (c.toNat / 16)).toNat : Int) := (h.byte 4 rfl).2;have b5 : Jb s (j + 5) = ((Y4 (c.toNat % 16)).toNat : Int) := (h.byte 5 rfl).2;have i1 := (h.byte 1 rfl).1;have i5 := (h.byte 5 rfl).1
  have hf : Jz s (j + 2) = (c.toNat : Int) := by
   have v0 : UV 48 = 0 := by decide
   have v4 := Jff (x := c.toNat / 16) (by omega);have v5 := Jff (x := c.toNat % 16) (by omega);unfold Jz;rw [if_pos (by omega)];simp only [Ut];rw [b2, b3, b4, b5, v0, v4, v5];rw [if_neg (by omega), if_neg (by omega), if_neg (by omega), if_neg (by omega)];omega
  refine ⟨by rw [b0]; decide, ?_⟩;unfold J8;rw [if_pos b0];unfold J4;rw [if_pos i1, if_neg (by omega), if_neg (by omega), if_neg (by omega), if_neg (by omega), if_neg (by omega), if_neg (by omega), if_pos (by omega), hf, if_neg (by unfold Q6; simp; omega), if_pos (by unfold Q6; simp; omega)];simp only [List.length_cons, List.length_nil, Prod.mk.injEq, true_and];omega
 rw [if_neg c7] at h ⊢;have hcc : UInt8.ofNat c.toNat = c := by simp
 rw [hcc] at h;have h' : Rd s j (c :: l) := h;have b0 := h'.byte0;have hr := Jjd h' hc;refine ⟨by rw [b0.2]; omega, ?_⟩;unfold J8;rw [if_neg (by rw [b0.2]; omega), hr, if_neg (by simp only; omega)];rfl
theorem Jh0 (x s : ByteArray) (rest : List UInt8) : ∀ (f i : Nat) (rs : List Nat), x.size - i <= f -> JH x i = some rs -> ∀ (j : Nat) (acc : List UInt8), Rd s j ((x.data.toList.drop i).flatMap qB ++ 34 :: rest) ->
  Vo s j acc = (⟨(acc ++ x.data.toList.drop i).toArray⟩, ((j + ((x.data.toList.drop i).flatMap qB).length + 1 : Nat) : Int)) := by
 intro f;induction f with
 | zero =>
  intro i rs hf h j acc hr;have hi : ¬ i < x.size := by omega
  have he : x.data.toList.drop i = [] := List.drop_of_length_le (by rw [Array.length_toList]; exact Nat.le_of_not_lt hi);rw [he] at hr ⊢;have b0 := Rd.byte0 (c := 34) (l := rest) hr;rw [ZE b0.1, if_pos (show Jb s j = 34 from b0.2), List.append_nil];rfl
 | succ f ih =>
  intro i rs hf h j acc hr;by_cases hi : i < x.size
  ·by_cases hd : Utf8.decode x i = (65533, 1)
   ·rw [QQ hi hd] at h; cases h
   rw [Qu hi hd] at h;have hdl := Qm x i hi;have hl : x.data.toList.length = x.size := Array.length_toList
   have hne : x.data.toList.drop i ≠ [] := fun e => by
    have := congrArg List.length e;rw [List.length_drop, hl] at this;simp at this;omega
   have hfit := JT x i hi;rcases hr2 : JH x (i + (Utf8.decode x i).2) with _ | rs'
   ·rw [hr2] at h; cases h
   have hs : x.data.toList.drop i = (x.data.toList.drop i).take (Utf8.decode x i).2 ++ x.data.toList.drop (i + (Utf8.decode x i).2) := by
    rw [<- List.drop_drop, List.take_append_drop]
   have hdv : decodeL (x.data.toList.drop i) ≠ (65533, 1) := by rw [hdl]; exact hd
   have ih' := ih (i + (Utf8.decode x i).2) rs' (by omega) hr2;have hloc := fun (l' : List UInt8) => XR (l := x.data.toList.drop i) (l' := l') hdv
   have hway := Uk _ hne hdv;rw [hdl] at hloc hway;obtain ⟨a, ha⟩ : ∃ a, a = (x.data.toList.drop i).take (Utf8.decode x i).2 := ⟨_, rfl⟩
   obtain ⟨b, hb⟩ : ∃ b, b = x.data.toList.drop (i + (Utf8.decode x i).2) := ⟨_, rfl⟩
   rw [<- ha] at hway hloc;rw [<- ha, <- hb] at hs;rw [<- hb] at ih';have hal : a.length = (Utf8.decode x i).2 := by rw [ha, List.length_take, List.length_drop, hl]; omega
   rw [hs] at hr ⊢;rw [List.flatMap_append, List.append_assoc] at hr;rw [List.flatMap_append]
   have hstep : ∀ (c : Nat) (m : Nat), m = (a.flatMap qB).length -> Jb s j ≠ 34 -> j < s.size -> J8 s j = ((c : Int), ((j + m : Nat) : Int)) -> (Jq (c : Nat)).data.toList = a -> Vo s j acc = (⟨(acc ++ (a ++ b)).toArray⟩, ((j + (a.flatMap qB ++ b.flatMap qB).length + 1 : Nat) : Int)) := by
    intro c m hm h34 hj hq ht;rw [ZE hj, if_neg h34, hq];simp only;rw [if_neg (by omega), ht, Int.toNat_natCast, hm, ih' (j + (a.flatMap qB).length) (acc ++ a) hr.drop, List.append_assoc, List.length_append];congr 3
    omega
   rcases hway with ⟨y, h1, h2, h3⟩ | ⟨h1, h2, h3⟩
   ·rw [h3] at hr hstep ⊢
    have hq1 : [y].flatMap qB = qB y := by simp
    rw [hq1] at hr hstep ⊢;have hlow := Jjr (by exact hr) h2
    have hqn : 0 < (qB y).length := by
     unfold qB qN;repeat' split
     all_goals simp
    have hj : j < s.size := by
     rcases hqb : qB y with _ | ⟨z, zs⟩
     ·rw [hqb] at hqn; simp at hqn
     rw [hqb] at hr;exact (Rd.byte0 (c := z) hr).1
    exact hstep y.toNat (qB y).length rfl hlow.1 hj hlow.2 (Jkp h2)
   have hfh := Wf h3;rw [hfh] at hr hstep ⊢;have ha0 : 0 < a.length := by omega
   have hj : j < s.size /\ Jb s j ≠ 34 /\ Jb s j ≠ 92 := by
    rcases a with _ | ⟨z, zs⟩
    ·simp at ha0
    have hb0 := Rd.byte0 (c := z) hr;have := h3 z (by simp);exact ⟨hb0.1, by rw [hb0.2]; omega, by rw [hb0.2]; omega⟩
   have hdj := Qm s j hj.1;have hrr : s.data.toList.drop j = a ++ (b.flatMap qB ++ 34 :: rest) := hr;have h9 := hloc (a ++ (b.flatMap qB ++ 34 :: rest)) (by rw [<- hal, List.take_left]) (by rw [List.length_append]; omega);rw [<- hrr, hdj] at h9
   have hrb : JI s j = (((Utf8.decode x i).1 : Int), ((j + a.length : Nat) : Int)) := by
    unfold JI;rw [if_pos hj.1, h9, if_neg hd, hal]
   refine hstep (Utf8.decode x i).1 a.length rfl hj.2.1 hj.1 ?_ h2;unfold J8;rw [if_neg hj.2.2, hrb, if_neg (by simp only; omega)]
  have he : x.data.toList.drop i = [] := List.drop_of_length_le (by rw [Array.length_toList]; exact Nat.le_of_not_lt hi);rw [he] at hr ⊢;have b0 := Rd.byte0 (c := 34) (l := rest) hr;rw [ZE b0.1, if_pos (show Jb s j = 34 from b0.2), List.append_nil];rfl
theorem Jcj {x s : ByteArray} {j : Nat} {rest : List UInt8} (hx : Qt x = true) (h : Rd s j ((JN x).data.toList ++ rest)) : Jb s j = 34 /\ j < s.size /\ Jr s j = (x, ((j + (JN x).data.toList.length : Nat) : Int)) := by
 have hq : (JN x).data.toList = 34 :: (x.data.toList.flatMap qB ++ [34]) := by unfold JN; rw [if_pos hx]; rfl
 rw [hq] at h ⊢;have b0 := Rd.byte0 (c := 34) h;have e34 : Jb s j = 34 := b0.2;obtain ⟨rs, hrs⟩ := Option.isSome_iff_exists.1 (show (JH x 0).isSome = true from hx)
 have h2 : Rd s (j + 1) ((x.data.toList.drop 0).flatMap qB ++ 34 :: rest) := by
  have := Rd.drop (a := [34]) (b := x.data.toList.flatMap qB ++ 34 :: rest) (by rw [List.cons_append, List.append_assoc] at h; exact h);exact this
 have h3 := Jh0 x s rest _ 0 rs (Nat.le_refl _) hrs (j + 1) [] h2;refine ⟨e34, b0.1, ?_⟩;unfold Jr;rw [if_pos b0.1, if_pos e34, h3];simp only [List.drop_zero, List.nil_append, List.length_cons, List.length_append, List.length_nil];congr 2
 omega
def okR (r : Nat) : Prop := r <= 1114111 /\ ¬ (55296 <= r /\ r <= 57343)
theorem Jkn {r : Nat} (h : okR r) (m : List UInt8) : decodeL ((Jq r).data.toList ++ m) = (r, (Jq r).data.toList.length) /\ decodeL ((Jq r).data.toList ++ m) ≠ (65533, 1) /\ 1 <= (Jq r).data.toList.length := by
 have hl := Vm r;obtain ⟨l, hll⟩ : ∃ l, l = (Jq r).data.toList := ⟨_, rfl⟩
 rw [<- hll] at hl ⊢;clear hll;unfold okR at h;rw [decodeL_N];unfold J5 at hl;rw [if_neg (by omega)] at hl;by_cases c1 : r < 128
 ·rw [if_pos c1] at hl
  rcases l with _ | ⟨x, _ | ⟨y, l⟩⟩
  ·cases hl
  ·simp only [List.map_cons, List.map_nil, List.cons.injEq, and_true] at hl
   have w := (YP ([x] ++ m).length (([x] ++ m).getD 0 0).toNat (([x] ++ m).getD 1 0).toNat (([x] ++ m).getD 2 0).toNat (([x] ++ m).getD 3 0).toNat (by simp; omega))
   have he : J5 (([x] ++ m).getD 0 0).toNat = [(([x] ++ m).getD 0 0).toNat] := by
    simp only [List.cons_append, List.nil_append, List.getD_cons_zero];unfold J5;rw [if_neg (by omega), if_pos (by omega)]
   refine ⟨?_, w.1.1 he, by simp⟩;rw [w.2 he];simp only [List.cons_append, List.nil_append, List.getD_cons_zero, hl, List.length_cons, List.length_nil]
  simp at hl
 rw [if_neg c1] at hl;by_cases c2 : r < 2048
 ·rw [if_pos c2] at hl
  rcases l with _ | ⟨x, _ | ⟨y, _ | ⟨z, l⟩⟩⟩
  ·cases hl
  ·simp at hl
  ·simp only [List.map_cons, List.map_nil, List.cons.injEq, and_true] at hl
   obtain ⟨h1, h2⟩ := hl;simp only [List.cons_append, List.nil_append, List.getD_cons_zero, List.getD_cons_succ];have w := YJ (x :: y :: m).length x.toNat y.toNat (m.getD 0 0).toNat (m.getD 1 0).toNat (by omega) (by omega) (by omega);have hp : Qk x.toNat = x.toNat - 192 := by unfold Qk; rw [if_neg (by omega), if_neg (by omega), if_pos (by omega)]
   have hg : JS x.toNat y.toNat (m.getD 0 0).toNat (m.getD 1 0).toNat 2 = r := by show 64 * Qk x.toNat + y.toNat - 128 = r; rw [hp]; omega
   have hv := w.1.1 ⟨by simp, by unfold JO; simp; omega, by
    rw [hg];unfold J5
    rw [if_neg (by omega), if_neg (by omega), if_pos (by omega), h1, h2]⟩
   refine ⟨?_, hv, by simp⟩;rw [w.2 hv, hg];rfl
  simp at hl
 rw [if_neg c2] at hl;by_cases c3 : r < 65536
 ·rw [if_pos c3] at hl
  rcases l with _ | ⟨x, _ | ⟨y, _ | ⟨z, _ | ⟨u, l⟩⟩⟩⟩
  ·cases hl
  ·simp at hl
  ·simp at hl
  ·simp only [List.map_cons, List.map_nil, List.cons.injEq, and_true] at hl
   obtain ⟨h1, h2, h3⟩ := hl;simp only [List.cons_append, List.nil_append, List.getD_cons_zero, List.getD_cons_succ];have w := YU (x :: y :: z :: m).length x.toNat y.toNat z.toNat (m.getD 0 0).toNat (by omega) (by omega) (by omega) (by omega);have hp : Qk x.toNat = x.toNat - 224 := by unfold Qk; rw [if_neg (by omega), if_pos (by omega)]
   have hg : JS x.toNat y.toNat z.toNat (m.getD 0 0).toNat 3 = r := by show 64 * (64 * Qk x.toNat + y.toNat - 128) + z.toNat - 128 = r; rw [hp]; omega
   have hv := w.1.1 ⟨by simp, by unfold JO; simp; omega, by unfold JO; simp; omega, by
    rw [hg];unfold J5
    rw [if_neg (by omega), if_neg (by omega), if_neg (by omega), if_pos (by omega), h1, h2, h3]⟩
   refine ⟨?_, hv, by simp⟩;rw [w.2 hv, hg];rfl
  simp at hl
 rw [if_neg c3] at hl;rcases l with _ | ⟨x, _ | ⟨y, _ | ⟨z, _ | ⟨u, _ | ⟨v, l⟩⟩⟩⟩⟩
 ·cases hl
 ·simp at hl
 ·simp at hl
 ·simp at hl
 ·simp only [List.map_cons, List.map_nil, List.cons.injEq, and_true] at hl
  obtain ⟨h1, h2, h3, h4⟩ := hl;simp only [List.cons_append, List.nil_append, List.getD_cons_zero, List.getD_cons_succ];have w := YK (x :: y :: z :: u :: m).length x.toNat y.toNat z.toNat u.toNat (by omega) (by omega) (by omega) (by omega) (by omega);have hp : Qk x.toNat = x.toNat - 240 := by unfold Qk; rw [if_pos (by omega)]
  have hg : JS x.toNat y.toNat z.toNat u.toNat 4 = r := by show 64 * (64 * (64 * Qk x.toNat + y.toNat - 128) + z.toNat - 128) + u.toNat - 128 = r; rw [hp]; omega
  have hv := w.1.1 ⟨by simp, by unfold JO; simp; omega, by unfold JO; simp; omega, by unfold JO; simp; omega, by
   rw [hg];unfold J5
   rw [if_neg (by omega), if_neg (by omega), if_neg (by omega), if_neg (by omega), h1, h2, h3, h4]⟩
  refine ⟨?_, hv, by simp⟩;rw [w.2 hv, hg];rfl
 ·simp at hl
def UE (rs : List Nat) : List UInt8 := rs.flatMap fun (r : Nat) => (Jq r).data.toList
theorem Jaq (x : ByteArray) : ∀ (rs : List Nat) (i : Nat), (∀ r ∈ rs, okR r) -> x.data.toList.drop i = UE rs -> JH x i = some rs
 | [], i, _, h => by
  refine QE ?_;intro hi;have h1 := congrArg List.length h;rw [List.length_drop, Array.length_toList] at h1;have h2 : x.data.size = x.size := rfl;simp [UE] at h1;omega
 | r :: rs, i, hok, h => by
  have h0 : UE (r :: rs) = (Jq r).data.toList ++ UE rs := by unfold UE; rw [List.flatMap_cons]
  rw [h0] at h;obtain ⟨d1, d2, d3⟩ := Jkn (hok r (by simp)) (UE rs)
  have hi : i < x.size := by
   rcases Nat.lt_or_ge i x.size with hi | hi
   ·exact hi
   rw [List.drop_of_length_le (by rw [Array.length_toList]; exact hi)] at h;have h1 := congrArg List.length h;rw [List.length_append, List.length_nil] at h1;omega
  have hd := Qm x i hi;rw [h] at hd;rw [Qu hi (by rw [<- hd]; exact d2), <- hd, d1];rw [Jaq x rs (i + (Jq r).data.toList.length) (fun y hy => hok y (by simp [hy])) (by rw [<- List.drop_drop, h, List.drop_left])];rfl
theorem Jgq {s : ByteArray} {j : Nat} (hj : j < s.size) (h34 : Jb s j ≠ 34) (h : ¬ (J8 s j).2 < 0) : ∃ r : Nat, (J8 s j).1 = (r : Int) /\ okR r /\ ((j + (qR r).length : Nat) : Int) <= (J8 s j).2 := by
 have hq : ∀ r : Nat, r < 128 -> (qR r) = qN r := fun r hr => by unfold qR; rw [if_pos hr]
 unfold J8 at h ⊢;by_cases c0 : Jb s j = 92
 ·rw [if_pos c0] at h ⊢
  have hr1 := Q7 s (j + 1 + 1);have hr7 := Q7 s (j + 1 + 7);have b1 := Jaz s (j + 1)
  have low : ∀ (r : Nat), okR r -> (qR r).length <= 2 -> ∀ y : Int × Int, y = ((r : Int), ((j + 1 : Nat) : Int) + 1) -> ∃ r : Nat, y.1 = (r : Int) /\ okR r /\ ((j + (qR r).length : Nat) : Int) <= y.2 := by
   intro r h1 h2 y hy;rw [hy];exact ⟨r, rfl, h1, by simp only; omega⟩
  unfold J4 at h ⊢;by_cases e0 : j + 1 < s.size
  case neg => rw [if_neg e0] at h; exact absurd (show (-1 : Int) < 0 by decide) h
  rw [if_pos e0] at h ⊢;by_cases e1 : Jb s (j + 1) = 34 ∨ Jb s (j + 1) = 92 ∨ Jb s (j + 1) = 47
  ·rw [if_pos e1]
   rcases e1 with e1 | e1 | e1
   ·rw [e1]; exact low 34 (by unfold okR; omega) (by decide) _ rfl
   ·rw [e1]; exact low 92 (by unfold okR; omega) (by decide) _ rfl
   rw [e1]; exact low 47 (by unfold okR; omega) (by decide) _ rfl
  rw [if_neg e1] at h ⊢;by_cases e2 : Jb s (j + 1) = 98
  ·rw [if_pos e2]; exact low 8 (by unfold okR; omega) (by decide) _ rfl
  rw [if_neg e2] at h ⊢;by_cases e3 : Jb s (j + 1) = 102
  ·rw [if_pos e3]; exact low 12 (by unfold okR; omega) (by decide) _ rfl
  rw [if_neg e3] at h ⊢;by_cases e4 : Jb s (j + 1) = 110
  ·rw [if_pos e4]; exact low 10 (by unfold okR; omega) (by decide) _ rfl
  rw [if_neg e4] at h ⊢;by_cases e5 : Jb s (j + 1) = 114
  ·rw [if_pos e5]; exact low 13 (by unfold okR; omega) (by decide) _ rfl
  rw [if_neg e5] at h ⊢;by_cases e6 : Jb s (j + 1) = 116
  ·rw [if_pos e6]; exact low 9 (by unfold okR; omega) (by decide) _ rfl
  rw [if_neg e6] at h ⊢;by_cases e7 : Jb s (j + 1) = 117
  case neg => rw [if_neg e7] at h; exact absurd (show (-1 : Int) < 0 by decide) h
  rw [if_pos e7] at h ⊢;by_cases d1 : Jz s (j + 1 + 1) < 0 ∨ Q6 (Jz s (j + 1 + 1)) 56320 57343 = true
  case pos => rw [if_pos d1] at h; exact absurd (show (-1 : Int) < 0 by decide) h
  rw [if_neg d1] at h ⊢;have d1' := not_or.1 d1;have i1 : ¬ (56320 <= Jz s (j + 1 + 1) /\ Jz s (j + 1 + 1) <= 57343) := by have := d1'.2; unfold Q6 at this; simpa using this
  by_cases d2 : Q6 (Jz s (j + 1 + 1)) 55296 56319 = false
  ·rw [if_pos d2]
   have i2 : ¬ (55296 <= Jz s (j + 1 + 1) /\ Jz s (j + 1 + 1) <= 56319) := by unfold Q6 at d2; simpa using d2
   have hqr := JgN (Jz s (j + 1 + 1)).toNat;refine ⟨(Jz s (j + 1 + 1)).toNat, by simp only; omega, by unfold okR; omega, by simp only; omega⟩
  rw [if_neg d2] at h ⊢;have i2 : 55296 <= Jz s (j + 1 + 1) /\ Jz s (j + 1 + 1) <= 56319 := by unfold Q6 at d2; simpa using d2
  by_cases d3 : s.size < j + 1 + 7 ∨ Jb s (j + 1 + 5) ≠ 92 ∨ Jb s (j + 1 + 6) ≠ 117
  case pos => rw [if_pos d3] at h; exact absurd (show (-1 : Int) < 0 by decide) h
  rw [if_neg d3] at h ⊢;by_cases d4 : Q6 (Jz s (j + 1 + 7)) 56320 57343 = true
  case neg => rw [if_neg d4] at h; exact absurd (show (-1 : Int) < 0 by decide) h
  rw [if_pos d4];have i4 : 56320 <= Jz s (j + 1 + 7) /\ Jz s (j + 1 + 7) <= 57343 := by unfold Q6 at d4; simpa using d4
  have hqr := JgN (65536 + 1024 * (Jz s (j + 1 + 1) - 55296) + Jz s (j + 1 + 7) - 56320).toNat;refine ⟨(65536 + 1024 * (Jz s (j + 1 + 1) - 55296) + Jz s (j + 1 + 7) - 56320).toNat, by simp only; omega, by unfold okR; omega, by simp only; omega⟩
 rw [if_neg c0] at h ⊢;by_cases c1 : (JI s j).1 < 32
 ·rw [if_pos c1] at h; exact absurd (show (-1 : Int) < 0 by decide) h
 rw [if_neg c1] at h ⊢;unfold JI at h c1 ⊢;rw [if_pos hj] at h c1 ⊢;by_cases hd : Utf8.decode s j = (65533, 1)
 ·rw [if_pos hd] at h; exact absurd (show (-1 : Int) < 0 by decide) h
 rw [if_neg hd] at h c1 ⊢;simp only at c1 ⊢;have hfit := JT s j hj;have hdl := Qm s j hj;have hl : s.data.toList.length = s.size := Array.length_toList
 have hne : s.data.toList.drop j ≠ [] := fun e => by
  have := congrArg List.length e;rw [List.length_drop, hl] at this;simp at this;omega
 have hway := Uk _ hne (by rw [hdl]; exact hd);rw [hdl] at hway;refine ⟨(Utf8.decode s j).1, rfl, ?_⟩;rcases hway with ⟨y, h1, h2, h3⟩ | ⟨h1, h2, h3⟩
 ·have hb : Jb s j = (y.toNat : Int) := by
   have hr : Rd s j (y :: (s.data.toList.drop j).drop (Utf8.decode s j).2) := by
    unfold Rd;rw [<- List.singleton_append, <- h3, List.take_append_drop]
   exact hr.byte0.2
  refine ⟨by unfold okR; omega, ?_⟩;rw [h1, hq _ h2]
  have hqn : (qN y.toNat).length = 1 := by
   unfold qN;rw [if_neg (by omega), if_neg (by omega), if_neg (by omega), if_neg (by omega), if_neg (by omega), if_neg (by omega), if_neg (by omega)];rfl
  omega
 ·have hk : ((s.data.toList.drop j).take (Utf8.decode s j).2).length = (Utf8.decode s j).2 := by rw [List.length_take, List.length_drop, hl]; omega
  have hlen := congrArg List.length h2;rw [hk] at hlen;have hen := congrArg List.length (Vm (Utf8.decode s j).1);rw [List.length_map, hlen] at hen;refine ⟨?_, ?_⟩
  ·unfold okR
   unfold J5 at hen;by_cases hbad : 1114111 < (Utf8.decode s j).1 ∨ (55296 <= (Utf8.decode s j).1 /\ (Utf8.decode s j).1 <= 57343)
   ·rw [if_pos hbad] at hen
    simp at hen;omega
   omega
  unfold qR;rw [if_neg (by omega), hlen];omega
theorem JgQ (s : ByteArray) : ∀ (f j : Nat) (acc : List UInt8), s.size - j <= f -> ¬ (Vo s j acc).2 < 0 -> ∃ rs : List Nat, (∀ r ∈ rs, okR r) /\ (Vo s j acc).1 = ⟨(acc ++ UE rs).toArray⟩ /\ ((j + (rs.flatMap qR).length + 1 : Nat) : Int) <= (Vo s j acc).2 := by
 intro f;induction f with
 | zero =>
  intro j acc hf h;rw [Wp (by omega)] at h;exact absurd (show (-1 : Int) < 0 by decide) h
 | succ f ih =>
  intro j acc hf h;by_cases hj : j < s.size
  ·rw [ZE hj] at h ⊢
   by_cases c1 : Jb s j = 34
   ·rw [if_pos c1]
    exact ⟨[], fun r hr => (by cases hr), by simp [UE], by simp⟩
   rw [if_neg c1] at h ⊢;by_cases c2 : (J8 s j).2 < 0
   ·rw [if_pos c2] at h; exact absurd (show (-1 : Int) < 0 by decide) h
   rw [if_neg c2] at h ⊢;obtain ⟨r, h1, h2, h3⟩ := Jgq hj c1 c2;have hnx := YW s j;rw [h1] at h ⊢;obtain ⟨rs, g1, g2, g3⟩ := ih _ _ (by omega) h;refine ⟨r :: rs, fun x hx => ?_, ?_, ?_⟩
   ·rcases List.mem_cons.1 hx with rfl | hx
    ·exact h2
    exact g1 x hx
   ·rw [g2, List.append_assoc]
    rfl
   ·rw [List.flatMap_cons, List.length_append]
    omega
  rw [Wp hj] at h;exact absurd (show (-1 : Int) < 0 by decide) h
theorem JgT {s : ByteArray} {j : Nat} (h : ¬ (Jr s j).2 < 0) : Qt (Jr s j).1 = true /\ ((j + (JN (Jr s j).1).data.toList.length : Nat) : Int) <= (Jr s j).2 := by
 unfold Jr at h ⊢;by_cases hj : j < s.size
 ·rw [if_pos hj] at h ⊢
  by_cases c1 : Jb s j = 34
  ·rw [if_pos c1] at h ⊢
   obtain ⟨rs, h1, h2, h3⟩ := JgQ s _ (j + 1) [] (Nat.le_refl _) h;rw [List.nil_append] at h2;have hr : JH (Vo s (j + 1) []).1 0 = some rs := Jaq _ rs 0 h1 (by rw [h2, List.drop_zero]);refine ⟨by unfold Qt; rw [hr]; rfl, ?_⟩;rw [Xt hr];simp only [List.length_append, List.length_cons, List.length_nil];omega
  rw [if_neg c1] at h;exact absurd (show (-1 : Int) < 0 by decide) h
 rw [if_neg hj] at h;exact absurd (show (-1 : Int) < 0 by decide) h
def Jf3 (l : List UInt8) : Prop := ∀ c, l.head? = some c -> ¬ (48 <= c.toNat /\ c.toNat <= 57) /\ c.toNat ≠ 46 /\ c.toNat ≠ 101 /\ c.toNat ≠ 69
theorem JeZ {s : ByteArray} {rest : List UInt8} (hrest : Jf3 rest) : ∀ (l : List UInt8) (j : Nat), (∀ c ∈ l, Yr c) -> Rd s j (l ++ rest) -> Qg s j = j + l.length
 | [], j, _, h => by
  by_cases hj : j < s.size
  ·rw [JaZ hj]
   rcases hr : rest with _ | ⟨c, r⟩
   ·have := h.len (by omega)
    rw [hr] at this;simp at this;omega
   rw [hr] at h;have hb := Rd.byte0 (c := c) h;have hh := hrest c (by rw [hr]; rfl);rw [if_neg (by rw [hb.2]; unfold ZA; simp only [Bool.and_eq_true, decide_eq_true_eq]; omega)];rfl
  rw [JbI hj]; rfl
 | c :: l, j, hf, h => by
  have hb := Rd.byte0 (c := c) h;have hc := hf c (by simp);unfold Yr at hc;have h2 : Rd s (j + 1) (l ++ rest) := Rd.drop (a := [c]) h;rw [JaZ hb.1, if_pos (by rw [hb.2]; unfold ZA; simp only [Bool.and_eq_true, decide_eq_true_eq]; omega), JeZ hrest l (j + 1) (fun x hx => hf x (by simp [hx])) h2, List.length_cons];omega
theorem Jfz : ∀ u : Nat, 0 < u -> ∃ c r, decDigits u = c :: r /\ 49 <= c.toNat /\ c.toNat <= 57 := by
 intro u;induction u using Nat.strongRecOn with
 | ind u ih =>
  intro hu;rw [decDigits];by_cases h : u < 10
  ·rw [dif_pos h]
   exact ⟨_, [], rfl, by rw [V5 h]; omega, by rw [V5 h]; omega⟩
  rw [dif_neg h];obtain ⟨c, r, h1, h2, h3⟩ := ih (u / 10) (by omega) (by omega);exact ⟨c, r ++ [UInt8.ofNat (48 + u % 10)], by rw [h1]; rfl, h2, h3⟩
theorem Jef (u : Nat) : decDigits u ≠ [] := by
 rcases Nat.eq_zero_or_pos u with rfl | h
 ·rw [decDigits]; simp
 obtain ⟨c, r, h1, -⟩ := Jfz u h;rw [h1]; simp
theorem Jew {s : ByteArray} {a u : Nat} {rest : List UInt8} (hrest : Jf3 rest) (h : Rd s a (decDigits u ++ rest)) : Qg s a = a + (decDigits u).length /\ ¬ (Qg s a = a ∨ (Jb s a = 48 /\ a + 1 < Qg s a) ∨ (Qg s a < s.size /\ (Jb s (Qg s a) = 46 ∨ Jb s (Qg s a) = 101 ∨ Jb s (Qg s a) = 69))) /\ UX s a (Qg s a) = u := by
 have h1 := JeZ hrest _ a (ZU u) h;have hne := Jef u;have hl : 0 < (decDigits u).length := List.length_pos_iff.2 hne;refine ⟨h1, ?_, ?_⟩
 ·rw [h1]
  refine not_or.2 ⟨by omega, not_or.2 ⟨?_, ?_⟩⟩
  ·intro ⟨e1, e2⟩
   rcases Nat.eq_zero_or_pos u with rfl | hu
   ·have : (decDigits 0).length = 1 := by rw [decDigits]; rfl
    omega
   obtain ⟨c, r, g1, g2, g3⟩ := Jfz u hu;rw [g1] at h;have hb := Rd.byte0 (c := c) h;rw [hb.2] at e1;omega
  intro ⟨e1, e2⟩;have h2 := h.drop;rcases hr : rest with _ | ⟨c, r⟩
  ·rw [hr] at h2
   have := h2.len (by omega);simp at this;omega
  rw [hr] at h2;have hb := Rd.byte0 (c := c) h2;have hh := hrest c (by rw [hr]; rfl);rw [hb.2] at e2;omega
 unfold UX;rw [h1, W8, show s.data.toList.drop a = decDigits u ++ rest from h, List.take_left, JaY]
theorem JgG {s : ByteArray} {j : Nat} {n : Int} {rest : List UInt8} (hn : -9223372036854775808 <= n /\ n <= 9223372036854775807) (hrest : Jf3 rest) (h : Rd s j ((Qv n).data.toList ++ rest)) : j < s.size /\ Jjo (Jb s j) = 0 /\ Jb s j ≠ 34 /\ (Jb s j = 45 ∨ ZA (Jb s j) = true) /\ JF s j = (n, ((j + (Qv n).data.toList.length : Nat) : Int)) := by
 have hd : (Qv n).data.toList = itoa n := by unfold Qv; simp
 rw [hd] at h ⊢;unfold itoa at h ⊢;by_cases hneg : n < 0
 ·rw [if_pos hneg] at h ⊢
  have hb := Rd.byte0 (c := 45) h;have e45 : Jb s j = 45 := hb.2;have h2 : Rd s (j + 1) (decDigits n.natAbs ++ rest) := Rd.drop (a := [45]) h;obtain ⟨g1, g2, g3⟩ := Jew hrest h2;refine ⟨hb.1, by rw [e45]; decide, by rw [e45]; decide, .inl e45, ?_⟩;unfold JF;rw [if_pos hb.1, if_pos e45];unfold VC;rw [if_neg g2, if_pos rfl, g3, if_pos (by omega), g1, List.length_cons];simp only [Prod.mk.injEq]
  omega
 rw [if_neg hneg] at h ⊢;obtain ⟨g1, g2, g3⟩ := Jew hrest h
 have hb : ∃ c r, decDigits n.toNat = c :: r := by
  rcases hq : decDigits n.toNat with _ | ⟨c, r⟩
  ·exact absurd hq (Jef _)
  exact ⟨c, r, rfl⟩
 obtain ⟨c, r, hcr⟩ := hb;have hfc := ZU n.toNat c (by rw [hcr]; simp);unfold Yr at hfc
 have hb : j < s.size /\ Jb s j = (c.toNat : Int) := by
  rw [hcr] at h;exact Rd.byte0 (c := c) h
 have hm : Jjo (Jb s j) = 0 := by
  rw [hb.2];unfold Jjo;rw [if_neg (by omega), if_neg (by omega), if_neg (by omega), if_neg (by omega), if_neg (by omega), if_neg (by omega)]
 refine ⟨hb.1, hm, by rw [hb.2]; omega, .inr (by rw [hb.2]; unfold ZA; simp only [Bool.and_eq_true, decide_eq_true_eq]; omega), ?_⟩;unfold JF;rw [if_pos hb.1, if_neg (by rw [hb.2]; omega)];unfold VC;rw [if_neg g2, if_neg (by decide), g3, if_pos (by omega), g1];exact Prod.ext (by show ((n.toNat : Nat) : Int) = n; omega) rfl
theorem QS : QA 0 := by unfold QA; omega
def VU (a : List UInt8) : Prop := ∀ (s : ByteArray) (j : Nat) (rest : List UInt8), Rd s j (a ++ rest) -> QO s j = QO s (j + a.length)
theorem VU.nil : VU [] := fun _ _ _ _ => rfl
theorem VU.app {a b : List UInt8} (h : VU a) (k : VU b) : VU (a ++ b) := by
 intro s j rest hr;rw [List.append_assoc] at hr;rw [h s j _ hr, k s _ _ hr.drop, List.length_append, Nat.add_assoc]
theorem VU.low : ∀ {a : List UInt8}, (∀ c ∈ a, c.toNat < 128) -> VU a
 | [], _ => VU.nil
 | c :: a, h => by
  refine VU.app (a := [c]) ?_ (VU.low (fun x hx => h x (by simp [hx])));intro s j rest hr;have hb := Rd.byte0 (c := c) hr;have hc := h c (by simp);have h1 := Qm s j hb.1;rw [show s.data.toList.drop j = c :: rest from hr, JbO (by simpa using hc)] at h1;rw [Zd hb.1 (by rw [<- h1]; intro e; have := congrArg Prod.fst e; simp at this; omega), <- h1];rfl
theorem JlW {c : UInt8} (h : c.toNat < 128) : ∀ x ∈ qB c, x.toNat < 128 := by
 have hf : ∀ y : Fin 16, (Y4 y.val).toNat < 128 := by decide
 intro x hx;unfold qB qN at hx;by_cases c1 : c.toNat = 34 ∨ c.toNat = 92
 ·rw [if_pos c1] at hx
  simp at hx;rcases hx with rfl | rfl
  ·decide
  exact h
 rw [if_neg c1] at hx;by_cases c2 : c.toNat = 8
 ·rw [if_pos c2] at hx; simp at hx; rcases hx with rfl | rfl <;> decide
 rw [if_neg c2] at hx;by_cases c3 : c.toNat = 12
 ·rw [if_pos c3] at hx; simp at hx; rcases hx with rfl | rfl <;> decide
 rw [if_neg c3] at hx;by_cases c4 : c.toNat = 10
 ·rw [if_pos c4] at hx; simp at hx; rcases hx with rfl | rfl <;> decide
 rw [if_neg c4] at hx;by_cases c5 : c.toNat = 13
 ·rw [if_pos c5] at hx; simp at hx; rcases hx with rfl | rfl <;> decide
 rw [if_neg c5] at hx;by_cases c6 : c.toNat = 9
 ·rw [if_pos c6] at hx; simp at hx; rcases hx with rfl | rfl <;> decide
 rw [if_neg c6] at hx;by_cases c7 : c.toNat < 32
 ·rw [if_pos c7] at hx
  simp only [List.mem_cons, List.mem_nil_iff, or_false] at hx;rcases hx with rfl | rfl | rfl | rfl | rfl | rfl
  ·decide
  ·decide
  ·decide
  ·decide
  ·exact hf ⟨c.toNat / 16, by omega⟩
  exact hf ⟨c.toNat % 16, by omega⟩
 ·rw [if_neg c7] at hx
  simp at hx;rw [hx];exact h
theorem VU.rune {l : List UInt8} (hv : decodeL l ≠ (65533, 1)) (hk : 1 <= (decodeL l).2) (hl : (decodeL l).2 <= l.length) : VU (l.take (decodeL l).2) := by
 intro s j rest hr;have hlen : (l.take (decodeL l).2).length = (decodeL l).2 := by rw [List.length_take]; omega
 have hj : j < s.size := by
  rcases hq : l.take (decodeL l).2 with _ | ⟨z, zs⟩
  ·rw [hq] at hlen; simp at hlen; omega
  rw [hq] at hr;exact (Rd.byte0 (c := z) hr).1
 have h1 := Qm s j hj;rw [show s.data.toList.drop j = l.take (decodeL l).2 ++ rest from hr, XR (l := l) hv (by rw [List.take_append_of_le_length (by omega), List.take_take, Nat.min_self]) (by rw [List.length_append]; omega)] at h1;rw [Zd hj (by rw [<- h1]; exact hv), <- h1, hlen]
theorem VU.flat (x : ByteArray) : ∀ (f i : Nat) (rs : List Nat), x.size - i <= f -> JH x i = some rs -> VU ((x.data.toList.drop i).flatMap qB) := by
 intro f;induction f with
 | zero =>
  intro i rs hf h;rw [List.drop_of_length_le (by rw [Array.length_toList]; exact (show x.size <= i by omega))];exact VU.nil
 | succ f ih =>
  intro i rs hf h;by_cases hi : i < x.size
  ·by_cases hd : Utf8.decode x i = (65533, 1)
   ·rw [QQ hi hd] at h; cases h
   rw [Qu hi hd] at h;have hdl := Qm x i hi;have hl : x.data.toList.length = x.size := Array.length_toList
   have hne : x.data.toList.drop i ≠ [] := fun e => by
    have := congrArg List.length e;rw [List.length_drop, hl] at this;simp at this;omega
   have hfit := JT x i hi;rcases hr2 : JH x (i + (Utf8.decode x i).2) with _ | rs'
   ·rw [hr2] at h; cases h
   have hs : x.data.toList.drop i = (x.data.toList.drop i).take (Utf8.decode x i).2 ++ x.data.toList.drop (i + (Utf8.decode x i).2) := by
    rw [<- List.drop_drop, List.take_append_drop]
   have hdv : decodeL (x.data.toList.drop i) ≠ (65533, 1) := by rw [hdl]; exact hd
   have ih' := ih (i + (Utf8.decode x i).2) rs' (by omega) hr2;have hway := Uk _ hne hdv;have hru := VU.rune hdv (by rw [hdl]; exact hfit.2.1) (by rw [hdl, List.length_drop, hl]; omega);rw [hdl] at hway hru;rw [hs, List.flatMap_append];refine VU.app ?_ ih';rcases hway with ⟨y, h1, h2, h3⟩ | ⟨h1, h2, h3⟩
   ·rw [h3]
    have hq1 : [y].flatMap qB = qB y := by simp
    rw [hq1];exact VU.low (JlW h2)
   rw [Wf h3];exact hru
  rw [List.drop_of_length_le (by rw [Array.length_toList]; exact (show x.size <= i by omega))];exact VU.nil
theorem VU.quote {x : ByteArray} (hx : Qt x = true) : VU (JN x).data.toList := by
 obtain ⟨rs, hrs⟩ := Option.isSome_iff_exists.1 (show (JH x 0).isSome = true from hx);have h := VU.flat x _ 0 rs (Nat.le_refl _) hrs;rw [List.drop_zero] at h;have hq : (JN x).data.toList = [34] ++ (x.data.toList.flatMap qB ++ [34]) := by unfold JN; rw [if_pos hx]; rfl
 rw [hq];exact VU.app (VU.low (by simp)) (VU.app h (VU.low (by simp)))
def W4 {α : Type} (p : Nat -> List α) : Nat -> Nat -> List α
 | _, 0 => []
 | k, n + 1 => p k ++ W4 p (k + 1) n
theorem Q0 {α : Type} (p : Nat -> List α) (k n : Nat) : W4 p k (n + 1) = p k ++ W4 p (k + 1) n := rfl
theorem Jdc {α : Type} (p : Nat -> List α) : ∀ (n k : Nat), W4 p k (n + 1) = W4 p k n ++ p (k + n)
 | 0, k => by simp [W4]
 | n + 1, k => by
  rw [Q0, Jdc p n (k + 1), Q0 p k n, List.append_assoc];congr 3
  omega
theorem XC {s : ByteArray} (h : Qs s = true) : Qt s = true /\ s.size <= 400 := by
 unfold Qs at h;simp only [Bool.and_eq_true, decide_eq_true_eq] at h;exact ⟨h.2, h.1⟩
theorem JkY {n i : Nat} {d : TreeD} {k : ByteArray} (h : Ju (n + 1) d = true) (hk : d.keys[i]? = some k) : Qs k = true := by
 have := (JZ h).2.2.2.1 i (List.getElem?_eq_some_iff.1 hk).1;unfold Q3 at this;rw [hk] at this;simp only [Bool.and_eq_true] at this;exact this.1
open Go.RowKit
theorem XQ : ∀ a : List UInt8, Op.bytesLess a a = false
 | [] => rfl
 | x :: a => by unfold Op.bytesLess; simp [UInt8.lt_irrefl, XQ a]
theorem JdN (a : ByteArray) : JU a a = false := XQ _
open Go.Shelf
def JgU : Go.Shelf.Ren := ⟨fun | 26 => 183 | 33 => 239 | 34 => 240 | 38 => 264 | n => n, fun | 24 => 31 | 9 => 9 | 3 => 3 | 4 => 4 | 40 => 179 | 0 => 0 | n => n, fun | n => n⟩
theorem Jkx : Go.Proofs.Lays2.n26 Tryz.prog JgU := {
 mixed := by kernel_rfl
 f26 := Tryz.func183.trans (congrArg some (by kernel_rfl))
 f33 := Tryz.func239.trans (congrArg some (by kernel_rfl))
 f34 := Tryz.func240.trans (congrArg some (by kernel_rfl))
 f38 := Tryz.func264.trans (congrArg some (by kernel_rfl))
 t0 := Tryz.underlying0
 a0 := Tryz.isAgg0
 z0 := Tryz.sizeOf0
 v0 := Tryz.zeroValue0
 t3 := Tryz.underlying3
 a3 := Tryz.isAgg3
 z3 := Tryz.sizeOf3
 v3 := Tryz.zeroValue3
 t4 := Tryz.underlying4
 a4 := Tryz.isAgg4
 z4 := Tryz.sizeOf4
 v4 := Tryz.zeroValue4
 t9 := Tryz.underlying9
 a9 := Tryz.isAgg9
 z9 := Tryz.sizeOf9
 v9 := Tryz.zeroValue9
 t24 := Tryz.underlying31
 a24 := Tryz.isAgg31
 z24 := Tryz.sizeOf31
 v24 := Tryz.zeroValue31
 t40 := Tryz.underlying179
 a40 := Tryz.isAgg179
 z40 := Tryz.sizeOf179
 v40 := Tryz.zeroValue179 }
def Jf2 : Go.Shelf.Ren := ⟨fun | 22 => 184 | 29 => 241 | 30 => 242 | 36 => 265 | 17 => 281 | n => n, fun | 24 => 31 | 9 => 9 | 3 => 3 | 4 => 4 | 0 => 0 | n => n, fun | n => n⟩
theorem Ji9 : Go.Proofs.Lays2.n22 Tryz.prog Jf2 := {
 mixed := by kernel_rfl
 f17 := Tryz.func281.trans (congrArg some (by kernel_rfl))
 f22 := Tryz.func184.trans (congrArg some (by kernel_rfl))
 f29 := Tryz.func241.trans (congrArg some (by kernel_rfl))
 f30 := Tryz.func242.trans (congrArg some (by kernel_rfl))
 f36 := Tryz.func265.trans (congrArg some (by kernel_rfl))
 t0 := Tryz.underlying0
 a0 := Tryz.isAgg0
 z0 := Tryz.sizeOf0
 v0 := Tryz.zeroValue0
 t3 := Tryz.underlying3
 a3 := Tryz.isAgg3
 z3 := Tryz.sizeOf3
 v3 := Tryz.zeroValue3
 t4 := Tryz.underlying4
 a4 := Tryz.isAgg4
 z4 := Tryz.sizeOf4
 v4 := Tryz.zeroValue4
 t9 := Tryz.underlying9
 a9 := Tryz.isAgg9
 z9 := Tryz.sizeOf9
 v9 := Tryz.zeroValue9
 t24 := Tryz.underlying31
 a24 := Tryz.isAgg31
 z24 := Tryz.sizeOf31
 v24 := Tryz.zeroValue31
 i9 := by kernel_rfl }
theorem Jd9 {D : Type} (p : D -> Bool) (l : List D) (k : Nat) (d : D) (h : l[k]? = some d) : (l.take (k + 1)).any p = ((l.take k).any p || p d) := by
 rw [List.take_add_one, h]; simp
theorem Jgx {D : Type} (p : D -> Bool) (l : List D) (k : Nat) (d : D) (h : l[k]? = some d) (ha : (l.take k).any p = false) (hp : p d = false) : (l.take (k + 1)).any p = false := by
 rw [Jd9 p l k d h, ha, hp]; rfl
def isS (s x : ByteArray) : Bool := x.toList == s.toList
def Jee (l : List ByteArray) (s : ByteArray) : Bool := l.any (isS s)
def Q4 (ks : List ByteArray) : Prop := ks.Pairwise fun a b => JU a b = true
theorem YG {a b c : ByteArray} (h1 : JU a b = true) (h2 : JU b c = true) : JU a c = true := Xu _ _ _ h1 h2
theorem U1 {a b : ByteArray} (h : JU a b = false) (hn : a ≠ b) : JU b a = true := by
 rcases h2 : JU b a with _ | _
 ·exact absurd (toList_inj (Jdg _ _ h h2)) hn
 rfl
theorem Jb4 (ks : List ByteArray) (s : ByteArray) : Jee ks s = true ↔ s ∈ ks := by
 unfold Jee isS;rw [List.any_eq_true];constructor
 ·rintro ⟨x, hx, h⟩
  have := toList_inj (beq_iff_eq.1 h)
  rwa [this] at hx
 intro h;exact ⟨s, h, beq_self_eq_true _⟩
theorem JlJ (a b : ByteArray) : (a == b) = (b.toList == a.toList) := by
 have h : (a == b) = (a.data == b.data) := rfl;rw [h, Bool.eq_iff_iff, beq_iff_eq, beq_iff_eq];constructor
 ·intro e
  rw [ByteArray.ext e]
 intro e;rw [toList_inj e]
theorem QV : ∀ (ks : List ByteArray) (s : ByteArray), ks.contains s = Jee ks s
 | [], _ => rfl
 | x :: ks, s => by
  rw [List.contains_cons, QV ks s, JlJ];rfl
theorem Jg7 {D : Type} {p : D -> Bool} : ∀ {l : List D} {a : D}, a ∈ l.takeWhile p -> p a = true
 | [], a, h => by simp at h
 | x :: l, a, h => by
  rw [List.takeWhile_cons] at h;by_cases hx : p x = true
  ·rw [if_pos hx] at h
   rcases List.mem_cons.1 h with rfl | h
   ·exact hx
   exact Jg7 h
  rw [if_neg hx] at h;cases h
theorem Ua (ks : List ByteArray) (key : ByteArray) : Qy ks key <= ks.length := by
 unfold Qy;exact (List.takeWhile_sublist _).length_le
theorem Jdj (ks : List ByteArray) (key : ByteArray) : ks.take (Qy ks key) = ks.takeWhile (fun k => JU k key) := by
 unfold Qy;have h := List.takeWhile_append_dropWhile (p := fun k => JU k key) (l := ks)
 conv => lhs; arg 2; rw [<- h]
 exact List.take_left' rfl
theorem Jal (ks : List ByteArray) (key : ByteArray) : ks.drop (Qy ks key) = ks.dropWhile (fun k => JU k key) := by
 unfold Qy;have h := List.takeWhile_append_dropWhile (p := fun k => JU k key) (l := ks)
 conv => lhs; arg 2; rw [<- h]
 exact List.drop_left' rfl
theorem Wk {ks : List ByteArray} {key : ByteArray} {t : Nat} {a : ByteArray} (h : t < Qy ks key) (ha : ks[t]? = some a) : JU a key = true := by
 have h1 : (ks.take (Qy ks key))[t]? = some a := by rw [List.getElem?_take, if_pos h]; exact ha
 rw [Jdj] at h1;exact Jg7 (p := fun k => JU k key) (List.mem_of_getElem? h1)
theorem Xe : ∀ {ks : List ByteArray} {key : ByteArray}, Q4 ks -> ∀ a ∈ ks.dropWhile (fun k => JU k key), JU a key = false
 | [], key, _, a, ha => by simp at ha
 | x :: ks, key, hs, a, ha => by
  rw [List.dropWhile_cons] at ha;by_cases hx : JU x key = true
  ·rw [if_pos hx] at ha
   exact Xe (List.Pairwise.of_cons hs) a ha
  rw [if_neg hx] at ha;have hx0 : JU x key = false := by simpa using hx
  rcases List.mem_cons.1 ha with rfl | ha
  ·exact hx0
  have h1 := (List.pairwise_cons.1 hs).1 a ha;rcases h2 : JU a key with _ | _
  ·rfl
  rw [YG h1 h2] at hx0; cases hx0
theorem Jb5 {ks : List ByteArray} {key : ByteArray} {t : Nat} {a : ByteArray} (hs : Q4 ks) (h : Qy ks key <= t) (ha : ks[t]? = some a) : JU a key = false := by
 refine Xe hs a ?_;rw [<- Jal];refine List.mem_of_getElem? (i := t - Qy ks key) ?_;rw [List.getElem?_drop, show Qy ks key + (t - Qy ks key) = t by omega];exact ha
theorem WL {ks : List ByteArray} {key : ByteArray} (hs : Q4 ks) (hn : Jee ks key = false) : Q4 (J3 ks (Qy ks key) key) := by
 have hnm : key ∉ ks := fun h => by rw [(Jb4 ks key).2 h] at hn; cases hn
 unfold Q4 J3;rw [List.pairwise_append];refine ⟨List.Pairwise.sublist (List.take_sublist _ _) hs, List.pairwise_cons.2 ⟨fun a ha => ?_, List.Pairwise.sublist (List.drop_sublist _ _) hs⟩, fun a ha b hb => ?_⟩
 ·have hm := List.mem_of_mem_drop ha
  rw [Jal] at ha;exact U1 (Xe hs a ha) (fun e => hnm (by rw [<- e]; exact hm))
 have hl : JU a key = true := by rw [Jdj] at ha; exact Jg7 (p := fun k => JU k key) ha
 rcases List.mem_cons.1 hb with rfl | hb
 ·exact hl
 have hm := List.mem_of_mem_drop hb;rw [Jal] at hb;exact YG hl (U1 (Xe hs b hb) (fun e => hnm (by rw [<- e]; exact hm)))
theorem QY {D : Type} {l : List D} {i : Nat} {x : D} (h : i <= l.length) : (J3 l i x).length = l.length + 1 := by
 unfold J3;rw [List.length_append, List.length_cons, List.length_take, List.length_drop];omega
theorem Jkg {n : Nat} {d : TreeD} (h : Ju (n + 1) d = true) : ∀ (j i : Nat) (a b : ByteArray), i < j -> d.keys[i]? = some a -> d.keys[j]? = some b -> JU a b = true := by
 intro j;induction j with
 | zero => intro i a b hi; omega
 | succ j ih =>
  intro i a b hi ha hb;have hj := (List.getElem?_eq_some_iff.1 hb).1;obtain ⟨c, hc⟩ := Jg (show j < d.keys.length by omega);have h1 := (JZ h).2.2.2.1 (j + 1) hj;rw [Ue hb hc] at h1;simp only [Bool.and_eq_true] at h1;rcases Nat.lt_or_ge i j with hij | hij
  ·exact YG (ih i a c hij ha hc) h1.2
  obtain rfl : i = j := by omega
  rw [ha] at hc;obtain rfl := Option.some.inj hc;exact h1.2
theorem Jjl {D : Type} {p : D -> Bool} : ∀ {l : List D}, (∀ x ∈ l, p x = true) -> l.takeWhile p = l
 | [], _ => rfl
 | x :: l, h => by rw [List.takeWhile_cons, if_pos (h x (by simp)), Jjl (fun y hy => h y (by simp [hy]))]
theorem JiA {ks : List ByteArray} {key : ByteArray} (h : ∀ k ∈ ks, JU k key = true) : Qy ks key = ks.length := by
 unfold Qy;rw [Jjl h]
theorem Jdt {D : Type} (l : List D) (x : D) : J3 l l.length x = l ++ [x] := by
 unfold J3;rw [List.take_length, List.drop_length]
theorem Xq {ks : List ByteArray} {key : ByteArray} (h : ∀ k ∈ ks, JU k key = true) : ks.contains key = false := by
 rcases hc : ks.contains key with _ | _
 ·rfl
 rw [QV] at hc;have h1 := h key ((Jb4 ks key).1 hc);rw [JdN] at h1;cases h1
theorem Wh {d : TreeD} (h : Va d = false) : (1 <= d.kind /\ d.kind <= 6) /\ (d.kind ≠ 2 -> d.flag = false) /\ (d.kind ≠ 3 -> d.num = 0) /\ (d.kind ≠ 4 -> d.text = ⟨#[]⟩) /\ (d.kind ≠ 6 -> d.keys = []) /\ (d.kind < 5 -> d.kids = []) := by
 unfold Va at h;simp only [Bool.or_eq_false_iff, Bool.not_eq_false', Bool.and_eq_false_iff, bne_eq_false_iff_eq, decide_eq_false_iff_not, Nat.not_lt, Nat.le_zero, List.length_eq_zero_iff] at h;obtain ⟨⟨⟨⟨⟨h1, h2⟩, h3⟩, h4⟩, h5⟩, h6⟩ := h;refine ⟨by unfold Q6 at h1; exact of_decide_eq_true h1, fun hk => h2.resolve_right hk, fun hk => h3.resolve_right hk, fun hk => ?_, fun hk => h5.resolve_right hk, fun hk => h6.resolve_right (by omega)⟩
 have h7 := h4.resolve_right hk;rw [List.isEmpty_iff, ByteArray.toList_eq] at h7;exact ByteArray.ext (Array.toList_inj.1 h7)
theorem Jez {D : Type} {l : List D} {k : Nat} {t : D} (h : l[k]? = some t) : l.drop k = t :: l.drop (k + 1) := by
 obtain ⟨h1, h2⟩ := List.getElem?_eq_some_iff.1 h;rw [List.drop_eq_getElem_cons h1, h2]
theorem Aside.join {S S' : Nat -> Prop} {a b c : World} (h : Aside S a b) (k : Aside S' b c) (hs : ∀ q, S' q -> q < a.heap.size -> S q) : Aside S a c :=
 ⟨k.os.trans h.os, k.tape.trans h.tape, k.output.trans h.output, Nat.le_trans h.size k.size, fun i hi hn => (k.block i (Nat.lt_of_lt_of_le hi h.size) (fun hq => hn (hs i hq hi))).trans (h.block i hi hn)⟩
theorem Qr {n : Nat} {S : Nat -> Prop} {w : World} {k num : Int} {f : Bool} {t : ByteArray} (hk : QA k) (hn : QA num) (ht : t.size <= 9223372036854775807) : OwnT (n + 1) S w ⟨k, f, num, t, [], []⟩ [.int .i64 k, .bool f, .int .i64 num, .string t, .slice none 0 0, .slice none 0 0] :=
 OwnT.into ⟨_, _, fun _ => False, fun _ => False, rfl, hk, hn, ht, fun _ h => h.elim, fun _ h => h.elim, ⟨none, 0, rfl, Nat.le_refl _, by omega, fun h => absurd h (by simp)⟩, ⟨none, 0, rfl, Nat.le_refl _, by omega, fun h => absurd h (by simp)⟩⟩
theorem WC (t : ByteArray) (w : World) : Calls Tryz.prog 135 #[.string t] w fun e w' => e = .returned (.agg #[.int .i64 4, .bool false, .int .i64 0, .string t, .slice none 0 0, .slice none 0 0]) /\ Below w.heap.size w w' := by
 go_enter Tryz.func135, Tryz.ntmps135
 go_wp2_with fail
 exact bodyPost_ret (v := .agg #[.int .i64 4, .bool false, .int .i64 0, .string t, .slice none 0 0, .slice none 0 0]) (by simp only [results, Tryz.results135]; go_simp) rfl ⟨rfl, Jj⟩
theorem JdU (x : Int) (w : World) : Calls Tryz.prog 136 #[.int .i64 x] w fun e w' => e = .returned (.agg #[.int .i64 3, .bool false, .int .i64 x, .string ⟨#[]⟩, .slice none 0 0, .slice none 0 0]) /\ Below w.heap.size w w' := by
 go_enter Tryz.func136, Tryz.ntmps136
 go_wp2_with fail
 exact bodyPost_ret (v := .agg #[.int .i64 3, .bool false, .int .i64 x, .string ⟨#[]⟩, .slice none 0 0, .slice none 0 0]) (by simp only [results, Tryz.results136]; go_simp) rfl ⟨rfl, Jj⟩
theorem JhL {D : Type} (p : D -> Bool) : ∀ (l : List D) (k : Nat) (d : D), l[k]? = some d -> (l.take k).any p = false -> p d = true -> l.findIdx? p = some k
 | [], k, d, h, _, _ => by simp at h
 | x :: l, 0, d, h, _, hp => by simp at h; subst h; simp [List.findIdx?_cons, hp]
 | x :: l, k + 1, d, h, ha, hp => by
  simp only [List.take_succ_cons, List.any_cons, Bool.or_eq_false_iff] at ha;simp only [List.getElem?_cons_succ] at h;rw [List.findIdx?_cons, ha.1, JhL p l k d h ha.2 hp];rfl
theorem Jla {D : Type} (p : D -> Bool) (l : List D) (ha : (l.take l.length).any p = false) : l.findIdx? p = none := by
 rw [List.take_length] at ha;rw [List.findIdx?_eq_none_iff];intro x hx;rw [List.any_eq_false] at ha
 simpa using ha x hx
def JdO (l : List ByteArray) (s : ByteArray) : Int := match l.findIdx? (isS s) with | some k => (k : Int) | none => -1
theorem JkE (l : List ByteArray) (s : ByteArray) (k : Nat) (d : ByteArray) (h : l[k]? = some d) (ha : (l.take k).any (isS s) = false) (hp : isS s d = true) : JdO l s = k := by
 unfold JdO; rw [JhL _ l k d h ha hp]
theorem Jfm (l : List ByteArray) (s : ByteArray) (ha : (l.take l.length).any (isS s) = false) : JdO l s = -1 := by
 unfold JdO; rw [Jla _ l ha]
def Jfh (d : TreeD) (key : ByteArray) : Int := if d.kind = 6 then JdO d.keys key else -1
theorem Jeh (n : Nat) (d : TreeD) (cs : List Value) (key : ByteArray) (w : World) (lo : Nat) (h : C_Tree n lo w.heap.size w d cs) :
  Calls Tryz.prog 68 #[.agg cs.toArray, .string key] w fun e w' => e = .returned (.int .i64 (Jfh d key)) /\ Below w.heap.size w w' := by
 obtain ⟨m, rfl⟩ := h.any;obtain ⟨v4, v5, rfl, a0, a2, a3, a4, a5⟩ := h.out;obtain ⟨A4, c4, rfl, hlc, hcc, hA⟩ := a4;obtain ⟨A5, c5, rfl⟩ := a5.form;by_cases hq : d.kind = 6
 ·have Hf := hid (show Jfh d key = JdO d.keys key by unfold Jfh; rw [if_pos hq])
  have hx : (d.kind == 6) = true := by simp [hq]
  clear hq;go_enter Tryz.func68, Tryz.ntmps68
  go_wp2_with fail
  go_loopw [5] (fun i wr => ∃ k : Nat, k <= d.keys.length /\ i = .int .i64 k /\ (d.keys.take k).any (isS key) = false /\ ∃ n, wr = (w.alloc (.cells #[.int .i64 d.kind, .bool d.flag, .int .i64 d.num, .string d.text, .slice A4 d.keys.length c4, .slice A5 d.kids.length c5] 34)).drewN n) (fun i _ => d.keys.length - (intOf i).toNat)
  case atStart => exact ⟨0, Nat.zero_le _, rfl, rfl, 0, rfl⟩
  case round =>
   obtain ⟨k, hk, rfl, hall, n, rfl⟩ := hrel;have Hall := hid hall;clear hall;by_cases hlt : k < d.keys.length
   focus
    obtain ⟨b, o, rfl, -, hb2, hcell⟩ := hA (by omega);obtain ⟨s, hd⟩ := Jg hlt;obtain ⟨es, -, hcs, hC⟩ := hcell k s hd;obtain ⟨rfl, ea0⟩ := hC;have hc0 := hcs 0 (by omega);simp at hc0;have hk0 : (0 : Int) <= k := by omega
    have hk1 : (k : Int) < d.keys.length := by omega
    rcases hq : (s.toList == key.toList) with _ | _
    ·have Hn := hid (Jgx (isS key) d.keys k s hd Hall.out hq)
     clear hcs hcell hA hd;go_wp2_with fail
     go_roundw
     case rel => exact ⟨k + 1, by omega, by go_num, Hn.out, _, rfl⟩
     case measure => simp [intOf]; omega
    have Hh := hid (JkE d.keys key k s hd Hall.out hq);clear hcs hcell hA hd
   rotate_left
   focus
    obtain rfl : k = d.keys.length := by omega
    have Hh := hid (Jfm d.keys key Hall.out);clear hA
   rotate_left
   all_goals
    go_wp2_with fail
    go_ret
    exact ⟨Jem (by rw [Hf.out, Hh.out]), Jj⟩
 have Hf := hid (show Jfh d key = -1 by unfold Jfh; rw [if_neg hq]);have hx : (d.kind == 6) = false := by simp [hq]
 clear hA;go_enter Tryz.func68, Tryz.ntmps68
 go_wp2_with fail
 go_loopw [5] (fun i wr => i = .int .i64 0 /\ wr = w.alloc (.cells #[.int .i64 d.kind, .bool d.flag, .int .i64 d.num, .string d.text, .slice A4 d.keys.length c4, .slice A5 d.kids.length c5] 34)) (fun _ _ => 0)
 case atStart => exact ⟨rfl, rfl⟩
 case round =>
  obtain ⟨rfl, rfl⟩ := hrel;by_cases hl : (0 : Int) < d.keys.length
  all_goals
   go_wp2_with fail
   go_ret
   exact ⟨Jem Hf.out.symm, Jj⟩
theorem GrowK.empty {n base B : Nat} {w : World} (hB : B = w.heap.size) (hb : base <= w.heap.size) : GrowK n base (w.alloc (.cells #[] 34)).heap.size (w.alloc (.cells #[] 34)) [] (.slice (some ⟨B, 0, none⟩) 0 0) :=
 ⟨[], fun _ _ => False, rfl, fun _ h => (by cases h), JV hB hb, fun g h => (by simp [Value.ownBlock] at h; simp; omega), fun _ _ h => h.elim, fun _ _ _ h => h.elim, fun i d es h => (by simp at h)⟩
theorem Jle {wr W9 w9 : World} {o : Obj} {base n m size : Nat} {e : TypeId} {v : Value} {xs : List Value} (h : wr.ownsRow base e size v n xs) (hb : Below W9.heap.size W9 w9) (he : W9.heap = wr.heap) (hn : n = m) : (w9.alloc o).ownsRow base e size v m xs := by
 subst hn;refine World.ownsRow.alloc (Jh h (fun q hq => ?_)) o;have := (h.lt q hq).2;rw [<- he] at this;rw [hb.block q this, he]
theorem Ym {w w' : World} {r q : Option Nat} (h : r = q) (k : w.grownBy w' q) : w.grownBy w' r := by subst h; exact k
theorem JgA {wr W9 w9 w2 : World} {o row : Obj} {r q : Option Nat} {b : Nat} (hrow : wr.heap[b]? = some row) (hb : Below W9.heap.size W9 w9) (he : W9.heap = wr.heap) (hg : (w9.alloc o).grownBy w2 q) (hr : r = q) (hn : r ≠ some b) : w2.heap[b]? = some row := by
 subst hr;have h1 : b < W9.heap.size := by rw [he]; exact Ja hrow
 have h2 := hb.size;rw [hg.block b (by simp; omega) (fun e => hn e.symm), Below.heap_alloc w9 o b (by omega), hb.block b h1, he, hrow]
theorem Jmr {wr W9 w9 w2 : World} {o : Obj} {r q : Option Nat} {b : Nat} (hrow : b < wr.heap.size) (hb : Below W9.heap.size W9 w9) (he : W9.heap = wr.heap) (hg : (w9.alloc o).grownBy w2 q) (hr : r = q) (hn : r ≠ some b) : w2.heap[b]? = wr.heap[b]? := by
 subst hr;have h1 : b < W9.heap.size := by rw [he]; exact hrow
 have h2 := hb.size;rw [hg.block b (by simp; omega) (fun e => hn e.symm), Below.heap_alloc w9 o b (by omega), hb.block b h1, he]
theorem Jms {wr W9 w9 : World} {o : Obj} {b : Nat} (hrow : b < wr.heap.size) (hb : Below W9.heap.size W9 w9) (he : W9.heap = wr.heap) : (w9.alloc o).heap[b]? = wr.heap[b]? := by
 have h1 : b < W9.heap.size := by rw [he]; exact hrow
 have h2 := hb.size;rw [Below.heap_alloc w9 o b (by omega), hb.block b h1, he]
theorem JiJ {n base hi : Nat} {w wF : World} {l : List TreeD} {v : Value} {S : Nat -> Prop} (h : GrowK n base hi w l v) (hF : ∀ q, base <= q -> q < hi -> wF.heap[q]? = w.heap[q]?) (hS : ∀ b, base <= b -> b < hi -> S b) :
  OwnT (n + 1) S wF (JY l) [.int .i64 5, .bool false, .int .i64 0, .string ⟨#[]⟩, .slice none 0 0, v] :=
 OwnT.into ⟨_, _, fun _ => False, fun b => base <= b /\ b < hi, rfl, (show QA 5 from by unfold QA; decide), (show QA 0 from by unfold QA; decide), (show ByteArray.size ⟨#[]⟩ <= 9223372036854775807 from by decide), fun _ h => h.elim, fun b hb => hS b hb.1 hb.2,
  ⟨none, 0, rfl, Nat.le_refl _, by decide, fun h => by simp [JY] at h⟩, h.own.keep (fun b hb => hF b hb.1 hb.2) (fun _ h => h)⟩
theorem Yh {P : Program} (w : World) (dT sT ty elem : TypeId) (k b o dLen dCap : Nat) (a : Addr) (sLen sCap : Nat) (cs : List Value)
  (hu : P.underlying dT = some (.slice elem)) (hs : (P.info? elem).map (·.size) = some k) (hn : cs.length = Nat.min sLen dLen * k)
  (hsrc : ∀ j v, cs[j]? = some v -> w.cell? (a.add j) = some v) (hc : ∀ j, j < cs.length -> (w.cell? ⟨b, o + j, none⟩).isSome = true) (hf : ∀ j, j < cs.length -> w.frozen? ⟨b, o + j, none⟩ = false) (h1 : ∀ v ∈ cs, v.oneCell' = true) :
  (Builtin.copy_ #[dT, sT] ty #[.slice (some ⟨b, o, none⟩) dLen dCap, .slice (some a) sLen sCap]).run P w = .ok (goInt (Nat.min sLen dLen)) (w.setCells b o cs) := by
 have hl := run_loadCells_list (P := P) w a cs hsrc;have hst := run_storeCells_cells (P := P) b o cs 0 w (by simpa using hc) (by simpa using hf) h1;cases hq : P.info? elem with
 | none => simp [hq] at hs
 | some i =>
  have hi : i.size = k := by simpa [hq] using hs
  rw [hn] at hl;simp [Builtin.copy_, run_underlying hu, Builtin.lenOf, Builtin.firstCells, sizeOf, typeInfo, hq, hi, hl, hst]
theorem Yw {P : Program} {w : World} {ops : Array Oper} {rest : List Oper} {o : Oper} {a : Act} {Q : Exit -> Act -> World -> Prop} (hgd : o.guard = none) (d s : Operand) (t t' : TypeId)
  (ho : o.op = .call { callee := .builtin .copy, args := #[d, s], argTypes := #[t, t'] }) (v u : Value) (hd : a.eval d = v) (hs : a.eval s = u) {v' : Value} {w' : World}
  (hr : (Builtin.copy_ #[t, t'] o.type #[v, u]).run P w = .ok v' w') (h : wpList P ops Q rest (a.put o.dst v') w') : wpList P ops Q (o :: rest) a w :=
 wpList_plain hgd fun _ hK => by
  unfold Oper.wp execOp;simp only [ho, resolve, invoke, builtin, Sem.run_bind, Sem.run_pure, Result.andThen_ok, List.map_toArray, List.map_cons, List.map_nil, hd, hs, hr];exact hK _ _ h
theorem WA {P : Program} {w : World} {ops : Array Oper} {o : Oper} {a : Act} {K : Act -> World -> Prop} {Q : Exit -> Act -> World -> Prop} {E : Prop} (hg : o.guard = none) (d x : Operand) (dT sT : TypeId)
  (hop : o.op = Op.call { callee := Callee.builtin Builtin.copy, args := #[d, x], argTypes := #[dT, sT] })
  (v u : Value) (hd : a.eval d = v) (hx : a.eval x = u) {v' : Value} {w' : World} (hr : (Builtin.copy_ #[dT, sT] o.type #[v, u]).run P w = .ok v' w') (hK : K (a.put o.dst v') w') :
  if Region.wanted o (yielded ops a.tmps) = true then Oper.wp P o a w K Q else E := by
 have hw : Region.wanted o (yielded ops a.tmps) = true := by simp [Region.wanted, hg]
 rw [if_pos hw];unfold Oper.wp;simp [execOp, hop, resolve, invoke, builtin, hd, hx, hr, Result.andThen];exact hK
theorem Jax (b : Nat) (vs : List Value) (o : Nat) (w : World) (h : ∀ j, j < vs.length -> (w.cell? ⟨b, o + j, none⟩).isSome = true) (k : Nat) (hk : (w.cell? ⟨b, k, none⟩).isSome = true) : ((w.setCells b o vs).cell? ⟨b, k, none⟩).isSome = true := by
 by_cases hin : o <= k /\ k < o + vs.length
 ·have := World.cell?_setCells_in b vs o w h (k - o) (by omega)
  rw [show o + (k - o) = k by omega] at this;rw [this]; rfl
 rw [World.cell?_setCells_out b vs o w ⟨b, k, none⟩ (fun _ _ => by show k < o ∨ o + vs.length <= k; omega)];exact hk
def JfJ (cur : Array Value) : Nat -> List Value -> Array Value
 | _, [] => cur
 | o, v :: r => JfJ (cur.setIfInBounds o v) (o + 1) r
theorem YR (vs : List Value) : ∀ (cur : Array Value) (o : Nat), (JfJ cur o vs).size = cur.size := by
 induction vs with
 | nil => intro cur o; rfl
 | cons v r ih => intro cur o; rw [JfJ, ih]; simp
theorem Yd {b : Nat} {t : TypeId} (vs : List Value) : ∀ (w : World) (o : Nat) (cur : Array Value), w.heap[b]? = some (.cells cur t (0, 0)) -> (w.setCells b o vs).heap[b]? = some (.cells (JfJ cur o vs) t (0, 0)) := by
 induction vs with
 | nil => intro w o cur h; exact h
 | cons v r ih => intro w o cur h; rw [World.setCells, JfJ]; exact ih _ _ _ (heap_setCell_same w b o cur t v h)
theorem Wg (vs : List Value) : ∀ (cur : Array Value) (o : Nat), o + vs.length <= cur.size -> (JfJ cur o vs).toList = cur.toList.take o ++ vs ++ cur.toList.drop (o + vs.length) := by
 induction vs with
 | nil => intro cur o h; simp [JfJ]
 | cons v r ih =>
  intro cur o h;simp only [List.length_cons] at h;rw [JfJ, ih _ _ (by simp; omega)];simp only [Array.toList_setIfInBounds, List.length_cons];rw [List.take_add_one, List.getElem?_set_self (by simp; omega), List.take_set_of_le (Nat.le_refl o), List.drop_set_of_lt (by omega)];simp only [Option.toList_some, List.append_assoc, List.cons_append, List.nil_append];rw [show o + 1 + r.length = o + (r.length + 1) by omega]
theorem Z7 {S : Nat -> Prop} {b : Nat} (hb : S b) (vs : List Value) : ∀ (a w : World) (o : Nat), Aside S a w -> Aside S a (w.setCells b o vs) := by
 induction vs with
 | nil => intro a w o h; exact h
 | cons v r ih => intro a w o h; rw [World.setCells]; exact ih _ _ _ (Jk (p := ⟨b, o, none⟩) hb h)
theorem Jb6 {w : World} {b o : Nat} {cur : Array Value} {t : TypeId} (h : w.heap[b]? = some (.cells cur t (0, 0))) (ho : o < cur.size) : (w.cell? ⟨b, o, none⟩).isSome = true := by
 rw [cell_of_row _ _ _ _ _ _ h, Array.getElem?_eq_getElem ho];rfl
theorem Wc {w : World} {b : Nat} {cur : Array Value} {t : TypeId} (h : w.heap[b]? = some (.cells cur t (0, 0))) : w.shape? b = some (t, cur.size) := by
 simp [World.shape?, h]
end Go.Proofs.YtohcpifekcehjaaGreatDoor
