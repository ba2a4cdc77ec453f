/- Steps to FnCrossed. No conditions. -/
import Derived.Test.YtohcpifekcehjaaGreatDoorKfcr1
import Derived.Test.YtohcpifekcehjaaGreatDoorKfcr6
import Derived.Lib.SpaceUEq
import Derived.SizedLaws
import Derived.Shelf.Vars
import Derived.Test.YtohcpifekcehjaaGreatDoorKfcr4
import Derived.Test.YtohcpifekcehjaaGreatDoorKfcr3
import Derived.Test.YtohcpifekcehjaaGreatDoorKfcr5
import Derived.Test.YtohcpifekcehjaaGreatDoorKfcr2
import Derived.Shelf.Lays2
import Derived.Shelf.Spec.SearchS
import Derived.Shelf.Spec.SlicesInsert
import Derived.Shelf.Spec.SlicesInsertGrow
set_option maxHeartbeats 16000000
set_option maxRecDepth 20000
namespace Go.Proofs.YtohcpifekcehjaaGreatDoor
open Go.RowKit Go.Lib
def MaxL (w : World) : Prop := ∃ m, w.cell? ⟨laysSplit_ren.g 1, 0, none⟩ = some (.int .i64 m)
theorem MaxL.below {w w' : World} (h : MaxL w) (hb : Below w.heap.size w w') : MaxL w' := by
 obtain ⟨m, h1⟩ := h;exact ⟨m, (hb.cell (p := ⟨laysSplit_ren.g 1, 0, none⟩) (Lib.lt_of_cell h1)).trans h1⟩
theorem c_Split (s : ByteArray) (w : World) (hs : s.size <= 1048576) (hM : MaxL w) :
  Calls Tryz.prog 92 #[.string s, .string ⟨#[10]⟩] w fun e w' => ∃ P : List ByteArray, e = .returned (.slice (some ⟨w.heap.size, 0, none⟩) P.length P.length) /\ P.map (fun x => x.data.toList) = cutA [] s.data.toList /\ P.length <= s.size + 1 /\ w' = w.alloc (.cells (P.map Value.string).toArray 9) := by
 obtain ⟨m, hm⟩ := hM;have h := Any.strings_Split laysSplit (by kernel_rfl) s ⟨#[10]⟩ m w (by omega) hm (by decide);change Calls Tryz.prog 92 _ _ _ at h
 have hlen := Lib.splitB_all ⟨#[10]⟩ (by decide) 0 _ s rfl;have hle := Lib.countB_le ⟨#[10]⟩ (by decide) s.size s (Nat.le_refl _);refine h.mono ?_;rintro e w' ⟨rfl, rfl⟩;refine ⟨splitB ⟨#[10]⟩ 0 (countB s ⟨#[10]⟩) s, by rw [hlen], split_cut s, by rw [hlen]; have e1 : (⟨#[10]⟩ : ByteArray).size = 1 := rfl; (try rw [e1] at hle); omega, rfl⟩
theorem decode_low (s : ByteArray) (pos : Nat) : ((Utf8.decode s pos).1 < 32 ↔ byteI s pos < 32) /\ ∀ j, pos < j -> j < pos + (Utf8.decode s pos).2 -> 32 <= byteI s j := by
 have hd := decode_at s pos;have hc := decodeN_conts (s.size - pos) (s.get! pos).toNat (s.get! (pos + 1)).toNat (s.get! (pos + 2)).toNat (s.get! (pos + 3)).toNat
 have hl : (decodeN (s.size - pos) (s.get! pos).toNat (s.get! (pos + 1)).toNat (s.get! (pos + 2)).toNat (s.get! (pos + 3)).toNat).1 < 32 ↔ (s.get! pos).toNat < 32 := by
  unfold decodeN;repeat' split
  all_goals first | omega | (simp only; done) | (simp only; omega)
 rw [<- hd] at hc hl;obtain ⟨c1, c2, c3, c4⟩ := hc;refine ⟨by unfold byteI; omega, fun j h1 h2 => ?_⟩;unfold byteI;have : j = pos + 1 ∨ j = pos + 2 ∨ j = pos + 3 := by omega
 rcases this with rfl | rfl | rfl
 ·have := (c1 (by omega)).1; omega
 ·have := (c2 (by omega)).1; omega
 ·have := (c3 (by omega)).1; omega
def lowR (r : Nat) : Bool := decide (r < 32)
theorem idx_low (s : ByteArray) : ∀ (f pos : Nat), s.size <= pos + f -> ((∀ j, pos <= j -> j < s.size -> 32 <= byteI s j) -> idxFuncFrom lowR true s f pos = -1) /\ (∀ j, pos <= j -> j < s.size -> byteI s j < 32 -> 0 <= idxFuncFrom lowR true s f pos)
 | 0, pos, h => ⟨fun _ => rfl, fun j h1 h2 _ => by omega⟩
 | f + 1, pos, h => by
  unfold idxFuncFrom;by_cases hp : pos < s.size
  ·rw [if_pos hp]
   obtain ⟨h1, h2⟩ := decode_low s pos;have hw := Lib.width_pos s pos;by_cases hr : (Utf8.decode s pos).1 < 32
   ·rw [if_pos (show lowR _ = true from decide_eq_true hr)]
    refine ⟨fun g => ?_, fun _ _ _ _ => by omega⟩;have := g pos (Nat.le_refl _) hp;have := h1.1 hr;omega
   ·rw [if_neg (show ¬ lowR _ = true by unfold lowR; rw [decide_eq_false hr]; decide)]
    obtain ⟨g1, g2⟩ := idx_low s f (pos + (Utf8.decode s pos).2) (by omega);refine ⟨fun g => g1 (fun j hj => g j (by omega)), fun j hj hj2 hj3 => ?_⟩;rcases Nat.lt_or_ge j (pos + (Utf8.decode s pos).2) with hlt | hge
    ·rcases Nat.lt_or_ge pos j with h3 | h3
     ·have := h2 j h3 hlt; omega
     ·have e : j = pos := by omega
      subst e;exact absurd (h1.2 hj3) hr
    ·exact g2 j hge hj2 hj3
  ·rw [if_neg hp]
   exact ⟨fun _ => rfl, fun j h1 h2 _ => by omega⟩
theorem idxFunc_low (x : ByteArray) : decide (0 <= idxFunc lowR true x) = lowB x.data.toList := by
 obtain ⟨h1, h2⟩ := idx_low x x.size 0 (by omega);unfold idxFunc;rcases hl : lowB x.data.toList with _ | _
 ·refine decide_eq_false ?_
  rw [h1 (fun j _ hj => ?_)]
  ·decide
  ·rcases Int.lt_or_le (byteI x j) 32 with g | g
   ·rw [low_yes hj g] at hl; cases hl
   ·exact g
 ·refine decide_eq_true ?_
  unfold lowB at hl;obtain ⟨c, hc, hc2⟩ := List.any_eq_true.1 hl;obtain ⟨t, ht⟩ := List.getElem?_of_mem hc;have hlt : t < x.size := by rw [<- list_size]; exact (List.getElem?_eq_some_iff.1 ht).1
  rw [byte_list hlt] at ht;cases ht
  exact h2 t (Nat.zero_le _) hlt (by unfold byteI; have := of_decide_eq_true hc2; omega)
theorem c_IndexLow (x : ByteArray) (w : World) :
  Calls Tryz.prog 93 #[.string x, .func (.func 94) #[] #[]] w fun e w' => ∃ z : Int, e = .returned (.int .i64 z) /\ decide (0 <= z) = lowB x.data.toList /\ Below w.heap.size w w' := by
 have h := Any.strings_IndexFunc laysIdxF 94 #[] (enters_of Tryz.func94 (by kernel_rfl) rfl) lowR x w (fun W r _ => by
  unfold FnGives;by_cases hr : (r : Int) < 32
  ·have hd : lowR r = true := decide_eq_true (by omega)
   have hd2 : decide ((r : Int) < 32) = true := decide_eq_true hr;rw [hd];go_enter Tryz.func94, Tryz.ntmps94
   go_wp2
   go_ret
   exact ⟨rfl, 0, rfl⟩
  ·have hd : lowR r = false := decide_eq_false (by omega)
   have hd2 : decide ((r : Int) < 32) = false := decide_eq_false hr;rw [hd];go_enter Tryz.func94, Tryz.ntmps94
   go_wp2
   go_ret
   exact ⟨rfl, 0, rfl⟩)
 change Calls Tryz.prog 93 _ _ _ at h
 exact h.mono (fun e w' h => ⟨_, h.1, idxFunc_low x, h.2⟩)
open Go.ChangeShapes Go.WideShapes Go.ChangeAt Go.RowKit
variable {H : Type} {enc : TypeId × Value -> H}
theorem handed_shaped {C : Checked} {os : Os} {f : FuncId} {fn : Func} {s : ChangeSpec} {X : World -> Array Value -> Prop} {fresh : Bool}
  (hX : ∀ (w w' : World) (args : Array Value), w.heap = w'.heap -> X w args -> X w' args)
  (own : ownKnob C.prog.godebug = none) (started : os.Started) (noInit : C.prog.inits.idxOf? f = none) (hfn : C.prog.funcs[f]? = some fn)
  (witness : ∃ (w : World) (tape : Tape) (i : Input), w.os = os /\ (w.forCall tape i).Shaped C.prog /\ i.vars = [] /\ Input.okWide C.prog (w.forCall tape i) .any w.heap.size f i /\
   ((s.pre enc C.prog fn [] false (w.forCall tape i).memory i.args /\ X (w.forCall tape i).memory i.args) /\ sizedMet enc C.prog fn (OpenSpec.ofChange s) false (w.forCall tape i).memory i.args) /\ Assume.holds {} C.prog (lone (Frame.enter C.prog f i.args .normal) [] (w.forCall tape i)))
  (contract : ∀ (W : World) (base : Nat) (args : Array Value) (ds gs : List (DataW H)) (before : List MemPlace),
   (∀ (j : Nat) t v, fn.params[j]? = some t -> args[j]? = some v -> Value.okWide C.prog W .any base t v) ->
   DataW.Whole enc C.prog fn.params.toList s.vars false W args.toList ds gs before -> X W args -> W.ShapedOpen C.prog ->
   Calls C.prog f args W fun e W' => ∃ v, e = .returned v /\ s.post enc C.prog fn false fresh false false W args v W') :
  ReturnsInHanded {} C os f .any (fun w args => (s.pre enc C.prog fn [] false w args /\ X w args) /\ sizedMet enc C.prog fn (OpenSpec.ofChange s) false w args) (s.post enc C.prog fn false fresh false false) := by
 refine returnsInHanded_of_calls own started noInit witness ?_;intro w tape i _ hsh _ hok hpre _;obtain ⟨_, _, _, fn', hfn', _, _, _, _, hval⟩ := hok;obtain rfl : fn' = fn := Option.some.inj (hfn'.symm.trans hfn);obtain ⟨⟨⟨ds, gs, before, hw, -⟩, hx⟩, -⟩ := hpre;have hw' := DataW.Whole.of_heap (w' := w.forCall tape i) (by rfl) hw;have hx' := hX _ (w.forCall tape i) _ (by rfl) hx
 exact (contract (w.forCall tape i) w.heap.size i.args ds gs before hval hw' hx' hsh).mono fun e W' ⟨v, he, hp⟩ => by
  subst he;exact ChangeSpec.post_blind hp
theorem max_of {W : World} (h : W.ShapedOpen Tryz.prog) : MaxL W :=
 cell_of_shapedOpen_int (g := laysSplit_ren.g 1) (t := 3) (zero := #[.int .i64 0]) (k := .i64) h (of_decide_eq_true (by kernel_rfl)) (by kernel_rfl) rfl (by kernel_rfl) (by kernel_rfl) (by kernel_rfl)
def Rd (s : ByteArray) (j : Nat) (l : List UInt8) : Prop := s.data.toList.drop j = l
theorem Rd.byte {s : ByteArray} {j : Nat} {l : List UInt8} (h : Rd s j l) (k : Nat) {c : UInt8} (hk : l[k]? = some c) : j + k < s.size /\ byteI s (j + k) = (c.toNat : Int) := by
 have h1 : s.data.toList[j + k]? = some c := by rw [<- List.getElem?_drop, show s.data.toList.drop j = l from h, hk]
 obtain ⟨h2, h3⟩ := List.getElem?_eq_some_iff.1 h1;have h4 : j + k < s.size := by rw [Array.length_toList] at h2; exact h2
 refine ⟨h4, ?_⟩;rw [Array.getElem_toList] at h3;unfold byteI ByteArray.get!;show (((s.data[j + k]!).toNat : Nat) : Int) = _
 rw [getElem!_pos s.data (j + k) h4, h3]
theorem Rd.byte0 {s : ByteArray} {j : Nat} {c : UInt8} {l : List UInt8} (h : Rd s j (c :: l)) : j < s.size /\ byteI s j = (c.toNat : Int) := h.byte 0 rfl
theorem Rd.drop {s : ByteArray} {j : Nat} {a b : List UInt8} (h : Rd s j (a ++ b)) : Rd s (j + a.length) b := by
 unfold Rd at h ⊢;rw [<- List.drop_drop, h, List.drop_left]
theorem Rd.len {s : ByteArray} {j : Nat} {l : List UInt8} (h : Rd s j l) (hj : j <= s.size) : j + l.length = s.size := by
 have h1 := congrArg List.length (show s.data.toList.drop j = l from h);rw [List.length_drop, Array.length_toList] at h1;have h2 : s.data.size = s.size := rfl;omega
theorem getD_take {l l' : List UInt8} {k i : Nat} (h : l'.take k = l.take k) (hi : i < k) : l'.getD i 0 = l.getD i 0 := by
 have h1 := congrArg (fun z : List UInt8 => z[i]?) h;simp only [List.getElem?_take, if_pos hi] at h1;rw [List.getD_eq_getElem?_getD, List.getD_eq_getElem?_getD, h1]
theorem decode_local {l l' : List UInt8} (hv : decodeL l ≠ (65533, 1)) (hl : l'.take (decodeL l).2 = l.take (decodeL l).2) (hn : (decodeL l).2 <= l'.length) : decodeL l' = decodeL l := by
 rw [decodeL_N] at hv hl hn ⊢;rw [decodeL_N];have k0 := (l.getD 0 0).toNat_lt;have k1 := (l.getD 1 0).toNat_lt;have k2 := (l.getD 2 0).toNat_lt;have k3 := (l.getD 3 0).toNat_lt;have k1' := (l'.getD 1 0).toNat_lt;have k2' := (l'.getD 2 0).toNat_lt;have k3' := (l'.getD 3 0).toNat_lt;rcases Nat.lt_or_ge (l.getD 0 0).toNat 192 with c | c
 ·have w := rune_way1 l.length (l.getD 0 0).toNat (l.getD 1 0).toNat (l.getD 2 0).toNat (l.getD 3 0).toNat c
  have w' := rune_way1 l'.length (l.getD 0 0).toNat (l'.getD 1 0).toNat (l'.getD 2 0).toNat (l'.getD 3 0).toNat c;have he := w.1.2 hv;rw [w.2 he] at hl hn;rw [getD_take hl (by omega), w.2 he, w'.2 he]
 rcases Nat.lt_or_ge (l.getD 0 0).toNat 224 with c2 | c2
 ·have w := rune_way2 l.length (l.getD 0 0).toNat (l.getD 1 0).toNat (l.getD 2 0).toNat (l.getD 3 0).toNat c c2 k1
  have he := w.2 hv;have hp := w.1.2 hv;rw [he] at hl hn;have e1 := getD_take (i := 1) hl (by omega);have w' := rune_way2 l'.length (l.getD 0 0).toNat (l'.getD 1 0).toNat (l'.getD 2 0).toNat (l'.getD 3 0).toNat c c2 k1';rw [getD_take hl (by omega), he];rw [e1] at w' ⊢;exact w'.2 (w'.1.1 ⟨hn, hp.2.1, hp.2.2⟩)
 rcases Nat.lt_or_ge (l.getD 0 0).toNat 240 with c3 | c3
 ·have w := rune_way3 l.length (l.getD 0 0).toNat (l.getD 1 0).toNat (l.getD 2 0).toNat (l.getD 3 0).toNat c2 c3 k1 k2
  have he := w.2 hv;have hp := w.1.2 hv;rw [he] at hl hn;have e1 := getD_take (i := 1) hl (by omega);have e2 := getD_take (i := 2) hl (by omega);have w' := rune_way3 l'.length (l.getD 0 0).toNat (l'.getD 1 0).toNat (l'.getD 2 0).toNat (l'.getD 3 0).toNat c2 c3 k1' k2';rw [getD_take hl (by omega), he];rw [e1, e2] at w' ⊢;exact w'.2 (w'.1.1 ⟨hn, hp.2.1, hp.2.2.1, hp.2.2.2⟩)
 ·have w := rune_way4 l.length (l.getD 0 0).toNat (l.getD 1 0).toNat (l.getD 2 0).toNat (l.getD 3 0).toNat c3 k0 k1 k2 k3
  have he := w.2 hv;have hp := w.1.2 hv;rw [he] at hl hn;have e1 := getD_take (i := 1) hl (by omega);have e2 := getD_take (i := 2) hl (by omega);have e3 := getD_take (i := 3) hl (by omega);have w' := rune_way4 l'.length (l.getD 0 0).toNat (l'.getD 1 0).toNat (l'.getD 2 0).toNat (l'.getD 3 0).toNat c3 k0 k1' k2' k3';rw [getD_take hl (by omega), he];rw [e1, e2, e3] at w' ⊢;exact w'.2 (w'.1.1 ⟨hn, hp.2.1, hp.2.2.1, hp.2.2.2.1, hp.2.2.2.2⟩)
theorem decode_one {l : List UInt8} (h : (l.getD 0 0).toNat < 128) : decodeL l = ((l.getD 0 0).toNat, 1) := by
 rw [decodeL_N];exact (rune_way1 _ _ _ _ _ (by omega)).2 (by unfold encN4; rw [if_neg (by omega), if_pos h])
theorem rune_one {s : ByteArray} {j : Nat} {c : UInt8} {l : List UInt8} (h : Rd s j (c :: l)) (hc : c.toNat < 128) : runeB s j = ((c.toNat : Int), ((j + 1 : Nat) : Int)) := by
 have h0 := h.byte0.1;have h1 := decodeL_drop s j h0;rw [show s.data.toList.drop j = c :: l from h, decode_one (by simpa using hc)] at h1;unfold runeB;rw [if_pos h0, <- h1];rw [if_neg (by intro e; have := congrArg Prod.fst e; simp at this; omega)];simp
theorem text_one {c : UInt8} (hc : c.toNat < 128) : (textB (c.toNat : Nat)).data.toList = [c] := by
 refine text_eq ?_;unfold encN4;rw [if_neg (by omega), if_pos hc];rfl
theorem lowV_fig {x : Nat} (hx : x < 16) : hexV ((figU x).toNat : Int) = x := by
 have : ∀ y : Fin 16, hexV ((figU y.val).toNat : Int) = y.val := by decide
 exact this ⟨x, hx⟩
theorem quot_low {s : ByteArray} {j : Nat} {c : UInt8} {l : List UInt8} (h : Rd s j (qB c ++ l)) (hc : c.toNat < 128) : byteI s j ≠ 34 /\ quotN s j = ((c.toNat : Int), ((j + (qB c).length : Nat) : Int)) := by
 have esc : ∀ (x : UInt8) (r : List UInt8) (v : Int), Rd s j (92 :: x :: r) -> escB s (j + 1) = (v, ((j + 2 : Nat) : Int)) -> byteI s j ≠ 34 /\ quotN s j = (v, ((j + 2 : Nat) : Int)) := by
  intro x r v hr he;have b0 := hr.byte0.2;have e92 : byteI s j = 92 := b0;refine ⟨by rw [e92]; decide, ?_⟩;unfold quotN;rw [if_pos e92, he]
 have one : ∀ (x : UInt8) (r : List UInt8) (v : Int), Rd s j (92 :: x :: r) -> (byteI s (j + 1) = x.toNat -> escB s (j + 1) = (v, ((j + 1 : Nat) : Int) + 1)) -> byteI s j ≠ 34 /\ quotN s j = (v, ((j + 2 : Nat) : Int)) := by
  intro x r v hr he;have b1 := hr.byte 1 rfl;refine esc x r v hr ?_;rw [he b1.2];congr 1
 unfold qB qN at h ⊢;by_cases c1 : c.toNat = 34 ∨ c.toNat = 92
 ·rw [if_pos c1] at h ⊢
  refine one (UInt8.ofNat c.toNat) l _ h (fun hb => ?_);have hi := (h.byte 1 rfl).1;have hb2 : byteI s (j + 1) = (c.toNat : Int) := by rw [hb]; simp
  unfold escB;rw [if_pos hi, if_pos (by rw [hb2]; omega), hb2]
 rw [if_neg c1] at h ⊢;by_cases c2 : c.toNat = 8
 ·rw [if_pos c2] at h ⊢
  refine one 98 l _ h (fun hb => ?_);have hi := (h.byte 1 rfl).1;have hb2 : byteI s (j + 1) = 98 := hb;unfold escB;rw [if_pos hi, if_neg (by omega), if_pos (by omega), c2];rfl
 rw [if_neg c2] at h ⊢;by_cases c3 : c.toNat = 12
 ·rw [if_pos c3] at h ⊢
  refine one 102 l _ h (fun hb => ?_);have hi := (h.byte 1 rfl).1;have hb2 : byteI s (j + 1) = 102 := hb;unfold escB;rw [if_pos hi, if_neg (by omega), if_neg (by omega), if_pos (by omega), c3];rfl
 rw [if_neg c3] at h ⊢;by_cases c4 : c.toNat = 10
 ·rw [if_pos c4] at h ⊢
  refine one 110 l _ h (fun hb => ?_);have hi := (h.byte 1 rfl).1;have hb2 : byteI s (j + 1) = 110 := hb;unfold escB;rw [if_pos hi, if_neg (by omega), if_neg (by omega), if_neg (by omega), if_pos (by omega), c4];rfl
 rw [if_neg c4] at h ⊢;by_cases c5 : c.toNat = 13
 ·rw [if_pos c5] at h ⊢
  refine one 114 l _ h (fun hb => ?_);have hi := (h.byte 1 rfl).1;have hb2 : byteI s (j + 1) = 114 := hb;unfold escB;rw [if_pos hi, if_neg (by omega), if_neg (by omega), if_neg (by omega), if_neg (by omega), if_pos (by omega), c5];rfl
 rw [if_neg c5] at h ⊢;by_cases c6 : c.toNat = 9
 ·rw [if_pos c6] at h ⊢
  refine one 116 l _ h (fun hb => ?_);have hi := (h.byte 1 rfl).1;have hb2 : byteI s (j + 1) = 116 := hb;unfold escB;rw [if_pos hi, if_neg (by omega), if_neg (by omega), if_neg (by omega), if_neg (by omega), if_neg (by omega), if_pos (by omega), c6];rfl
 rw [if_neg c6] at h ⊢;by_cases c7 : c.toNat < 32
 ·rw [if_pos c7] at h ⊢
  have b0 : byteI s j = 92 := h.byte0.2;have b1 : byteI s (j + 1) = 117 := (h.byte 1 rfl).2;have b2 : byteI s (j + 2) = 48 := (h.byte 2 rfl).2;have b3 : byteI s (j + 3) = 48 := (h.byte 3 rfl).2;have b4 : byteI s (j + 4) = ((figU (c.toNat / 16)).toNat : Int) := (h.byte 4 rfl).2;have b5 : byteI s (j + 5) = ((figU (c.toNat % 16)).toNat : Int) := (h.byte 5 rfl).2;have i1 := (h.byte 1 rfl).1;have i5 := (h.byte 5 rfl).1
  have hf : fourB s (j + 2) = (c.toNat : Int) := by
   have v0 : hexV 48 = 0 := by decide
   have v4 := lowV_fig (x := c.toNat / 16) (by omega);have v5 := lowV_fig (x := c.toNat % 16) (by omega);unfold fourB;rw [if_pos (by omega)];simp only [fourR];rw [b2, b3, b4, b5, v0, v4, v5];rw [if_neg (by omega), if_neg (by omega), if_neg (by omega), if_neg (by omega)];omega
  refine ⟨by rw [b0]; decide, ?_⟩;unfold quotN;rw [if_pos b0];unfold escB;rw [if_pos i1, if_neg (by omega), if_neg (by omega), if_neg (by omega), if_neg (by omega), if_neg (by omega), if_neg (by omega), if_pos (by omega), hf, if_neg (by unfold inB; simp; omega), if_pos (by unfold inB; simp; omega)];simp only [List.length_cons, List.length_nil, Prod.mk.injEq, true_and];omega
 rw [if_neg c7] at h ⊢;have hcc : UInt8.ofNat c.toNat = c := by simp
 rw [hcc] at h;have h' : Rd s j (c :: l) := h;have b0 := h'.byte0;have hr := rune_one h' hc;refine ⟨by rw [b0.2]; omega, ?_⟩;unfold quotN;rw [if_neg (by rw [b0.2]; omega), hr, if_neg (by simp only; omega)];rfl
theorem quot_back (x s : ByteArray) (rest : List UInt8) : ∀ (f i : Nat) (rs : List Nat), x.size - i <= f -> runesAt x i = some rs -> ∀ (j : Nat) (acc : List UInt8), Rd s j ((x.data.toList.drop i).flatMap qB ++ 34 :: rest) ->
  quotG s j acc = (⟨(acc ++ x.data.toList.drop i).toArray⟩, ((j + ((x.data.toList.drop i).flatMap qB).length + 1 : Nat) : Int)) := by
 intro f;induction f with
 | zero =>
  intro i rs hf h j acc hr;have hi : ¬ i < x.size := by omega
  have he : x.data.toList.drop i = [] := List.drop_of_length_le (by rw [Array.length_toList]; exact Nat.le_of_not_lt hi);rw [he] at hr ⊢;have b0 := Rd.byte0 (c := 34) (l := rest) hr;rw [quotG_at b0.1, if_pos (show byteI s j = 34 from b0.2), List.append_nil];rfl
 | succ f ih =>
  intro i rs hf h j acc hr;by_cases hi : i < x.size
  ·by_cases hd : Utf8.decode x i = (65533, 1)
   ·rw [runesAt_bad hi hd] at h; cases h
   ·rw [runesAt_step hi hd] at h
    have hdl := decodeL_drop x i hi;have hl : x.data.toList.length = x.size := Array.length_toList
    have hne : x.data.toList.drop i ≠ [] := fun e => by
     have := congrArg List.length e;rw [List.length_drop, hl] at this;simp at this;omega
    have hfit := decode_fits x i hi;rcases hr2 : runesAt x (i + (Utf8.decode x i).2) with _ | rs'
    ·rw [hr2] at h; cases h
    ·have hs : x.data.toList.drop i = (x.data.toList.drop i).take (Utf8.decode x i).2 ++ x.data.toList.drop (i + (Utf8.decode x i).2) := by
      rw [<- List.drop_drop, List.take_append_drop]
     have hdv : decodeL (x.data.toList.drop i) ≠ (65533, 1) := by rw [hdl]; exact hd
     have ih' := ih (i + (Utf8.decode x i).2) rs' (by omega) hr2;have hloc := fun (l' : List UInt8) => decode_local (l := x.data.toList.drop i) (l' := l') hdv
     have hway := decode_way _ hne hdv;rw [hdl] at hloc hway;obtain ⟨a, ha⟩ : ∃ a, a = (x.data.toList.drop i).take (Utf8.decode x i).2 := ⟨_, rfl⟩
     obtain ⟨b, hb⟩ : ∃ b, b = x.data.toList.drop (i + (Utf8.decode x i).2) := ⟨_, rfl⟩
     rw [<- ha] at hway hloc;rw [<- ha, <- hb] at hs;rw [<- hb] at ih';have hal : a.length = (Utf8.decode x i).2 := by rw [ha, List.length_take, List.length_drop, hl]; omega
     rw [hs] at hr ⊢;rw [List.flatMap_append, List.append_assoc] at hr;rw [List.flatMap_append]
     have hstep : ∀ (c : Nat) (m : Nat), m = (a.flatMap qB).length -> byteI s j ≠ 34 -> j < s.size -> quotN s j = ((c : Int), ((j + m : Nat) : Int)) -> (textB (c : Nat)).data.toList = a -> quotG s j acc = (⟨(acc ++ (a ++ b)).toArray⟩, ((j + (a.flatMap qB ++ b.flatMap qB).length + 1 : Nat) : Int)) := by
      intro c m hm h34 hj hq ht;rw [quotG_at hj, if_neg h34, hq];simp only;rw [if_neg (by omega), ht, Int.toNat_natCast, hm, ih' (j + (a.flatMap qB).length) (acc ++ a) hr.drop, List.append_assoc, List.length_append];congr 3
      omega
     rcases hway with ⟨y, h1, h2, h3⟩ | ⟨h1, h2, h3⟩
     ·rw [h3] at hr hstep ⊢
      have hq1 : [y].flatMap qB = qB y := by simp
      rw [hq1] at hr hstep ⊢;have hlow := quot_low (by exact hr) h2
      have hqn : 0 < (qB y).length := by
       unfold qB qN;repeat' split
       all_goals simp
      have hj : j < s.size := by
       rcases hqb : qB y with _ | ⟨z, zs⟩
       ·rw [hqb] at hqn; simp at hqn
       ·rw [hqb] at hr
        exact (Rd.byte0 (c := z) hr).1
      exact hstep y.toNat (qB y).length rfl hlow.1 hj hlow.2 (text_one h2)
     ·have hfh := flat_high h3
      rw [hfh] at hr hstep ⊢;have ha0 : 0 < a.length := by omega
      have hj : j < s.size /\ byteI s j ≠ 34 /\ byteI s j ≠ 92 := by
       rcases a with _ | ⟨z, zs⟩
       ·simp at ha0
       ·have hb0 := Rd.byte0 (c := z) hr
        have := h3 z (by simp);exact ⟨hb0.1, by rw [hb0.2]; omega, by rw [hb0.2]; omega⟩
      have hdj := decodeL_drop s j hj.1;have hrr : s.data.toList.drop j = a ++ (b.flatMap qB ++ 34 :: rest) := hr;have h9 := hloc (a ++ (b.flatMap qB ++ 34 :: rest)) (by rw [<- hal, List.take_left]) (by rw [List.length_append]; omega);rw [<- hrr, hdj] at h9
      have hrb : runeB s j = (((Utf8.decode x i).1 : Int), ((j + a.length : Nat) : Int)) := by
       unfold runeB;rw [if_pos hj.1, h9, if_neg hd, hal]
      refine hstep (Utf8.decode x i).1 a.length rfl hj.2.1 hj.1 ?_ h2;unfold quotN;rw [if_neg hj.2.2, hrb, if_neg (by simp only; omega)]
  ·have he : x.data.toList.drop i = [] := List.drop_of_length_le (by rw [Array.length_toList]; exact Nat.le_of_not_lt hi)
   rw [he] at hr ⊢;have b0 := Rd.byte0 (c := 34) (l := rest) hr;rw [quotG_at b0.1, if_pos (show byteI s j = 34 from b0.2), List.append_nil];rfl
theorem quotB_back {x s : ByteArray} {j : Nat} {rest : List UInt8} (hx : utf8B x = true) (h : Rd s j ((quoteB x).data.toList ++ rest)) : byteI s j = 34 /\ j < s.size /\ quotB s j = (x, ((j + (quoteB x).data.toList.length : Nat) : Int)) := by
 have hq : (quoteB x).data.toList = 34 :: (x.data.toList.flatMap qB ++ [34]) := by unfold quoteB; rw [if_pos hx]; rfl
 rw [hq] at h ⊢;have b0 := Rd.byte0 (c := 34) h;have e34 : byteI s j = 34 := b0.2;obtain ⟨rs, hrs⟩ := Option.isSome_iff_exists.1 (show (runesAt x 0).isSome = true from hx)
 have h2 : Rd s (j + 1) ((x.data.toList.drop 0).flatMap qB ++ 34 :: rest) := by
  have := Rd.drop (a := [34]) (b := x.data.toList.flatMap qB ++ 34 :: rest) (by rw [List.cons_append, List.append_assoc] at h; exact h);exact this
 have h3 := quot_back x s rest _ 0 rs (Nat.le_refl _) hrs (j + 1) [] h2;refine ⟨e34, b0.1, ?_⟩;unfold quotB;rw [if_pos b0.1, if_pos e34, h3];simp only [List.drop_zero, List.nil_append, List.length_cons, List.length_append, List.length_nil];congr 2
 omega
def okR (r : Nat) : Prop := r <= 1114111 /\ ¬ (55296 <= r /\ r <= 57343)
theorem dec_text {r : Nat} (h : okR r) (m : List UInt8) : decodeL ((textB r).data.toList ++ m) = (r, (textB r).data.toList.length) /\ decodeL ((textB r).data.toList ++ m) ≠ (65533, 1) /\ 1 <= (textB r).data.toList.length := by
 have hl := textB_list r;obtain ⟨l, hll⟩ : ∃ l, l = (textB r).data.toList := ⟨_, rfl⟩
 rw [<- hll] at hl ⊢;clear hll;unfold okR at h;rw [decodeL_N];unfold encN4 at hl;rw [if_neg (by omega)] at hl;by_cases c1 : r < 128
 ·rw [if_pos c1] at hl
  rcases l with _ | ⟨x, _ | ⟨y, l⟩⟩
  ·cases hl
  ·simp only [List.map_cons, List.map_nil, List.cons.injEq, and_true] at hl
   have w := (rune_way1 ([x] ++ m).length (([x] ++ m).getD 0 0).toNat (([x] ++ m).getD 1 0).toNat (([x] ++ m).getD 2 0).toNat (([x] ++ m).getD 3 0).toNat (by simp; omega))
   have he : encN4 (([x] ++ m).getD 0 0).toNat = [(([x] ++ m).getD 0 0).toNat] := by
    simp only [List.cons_append, List.nil_append, List.getD_cons_zero];unfold encN4;rw [if_neg (by omega), if_pos (by omega)]
   refine ⟨?_, w.1.1 he, by simp⟩;rw [w.2 he];simp only [List.cons_append, List.nil_append, List.getD_cons_zero, hl, List.length_cons, List.length_nil]
  ·simp at hl
 rw [if_neg c1] at hl;by_cases c2 : r < 2048
 ·rw [if_pos c2] at hl
  rcases l with _ | ⟨x, _ | ⟨y, _ | ⟨z, l⟩⟩⟩
  ·cases hl
  ·simp at hl
  ·simp only [List.map_cons, List.map_nil, List.cons.injEq, and_true] at hl
   obtain ⟨h1, h2⟩ := hl;simp only [List.cons_append, List.nil_append, List.getD_cons_zero, List.getD_cons_succ];have w := rune_way2 (x :: y :: m).length x.toNat y.toNat (m.getD 0 0).toNat (m.getD 1 0).toNat (by omega) (by omega) (by omega);have hp : partN x.toNat = x.toNat - 192 := by unfold partN; rw [if_neg (by omega), if_neg (by omega), if_pos (by omega)]
   have hg : gathN x.toNat y.toNat (m.getD 0 0).toNat (m.getD 1 0).toNat 2 = r := by show 64 * partN x.toNat + y.toNat - 128 = r; rw [hp]; omega
   have hv := w.1.1 ⟨by simp, by unfold contN; simp; omega, by
    rw [hg];unfold encN4
    rw [if_neg (by omega), if_neg (by omega), if_pos (by omega), h1, h2]⟩
   refine ⟨?_, hv, by simp⟩;rw [w.2 hv, hg];rfl
  ·simp at hl
 rw [if_neg c2] at hl;by_cases c3 : r < 65536
 ·rw [if_pos c3] at hl
  rcases l with _ | ⟨x, _ | ⟨y, _ | ⟨z, _ | ⟨u, l⟩⟩⟩⟩
  ·cases hl
  ·simp at hl
  ·simp at hl
  ·simp only [List.map_cons, List.map_nil, List.cons.injEq, and_true] at hl
   obtain ⟨h1, h2, h3⟩ := hl;simp only [List.cons_append, List.nil_append, List.getD_cons_zero, List.getD_cons_succ];have w := rune_way3 (x :: y :: z :: m).length x.toNat y.toNat z.toNat (m.getD 0 0).toNat (by omega) (by omega) (by omega) (by omega);have hp : partN x.toNat = x.toNat - 224 := by unfold partN; rw [if_neg (by omega), if_pos (by omega)]
   have hg : gathN x.toNat y.toNat z.toNat (m.getD 0 0).toNat 3 = r := by show 64 * (64 * partN x.toNat + y.toNat - 128) + z.toNat - 128 = r; rw [hp]; omega
   have hv := w.1.1 ⟨by simp, by unfold contN; simp; omega, by unfold contN; simp; omega, by
    rw [hg];unfold encN4
    rw [if_neg (by omega), if_neg (by omega), if_neg (by omega), if_pos (by omega), h1, h2, h3]⟩
   refine ⟨?_, hv, by simp⟩;rw [w.2 hv, hg];rfl
  ·simp at hl
 rw [if_neg c3] at hl;rcases l with _ | ⟨x, _ | ⟨y, _ | ⟨z, _ | ⟨u, _ | ⟨v, l⟩⟩⟩⟩⟩
 ·cases hl
 ·simp at hl
 ·simp at hl
 ·simp at hl
 ·simp only [List.map_cons, List.map_nil, List.cons.injEq, and_true] at hl
  obtain ⟨h1, h2, h3, h4⟩ := hl;simp only [List.cons_append, List.nil_append, List.getD_cons_zero, List.getD_cons_succ];have w := rune_way4 (x :: y :: z :: u :: m).length x.toNat y.toNat z.toNat u.toNat (by omega) (by omega) (by omega) (by omega) (by omega);have hp : partN x.toNat = x.toNat - 240 := by unfold partN; rw [if_pos (by omega)]
  have hg : gathN x.toNat y.toNat z.toNat u.toNat 4 = r := by show 64 * (64 * (64 * partN x.toNat + y.toNat - 128) + z.toNat - 128) + u.toNat - 128 = r; rw [hp]; omega
  have hv := w.1.1 ⟨by simp, by unfold contN; simp; omega, by unfold contN; simp; omega, by unfold contN; simp; omega, by
   rw [hg];unfold encN4
   rw [if_neg (by omega), if_neg (by omega), if_neg (by omega), if_neg (by omega), h1, h2, h3, h4]⟩
  refine ⟨?_, hv, by simp⟩;rw [w.2 hv, hg];rfl
 ·simp at hl
def textsB (rs : List Nat) : List UInt8 := rs.flatMap fun (r : Nat) => (textB r).data.toList
theorem runes_texts (x : ByteArray) : ∀ (rs : List Nat) (i : Nat), (∀ r ∈ rs, okR r) -> x.data.toList.drop i = textsB rs -> runesAt x i = some rs
 | [], i, _, h => by
  refine runesAt_end ?_;intro hi;have h1 := congrArg List.length h;rw [List.length_drop, Array.length_toList] at h1;have h2 : x.data.size = x.size := rfl;simp [textsB] at h1;omega
 | r :: rs, i, hok, h => by
  have h0 : textsB (r :: rs) = (textB r).data.toList ++ textsB rs := by unfold textsB; rw [List.flatMap_cons]
  rw [h0] at h;obtain ⟨d1, d2, d3⟩ := dec_text (hok r (by simp)) (textsB rs)
  have hi : i < x.size := by
   rcases Nat.lt_or_ge i x.size with hi | hi
   ·exact hi
   ·rw [List.drop_of_length_le (by rw [Array.length_toList]; exact hi)] at h
    have h1 := congrArg List.length h;rw [List.length_append, List.length_nil] at h1;omega
  have hd := decodeL_drop x i hi;rw [h] at hd;rw [runesAt_step hi (by rw [<- hd]; exact d2), <- hd, d1];rw [runes_texts x rs (i + (textB r).data.toList.length) (fun y hy => hok y (by simp [hy])) (by rw [<- List.drop_drop, h, List.drop_left])];rfl
theorem quotN_cost {s : ByteArray} {j : Nat} (hj : j < s.size) (h34 : byteI s j ≠ 34) (h : ¬ (quotN s j).2 < 0) : ∃ r : Nat, (quotN s j).1 = (r : Int) /\ okR r /\ ((j + (qR r).length : Nat) : Int) <= (quotN s j).2 := by
 have hq : ∀ r : Nat, r < 128 -> (qR r) = qN r := fun r hr => by unfold qR; rw [if_pos hr]
 unfold quotN at h ⊢;by_cases c0 : byteI s j = 92
 ·rw [if_pos c0] at h ⊢
  have hr1 := fourB_range s (j + 1 + 1);have hr7 := fourB_range s (j + 1 + 7);have b1 := byteI_range s (j + 1)
  have low : ∀ (r : Nat), okR r -> (qR r).length <= 2 -> ∀ y : Int × Int, y = ((r : Int), ((j + 1 : Nat) : Int) + 1) -> ∃ r : Nat, y.1 = (r : Int) /\ okR r /\ ((j + (qR r).length : Nat) : Int) <= y.2 := by
   intro r h1 h2 y hy;rw [hy];exact ⟨r, rfl, h1, by simp only; omega⟩
  unfold escB at h ⊢;by_cases e0 : j + 1 < s.size
  case neg => rw [if_neg e0] at h; exact absurd (show (-1 : Int) < 0 by decide) h
  rw [if_pos e0] at h ⊢;by_cases e1 : byteI s (j + 1) = 34 ∨ byteI s (j + 1) = 92 ∨ byteI s (j + 1) = 47
  ·rw [if_pos e1]
   rcases e1 with e1 | e1 | e1
   ·rw [e1]; exact low 34 (by unfold okR; omega) (by decide) _ rfl
   ·rw [e1]; exact low 92 (by unfold okR; omega) (by decide) _ rfl
   ·rw [e1]; exact low 47 (by unfold okR; omega) (by decide) _ rfl
  rw [if_neg e1] at h ⊢;by_cases e2 : byteI s (j + 1) = 98
  ·rw [if_pos e2]; exact low 8 (by unfold okR; omega) (by decide) _ rfl
  rw [if_neg e2] at h ⊢;by_cases e3 : byteI s (j + 1) = 102
  ·rw [if_pos e3]; exact low 12 (by unfold okR; omega) (by decide) _ rfl
  rw [if_neg e3] at h ⊢;by_cases e4 : byteI s (j + 1) = 110
  ·rw [if_pos e4]; exact low 10 (by unfold okR; omega) (by decide) _ rfl
  rw [if_neg e4] at h ⊢;by_cases e5 : byteI s (j + 1) = 114
  ·rw [if_pos e5]; exact low 13 (by unfold okR; omega) (by decide) _ rfl
  rw [if_neg e5] at h ⊢;by_cases e6 : byteI s (j + 1) = 116
  ·rw [if_pos e6]; exact low 9 (by unfold okR; omega) (by decide) _ rfl
  rw [if_neg e6] at h ⊢;by_cases e7 : byteI s (j + 1) = 117
  case neg => rw [if_neg e7] at h; exact absurd (show (-1 : Int) < 0 by decide) h
  rw [if_pos e7] at h ⊢;by_cases d1 : fourB s (j + 1 + 1) < 0 ∨ inB (fourB s (j + 1 + 1)) 56320 57343 = true
  case pos => rw [if_pos d1] at h; exact absurd (show (-1 : Int) < 0 by decide) h
  rw [if_neg d1] at h ⊢;have d1' := not_or.1 d1;have i1 : ¬ (56320 <= fourB s (j + 1 + 1) /\ fourB s (j + 1 + 1) <= 57343) := by have := d1'.2; unfold inB at this; simpa using this
  by_cases d2 : inB (fourB s (j + 1 + 1)) 55296 56319 = false
  ·rw [if_pos d2]
   have i2 : ¬ (55296 <= fourB s (j + 1 + 1) /\ fourB s (j + 1 + 1) <= 56319) := by unfold inB at d2; simpa using d2
   have hqr := qR_len (fourB s (j + 1 + 1)).toNat;refine ⟨(fourB s (j + 1 + 1)).toNat, by simp only; omega, by unfold okR; omega, by simp only; omega⟩
  rw [if_neg d2] at h ⊢;have i2 : 55296 <= fourB s (j + 1 + 1) /\ fourB s (j + 1 + 1) <= 56319 := by unfold inB at d2; simpa using d2
  by_cases d3 : s.size < j + 1 + 7 ∨ byteI s (j + 1 + 5) ≠ 92 ∨ byteI s (j + 1 + 6) ≠ 117
  case pos => rw [if_pos d3] at h; exact absurd (show (-1 : Int) < 0 by decide) h
  rw [if_neg d3] at h ⊢;by_cases d4 : inB (fourB s (j + 1 + 7)) 56320 57343 = true
  case neg => rw [if_neg d4] at h; exact absurd (show (-1 : Int) < 0 by decide) h
  rw [if_pos d4];have i4 : 56320 <= fourB s (j + 1 + 7) /\ fourB s (j + 1 + 7) <= 57343 := by unfold inB at d4; simpa using d4
  have hqr := qR_len (65536 + 1024 * (fourB s (j + 1 + 1) - 55296) + fourB s (j + 1 + 7) - 56320).toNat;refine ⟨(65536 + 1024 * (fourB s (j + 1 + 1) - 55296) + fourB s (j + 1 + 7) - 56320).toNat, by simp only; omega, by unfold okR; omega, by simp only; omega⟩
 ·rw [if_neg c0] at h ⊢
  by_cases c1 : (runeB s j).1 < 32
  ·rw [if_pos c1] at h; exact absurd (show (-1 : Int) < 0 by decide) h
  rw [if_neg c1] at h ⊢;unfold runeB at h c1 ⊢;rw [if_pos hj] at h c1 ⊢;by_cases hd : Utf8.decode s j = (65533, 1)
  ·rw [if_pos hd] at h; exact absurd (show (-1 : Int) < 0 by decide) h
  rw [if_neg hd] at h c1 ⊢;simp only at c1 ⊢;have hfit := decode_fits s j hj;have hdl := decodeL_drop s j hj;have hl : s.data.toList.length = s.size := Array.length_toList
  have hne : s.data.toList.drop j ≠ [] := fun e => by
   have := congrArg List.length e;rw [List.length_drop, hl] at this;simp at this;omega
  have hway := decode_way _ hne (by rw [hdl]; exact hd);rw [hdl] at hway;refine ⟨(Utf8.decode s j).1, rfl, ?_⟩;rcases hway with ⟨y, h1, h2, h3⟩ | ⟨h1, h2, h3⟩
  ·have hb : byteI s j = (y.toNat : Int) := by
    have hr : Rd s j (y :: (s.data.toList.drop j).drop (Utf8.decode s j).2) := by
     unfold Rd;rw [<- List.singleton_append, <- h3, List.take_append_drop]
    exact hr.byte0.2
   refine ⟨by unfold okR; omega, ?_⟩;rw [h1, hq _ h2]
   have hqn : (qN y.toNat).length = 1 := by
    unfold qN;rw [if_neg (by omega), if_neg (by omega), if_neg (by omega), if_neg (by omega), if_neg (by omega), if_neg (by omega), if_neg (by omega)];rfl
   omega
  ·have hk : ((s.data.toList.drop j).take (Utf8.decode s j).2).length = (Utf8.decode s j).2 := by rw [List.length_take, List.length_drop, hl]; omega
   have hlen := congrArg List.length h2;rw [hk] at hlen;have hen := congrArg List.length (textB_list (Utf8.decode s j).1);rw [List.length_map, hlen] at hen;refine ⟨?_, ?_⟩
   ·unfold okR
    unfold encN4 at hen;by_cases hbad : 1114111 < (Utf8.decode s j).1 ∨ (55296 <= (Utf8.decode s j).1 /\ (Utf8.decode s j).1 <= 57343)
    ·rw [if_pos hbad] at hen
     simp at hen;omega
    ·omega
   ·unfold qR
    rw [if_neg (by omega), hlen];omega
theorem quotG_cost (s : ByteArray) : ∀ (f j : Nat) (acc : List UInt8), s.size - j <= f -> ¬ (quotG s j acc).2 < 0 -> ∃ rs : List Nat, (∀ r ∈ rs, okR r) /\ (quotG s j acc).1 = ⟨(acc ++ textsB rs).toArray⟩ /\ ((j + (rs.flatMap qR).length + 1 : Nat) : Int) <= (quotG s j acc).2 := by
 intro f;induction f with
 | zero =>
  intro j acc hf h;rw [quotG_end (by omega)] at h;exact absurd (show (-1 : Int) < 0 by decide) h
 | succ f ih =>
  intro j acc hf h;by_cases hj : j < s.size
  ·rw [quotG_at hj] at h ⊢
   by_cases c1 : byteI s j = 34
   ·rw [if_pos c1]
    exact ⟨[], fun r hr => (by cases hr), by simp [textsB], by simp⟩
   rw [if_neg c1] at h ⊢;by_cases c2 : (quotN s j).2 < 0
   ·rw [if_pos c2] at h; exact absurd (show (-1 : Int) < 0 by decide) h
   rw [if_neg c2] at h ⊢;obtain ⟨r, h1, h2, h3⟩ := quotN_cost hj c1 c2;have hnx := quotN_next s j;rw [h1] at h ⊢;obtain ⟨rs, g1, g2, g3⟩ := ih _ _ (by omega) h;refine ⟨r :: rs, fun x hx => ?_, ?_, ?_⟩
   ·rcases List.mem_cons.1 hx with rfl | hx
    ·exact h2
    ·exact g1 x hx
   ·rw [g2, List.append_assoc]
    rfl
   ·rw [List.flatMap_cons, List.length_append]
    omega
  ·rw [quotG_end hj] at h
   exact absurd (show (-1 : Int) < 0 by decide) h
theorem quotB_cost {s : ByteArray} {j : Nat} (h : ¬ (quotB s j).2 < 0) : utf8B (quotB s j).1 = true /\ ((j + (quoteB (quotB s j).1).data.toList.length : Nat) : Int) <= (quotB s j).2 := by
 unfold quotB at h ⊢;by_cases hj : j < s.size
 ·rw [if_pos hj] at h ⊢
  by_cases c1 : byteI s j = 34
  ·rw [if_pos c1] at h ⊢
   obtain ⟨rs, h1, h2, h3⟩ := quotG_cost s _ (j + 1) [] (Nat.le_refl _) h;rw [List.nil_append] at h2;have hr : runesAt (quotG s (j + 1) []).1 0 = some rs := runes_texts _ rs 0 h1 (by rw [h2, List.drop_zero]);refine ⟨by unfold utf8B; rw [hr]; rfl, ?_⟩;rw [quoteB_runes hr];simp only [List.length_append, List.length_cons, List.length_nil];omega
  ·rw [if_neg c1] at h
   exact absurd (show (-1 : Int) < 0 by decide) h
 ·rw [if_neg hj] at h
  exact absurd (show (-1 : Int) < 0 by decide) h
def headOk (l : List UInt8) : Prop := ∀ c, l.head? = some c -> ¬ (48 <= c.toNat /\ c.toNat <= 57) /\ c.toNat ≠ 46 /\ c.toNat ≠ 101 /\ c.toNat ≠ 69
theorem dig_back {s : ByteArray} {rest : List UInt8} (hrest : headOk rest) : ∀ (l : List UInt8) (j : Nat), (∀ c ∈ l, figB c) -> Rd s j (l ++ rest) -> digE s j = j + l.length
 | [], j, _, h => by
  by_cases hj : j < s.size
  ·rw [digE_at hj]
   rcases hr : rest with _ | ⟨c, r⟩
   ·have := h.len (by omega)
    rw [hr] at this;simp at this;omega
   ·rw [hr] at h
    have hb := Rd.byte0 (c := c) h;have hh := hrest c (by rw [hr]; rfl);rw [if_neg (by rw [hb.2]; unfold figI; simp only [Bool.and_eq_true, decide_eq_true_eq]; omega)];rfl
  ·rw [digE_end hj]; rfl
 | c :: l, j, hf, h => by
  have hb := Rd.byte0 (c := c) h;have hc := hf c (by simp);unfold figB at hc;have h2 : Rd s (j + 1) (l ++ rest) := Rd.drop (a := [c]) h;rw [digE_at hb.1, if_pos (by rw [hb.2]; unfold figI; simp only [Bool.and_eq_true, decide_eq_true_eq]; omega), dig_back hrest l (j + 1) (fun x hx => hf x (by simp [hx])) h2, List.length_cons];omega
theorem dec_head : ∀ u : Nat, 0 < u -> ∃ c r, decDigits u = c :: r /\ 49 <= c.toNat /\ c.toNat <= 57 := by
 intro u;induction u using Nat.strongRecOn with
 | ind u ih =>
  intro hu;rw [decDigits];by_cases h : u < 10
  ·rw [dif_pos h]
   exact ⟨_, [], rfl, by rw [ofNat_fig h]; omega, by rw [ofNat_fig h]; omega⟩
  ·rw [dif_neg h]
   obtain ⟨c, r, h1, h2, h3⟩ := ih (u / 10) (by omega) (by omega);exact ⟨c, r ++ [UInt8.ofNat (48 + u % 10)], by rw [h1]; rfl, h2, h3⟩
theorem dec_ne (u : Nat) : decDigits u ≠ [] := by
 rcases Nat.eq_zero_or_pos u with rfl | h
 ·rw [decDigits]; simp
 ·obtain ⟨c, r, h1, -⟩ := dec_head u h
  rw [h1]; simp
theorem num_back {s : ByteArray} {a u : Nat} {rest : List UInt8} (hrest : headOk rest) (h : Rd s a (decDigits u ++ rest)) : digE s a = a + (decDigits u).length /\ ¬ (digE s a = a ∨ (byteI s a = 48 /\ a + 1 < digE s a) ∨ (digE s a < s.size /\ (byteI s (digE s a) = 46 ∨ byteI s (digE s a) = 101 ∨ byteI s (digE s a) = 69))) /\ numB s a (digE s a) = u := by
 have h1 := dig_back hrest _ a (dec_figs u) h;have hne := dec_ne u;have hl : 0 < (decDigits u).length := List.length_pos_iff.2 hne;refine ⟨h1, ?_, ?_⟩
 ·rw [h1]
  refine not_or.2 ⟨by omega, not_or.2 ⟨?_, ?_⟩⟩
  ·intro ⟨e1, e2⟩
   rcases Nat.eq_zero_or_pos u with rfl | hu
   ·have : (decDigits 0).length = 1 := by rw [decDigits]; rfl
    omega
   ·obtain ⟨c, r, g1, g2, g3⟩ := dec_head u hu
    rw [g1] at h;have hb := Rd.byte0 (c := c) h;rw [hb.2] at e1;omega
  ·intro ⟨e1, e2⟩
   have h2 := h.drop;rcases hr : rest with _ | ⟨c, r⟩
   ·rw [hr] at h2
    have := h2.len (by omega);simp at this;omega
   ·rw [hr] at h2
    have hb := Rd.byte0 (c := c) h2;have hh := hrest c (by rw [hr]; rfl);rw [hb.2] at e2;omega
 ·unfold numB
  rw [h1, extract_list, show s.data.toList.drop a = decDigits u ++ rest from h, List.take_left, dec_val]
theorem whole_back {s : ByteArray} {j : Nat} {n : Int} {rest : List UInt8} (hn : -9223372036854775808 <= n /\ n <= 9223372036854775807) (hrest : headOk rest) (h : Rd s j ((decS n).data.toList ++ rest)) : j < s.size /\ markI (byteI s j) = 0 /\ byteI s j ≠ 34 /\ (byteI s j = 45 ∨ figI (byteI s j) = true) /\ wholeB s j = (n, ((j + (decS n).data.toList.length : Nat) : Int)) := by
 have hd : (decS n).data.toList = itoa n := by unfold decS; simp
 rw [hd] at h ⊢;unfold itoa at h ⊢;by_cases hneg : n < 0
 ·rw [if_pos hneg] at h ⊢
  have hb := Rd.byte0 (c := 45) h;have e45 : byteI s j = 45 := hb.2;have h2 : Rd s (j + 1) (decDigits n.natAbs ++ rest) := Rd.drop (a := [45]) h;obtain ⟨g1, g2, g3⟩ := num_back hrest h2;refine ⟨hb.1, by rw [e45]; decide, by rw [e45]; decide, .inl e45, ?_⟩;unfold wholeB;rw [if_pos hb.1, if_pos e45];unfold wholeA;rw [if_neg g2, if_pos rfl, g3, if_pos (by omega), g1, List.length_cons];simp only [Prod.mk.injEq]
  omega
 ·rw [if_neg hneg] at h ⊢
  obtain ⟨g1, g2, g3⟩ := num_back hrest h
  have hb : ∃ c r, decDigits n.toNat = c :: r := by
   rcases hq : decDigits n.toNat with _ | ⟨c, r⟩
   ·exact absurd hq (dec_ne _)
   ·exact ⟨c, r, rfl⟩
  obtain ⟨c, r, hcr⟩ := hb;have hfc := dec_figs n.toNat c (by rw [hcr]; simp);unfold figB at hfc
  have hb : j < s.size /\ byteI s j = (c.toNat : Int) := by
   rw [hcr] at h;exact Rd.byte0 (c := c) h
  have hm : markI (byteI s j) = 0 := by
   rw [hb.2];unfold markI;rw [if_neg (by omega), if_neg (by omega), if_neg (by omega), if_neg (by omega), if_neg (by omega), if_neg (by omega)]
  refine ⟨hb.1, hm, by rw [hb.2]; omega, .inr (by rw [hb.2]; unfold figI; simp only [Bool.and_eq_true, decide_eq_true_eq]; omega), ?_⟩;unfold wholeB;rw [if_pos hb.1, if_neg (by rw [hb.2]; omega)];unfold wholeA;rw [if_neg g2, if_neg (by decide), g3, if_pos (by omega), g1];exact Prod.ext (by show ((n.toNat : Nat) : Int) = n; omega) rfl
theorem word_back {s : ByteArray} {j : Nat} {wl rest : List UInt8} (h : Rd s j (wl ++ rest)) : wordB s j wl = true := by
 unfold wordB;rw [show s.data.toList.drop j = wl ++ rest from h, List.take_left, decide_eq_true_eq]
abbrev Tk := Int × ByteArray × Int
def skT (x : SignD) : Tk := (x.kind, x.text, x.num)
def LexR (ok : List UInt8 -> Prop) (a : List UInt8) (T : List Tk) : Prop := ∀ (s : ByteArray) (j : Nat) (acc : List SignD) (rest : List UInt8), Rd s j (a ++ rest) -> ok rest -> ∃ L, L.map skT = T /\ signsG s j acc = signsG s (j + a.length) (acc ++ L)
def anyR (_ : List UInt8) : Prop := True
theorem LexR.weak {ok : List UInt8 -> Prop} {a : List UInt8} {T : List Tk} (h : LexR anyR a T) : LexR ok a T := fun s j acc rest hr _ => h s j acc rest hr trivial
theorem LexR.nil {ok : List UInt8 -> Prop} : LexR ok [] [] := fun s j acc rest _ _ => ⟨[], rfl, by rw [List.append_nil]; rfl⟩
theorem LexR.app {ok ok2 : List UInt8 -> Prop} {a b : List UInt8} {T U : List Tk} (h : LexR ok a T) (k : LexR ok2 b U) (hok : ∀ rest, ok2 rest -> ok (b ++ rest)) : LexR ok2 (a ++ b) (T ++ U) := by
 intro s j acc rest hr ho;rw [List.append_assoc] at hr;obtain ⟨L, e1, e2⟩ := h s j acc (b ++ rest) hr (hok rest ho);obtain ⟨M, f1, f2⟩ := k s (j + a.length) (acc ++ L) rest hr.drop ho;refine ⟨L ++ M, by rw [List.map_append, e1, f1], ?_⟩;rw [e2, f2, List.append_assoc, List.length_append, Nat.add_assoc]
theorem LexR.sign {ok : List UInt8 -> Prop} {a : List UInt8} {t : Tk} (h : ∀ (s : ByteArray) (j : Nat) (rest : List UInt8), Rd s j (a ++ rest) -> ok rest -> j < s.size /\ blankI (byteI s j) = false /\ ∃ x, skT x = t /\ signB s j = (x, ((j + a.length : Nat) : Int))) : LexR ok a [t] := by
 intro s j acc rest hr ho;obtain ⟨h1, h2, x, h3, h4⟩ := h s j rest hr ho;refine ⟨[x], by rw [List.map_cons, List.map_nil, h3], ?_⟩;rw [signsG_sign h1 (by rw [h2]; decide) (by rw [h4]; simp only; omega), h4];simp only [Int.toNat_natCast]
theorem LexR.mark {c : UInt8} {k : Int} (hk : markI (c.toNat : Int) = k) (h0 : k ≠ 0) : LexR anyR [c] [(k, ⟨#[]⟩, 0)] := by
 refine LexR.sign (fun s j rest hr _ => ?_);have hb := Rd.byte0 (c := c) hr;have hm : markI (byteI s j) = k := by rw [hb.2, hk]
 refine ⟨hb.1, ?_, _, ?_, sign_mark hb.1 (by rw [hm]; exact h0)⟩
 ·rw [hb.2]
  unfold blankI;rw [decide_eq_false_iff_not];intro h;apply h0;rw [<- hk];unfold markI;rw [if_neg (by omega), if_neg (by omega), if_neg (by omega), if_neg (by omega), if_neg (by omega), if_neg (by omega)]
 ·unfold skT
  simp only;rw [hm]
theorem LexR.quote {x : ByteArray} (hx : utf8B x = true) : LexR anyR (quoteB x).data.toList [(7, x, 0)] := by
 refine LexR.sign (fun s j rest hr _ => ?_);obtain ⟨h1, h2, h3⟩ := quotB_back hx hr;refine ⟨h2, by rw [h1]; decide, ⟨7, x, 0, j⟩, rfl, ?_⟩;rw [sign_quot h2 h1, h3, if_neg (by simp only; omega)]
theorem LexR.num {n : Int} (hn : -9223372036854775808 <= n /\ n <= 9223372036854775807) : LexR headOk (decS n).data.toList [(8, ⟨#[]⟩, n)] := by
 refine LexR.sign (fun s j rest hr ho => ?_);obtain ⟨h1, h2, h3, h4, h5⟩ := whole_back hn ho hr;refine ⟨h1, ?_, ⟨8, ⟨#[]⟩, n, j⟩, rfl, ?_⟩
 ·unfold blankI
  rw [decide_eq_false_iff_not];intro h;rcases h4 with h4 | h4
  ·omega
  ·unfold figI at h4
   simp only [Bool.and_eq_true, decide_eq_true_eq] at h4;omega
 ·rw [sign_num h1 h2 h3 h4, h5, if_neg (by simp only; omega)]
theorem LexR.litN : LexR anyR litN [(11, ⟨#[]⟩, 0)] := by
 refine LexR.sign (fun s j rest hr _ => ?_);have hb := Rd.byte0 (c := 110) hr;have e : byteI s j = 110 := hb.2;refine ⟨hb.1, by rw [e]; decide, ⟨11, ⟨#[]⟩, 0, j⟩, rfl, ?_⟩
 have h1 : wordB s j wT = false := by
  rcases h : wordB s j wT with _ | _
  ·rfl
  ·have := (word_first h).2; rw [e] at this; exact absurd this (by decide)
 have h2 : wordB s j wF = false := by
  rcases h : wordB s j wF with _ | _
  ·rfl
  ·have := (word_first h).2; rw [e] at this; exact absurd this (by decide)
 have h3 : wordB s j wN = true := word_back hr;rw [sign_word hb.1 (by rw [e]; decide) (by rw [e]; decide) (by rw [e]; decide), h1, h2, h3];rfl
theorem LexR.litT : LexR anyR litT [(9, ⟨#[]⟩, 0)] := by
 refine LexR.sign (fun s j rest hr _ => ?_);have hb := Rd.byte0 (c := 116) hr;have e : byteI s j = 116 := hb.2;refine ⟨hb.1, by rw [e]; decide, ⟨9, ⟨#[]⟩, 0, j⟩, rfl, ?_⟩;have h3 : wordB s j wT = true := word_back hr;rw [sign_word hb.1 (by rw [e]; decide) (by rw [e]; decide) (by rw [e]; decide), h3];rfl
theorem LexR.litF : LexR anyR litF [(10, ⟨#[]⟩, 0)] := by
 refine LexR.sign (fun s j rest hr _ => ?_);have hb := Rd.byte0 (c := 102) hr;have e : byteI s j = 102 := hb.2;refine ⟨hb.1, by rw [e]; decide, ⟨10, ⟨#[]⟩, 0, j⟩, rfl, ?_⟩
 have h1 : wordB s j wT = false := by
  rcases h : wordB s j wT with _ | _
  ·rfl
  ·have := (word_first h).2; rw [e] at this; exact absurd this (by decide)
 have h3 : wordB s j wF = true := word_back hr;rw [sign_word hb.1 (by rw [e]; decide) (by rw [e]; decide) (by rw [e]; decide), h1, h3];rfl
theorem i64_zero : I64 0 := by unfold I64; omega
def VU (a : List UInt8) : Prop := ∀ (s : ByteArray) (j : Nat) (rest : List UInt8), Rd s j (a ++ rest) -> badAt s j = badAt s (j + a.length)
theorem VU.nil : VU [] := fun _ _ _ _ => rfl
theorem VU.app {a b : List UInt8} (h : VU a) (k : VU b) : VU (a ++ b) := by
 intro s j rest hr;rw [List.append_assoc] at hr;rw [h s j _ hr, k s _ _ hr.drop, List.length_append, Nat.add_assoc]
theorem VU.low : ∀ {a : List UInt8}, (∀ c ∈ a, c.toNat < 128) -> VU a
 | [], _ => VU.nil
 | c :: a, h => by
  refine VU.app (a := [c]) ?_ (VU.low (fun x hx => h x (by simp [hx])));intro s j rest hr;have hb := Rd.byte0 (c := c) hr;have hc := h c (by simp);have h1 := decodeL_drop s j hb.1;rw [show s.data.toList.drop j = c :: rest from hr, decode_one (by simpa using hc)] at h1;rw [badAt_step hb.1 (by rw [<- h1]; intro e; have := congrArg Prod.fst e; simp at this; omega), <- h1];rfl
theorem qB_low {c : UInt8} (h : c.toNat < 128) : ∀ x ∈ qB c, x.toNat < 128 := by
 have hf : ∀ y : Fin 16, (figU y.val).toNat < 128 := by decide
 intro x hx;unfold qB qN at hx;by_cases c1 : c.toNat = 34 ∨ c.toNat = 92
 ·rw [if_pos c1] at hx
  simp at hx;rcases hx with rfl | rfl
  ·decide
  ·exact h
 rw [if_neg c1] at hx;by_cases c2 : c.toNat = 8
 ·rw [if_pos c2] at hx; simp at hx; rcases hx with rfl | rfl <;> decide
 rw [if_neg c2] at hx;by_cases c3 : c.toNat = 12
 ·rw [if_pos c3] at hx; simp at hx; rcases hx with rfl | rfl <;> decide
 rw [if_neg c3] at hx;by_cases c4 : c.toNat = 10
 ·rw [if_pos c4] at hx; simp at hx; rcases hx with rfl | rfl <;> decide
 rw [if_neg c4] at hx;by_cases c5 : c.toNat = 13
 ·rw [if_pos c5] at hx; simp at hx; rcases hx with rfl | rfl <;> decide
 rw [if_neg c5] at hx;by_cases c6 : c.toNat = 9
 ·rw [if_pos c6] at hx; simp at hx; rcases hx with rfl | rfl <;> decide
 rw [if_neg c6] at hx;by_cases c7 : c.toNat < 32
 ·rw [if_pos c7] at hx
  simp only [List.mem_cons, List.mem_nil_iff, or_false] at hx;rcases hx with rfl | rfl | rfl | rfl | rfl | rfl
  ·decide
  ·decide
  ·decide
  ·decide
  ·exact hf ⟨c.toNat / 16, by omega⟩
  ·exact hf ⟨c.toNat % 16, by omega⟩
 ·rw [if_neg c7] at hx
  simp at hx;rw [hx];exact h
theorem VU.rune {l : List UInt8} (hv : decodeL l ≠ (65533, 1)) (hk : 1 <= (decodeL l).2) (hl : (decodeL l).2 <= l.length) : VU (l.take (decodeL l).2) := by
 intro s j rest hr;have hlen : (l.take (decodeL l).2).length = (decodeL l).2 := by rw [List.length_take]; omega
 have hj : j < s.size := by
  rcases hq : l.take (decodeL l).2 with _ | ⟨z, zs⟩
  ·rw [hq] at hlen; simp at hlen; omega
  ·rw [hq] at hr
   exact (Rd.byte0 (c := z) hr).1
 have h1 := decodeL_drop s j hj;rw [show s.data.toList.drop j = l.take (decodeL l).2 ++ rest from hr, decode_local (l := l) hv (by rw [List.take_append_of_le_length (by omega), List.take_take, Nat.min_self]) (by rw [List.length_append]; omega)] at h1;rw [badAt_step hj (by rw [<- h1]; exact hv), <- h1, hlen]
theorem VU.flat (x : ByteArray) : ∀ (f i : Nat) (rs : List Nat), x.size - i <= f -> runesAt x i = some rs -> VU ((x.data.toList.drop i).flatMap qB) := by
 intro f;induction f with
 | zero =>
  intro i rs hf h;rw [List.drop_of_length_le (by rw [Array.length_toList]; exact (show x.size <= i by omega))];exact VU.nil
 | succ f ih =>
  intro i rs hf h;by_cases hi : i < x.size
  ·by_cases hd : Utf8.decode x i = (65533, 1)
   ·rw [runesAt_bad hi hd] at h; cases h
   ·rw [runesAt_step hi hd] at h
    have hdl := decodeL_drop x i hi;have hl : x.data.toList.length = x.size := Array.length_toList
    have hne : x.data.toList.drop i ≠ [] := fun e => by
     have := congrArg List.length e;rw [List.length_drop, hl] at this;simp at this;omega
    have hfit := decode_fits x i hi;rcases hr2 : runesAt x (i + (Utf8.decode x i).2) with _ | rs'
    ·rw [hr2] at h; cases h
    ·have hs : x.data.toList.drop i = (x.data.toList.drop i).take (Utf8.decode x i).2 ++ x.data.toList.drop (i + (Utf8.decode x i).2) := by
      rw [<- List.drop_drop, List.take_append_drop]
     have hdv : decodeL (x.data.toList.drop i) ≠ (65533, 1) := by rw [hdl]; exact hd
     have ih' := ih (i + (Utf8.decode x i).2) rs' (by omega) hr2;have hway := decode_way _ hne hdv;have hru := VU.rune hdv (by rw [hdl]; exact hfit.2.1) (by rw [hdl, List.length_drop, hl]; omega);rw [hdl] at hway hru;rw [hs, List.flatMap_append];refine VU.app ?_ ih';rcases hway with ⟨y, h1, h2, h3⟩ | ⟨h1, h2, h3⟩
     ·rw [h3]
      have hq1 : [y].flatMap qB = qB y := by simp
      rw [hq1];exact VU.low (qB_low h2)
     ·rw [flat_high h3]
      exact hru
  ·rw [List.drop_of_length_le (by rw [Array.length_toList]; exact (show x.size <= i by omega))]
   exact VU.nil
theorem VU.quote {x : ByteArray} (hx : utf8B x = true) : VU (quoteB x).data.toList := by
 obtain ⟨rs, hrs⟩ := Option.isSome_iff_exists.1 (show (runesAt x 0).isSome = true from hx);have h := VU.flat x _ 0 rs (Nat.le_refl _) hrs;rw [List.drop_zero] at h;have hq : (quoteB x).data.toList = [34] ++ (x.data.toList.flatMap qB ++ [34]) := by unfold quoteB; rw [if_pos hx]; rfl
 rw [hq];exact VU.app (VU.low (by simp)) (VU.app h (VU.low (by simp)))
theorem VU.dec (n : Int) : VU (decS n).data.toList := by
 have hd : (decS n).data.toList = itoa n := by unfold decS; simp
 rw [hd]
 have hf : ∀ u, ∀ c ∈ decDigits u, c.toNat < 128 := fun u c hc => by
  have := dec_figs u c hc;unfold figB at this;omega
 unfold itoa;split
 ·refine VU.low (fun c hc => ?_)
  rcases List.mem_cons.1 hc with rfl | hc
  ·decide
  ·exact hf _ c hc
 ·exact VU.low (hf _)
def Both (ok : List UInt8 -> Prop) (a : List UInt8) (T : List Tk) : Prop := LexR ok a T /\ VU a
theorem Both.app {ok ok2 : List UInt8 -> Prop} {a b : List UInt8} {T U : List Tk} (h : Both ok a T) (k : Both ok2 b U) (hok : ∀ rest, ok2 rest -> ok (b ++ rest)) : Both ok2 (a ++ b) (T ++ U) := ⟨h.1.app k.1 hok, h.2.app k.2⟩
theorem Both.any {ok : List UInt8 -> Prop} {a b : List UInt8} {T U : List Tk} (h : Both anyR a T) (k : Both ok b U) : Both ok (a ++ b) (T ++ U) := h.app k (fun _ _ => trivial)
theorem Both.weak {ok : List UInt8 -> Prop} {a : List UInt8} {T : List Tk} (h : Both anyR a T) : Both ok a T := ⟨h.1.weak, h.2⟩
theorem Both.nil {ok : List UInt8 -> Prop} : Both ok [] [] := ⟨LexR.nil, VU.nil⟩
theorem Both.mark {c : UInt8} {k : Int} (hk : markI (c.toNat : Int) = k) (h0 : k ≠ 0) (hc : c.toNat < 128) : Both anyR [c] [(k, ⟨#[]⟩, 0)] := ⟨LexR.mark hk h0, VU.low (by intro x hx; simp at hx; rw [hx]; exact hc)⟩
def mk (k : Int) : Tk := (k, ⟨#[]⟩, 0)
def pieceP {α : Type} (com : List α) (pre : Nat -> List α) (f : TreeD -> List α) (l : List TreeD) (k : Nat) : List α := match l[k]? with | none => [] | some t => (if k = 0 then [] else com) ++ pre k ++ f t
theorem piece_some {α : Type} {com : List α} {pre : Nat -> List α} {f : TreeD -> List α} {l : List TreeD} {k : Nat} {t : TreeD} (h : l[k]? = some t) : pieceP com pre f l k = (if k = 0 then [] else com) ++ pre k ++ f t := by unfold pieceP; rw [h]
theorem piece_none {α : Type} {com : List α} {pre : Nat -> List α} {f : TreeD -> List α} {l : List TreeD} {k : Nat} (h : l[k]? = none) : pieceP com pre f l k = [] := by unfold pieceP; rw [h]
def seqP {α : Type} (p : Nat -> List α) : Nat -> Nat -> List α
 | _, 0 => []
 | k, n + 1 => p k ++ seqP p (k + 1) n
theorem seqP_succ {α : Type} (p : Nat -> List α) (k n : Nat) : seqP p k (n + 1) = p k ++ seqP p (k + 1) n := rfl
theorem seqP_last {α : Type} (p : Nat -> List α) : ∀ (n k : Nat), seqP p k (n + 1) = seqP p k n ++ p (k + n)
 | 0, k => by simp [seqP]
 | n + 1, k => by
  rw [seqP_succ, seqP_last p n (k + 1), seqP_succ p k n, List.append_assoc];congr 3
  omega
theorem items_seq (pre : Nat -> List UInt8) (f : TreeD -> List UInt8) (l : List TreeD) : ∀ n, itemsT pre f l n = seqP (pieceP [44] pre f l) 0 n
 | 0 => rfl
 | n + 1 => by
  rw [seqP_last, <- items_seq pre f l n, Nat.zero_add];rfl
def tkPre (ks : List ByteArray) (i : Nat) : List Tk := match ks[i]? with | none => [] | some k => [(7, k, 0), mk 5]
def tkL : Nat -> TreeD -> List Tk
 | 0, _ => []
 | n + 1, d => if d.kind = 1 then [mk 11] else if d.kind = 2 then (if d.flag then [mk 9] else [mk 10]) else if d.kind = 3 then [(8, ⟨#[]⟩, d.num)] else if d.kind = 4 then [(7, d.text, 0)]
  else if d.kind = 5 then [mk 3] ++ seqP (pieceP [mk 6] (fun _ => []) (tkL n) d.kids) 0 d.kids.length ++ [mk 4] else [mk 1] ++ seqP (pieceP [mk 6] (tkPre d.keys) (tkL n) d.kids) 0 d.kids.length ++ [mk 2]
theorem tkL_succ (n : Nat) (d : TreeD) : tkL (n + 1) d = if d.kind = 1 then [mk 11] else if d.kind = 2 then (if d.flag then [mk 9] else [mk 10]) else if d.kind = 3 then [(8, ⟨#[]⟩, d.num)] else if d.kind = 4 then [(7, d.text, 0)]
  else if d.kind = 5 then [mk 3] ++ seqP (pieceP [mk 6] (fun _ => []) (tkL n) d.kids) 0 d.kids.length ++ [mk 4] else [mk 1] ++ seqP (pieceP [mk 6] (tkPre d.keys) (tkL n) d.kids) 0 d.kids.length ++ [mk 2] := rfl
theorem head_safe {c : UInt8} {l : List UInt8} (h : ¬ (48 <= c.toNat /\ c.toNat <= 57) /\ c.toNat ≠ 46 /\ c.toNat ≠ 101 /\ c.toNat ≠ 69) : headOk (c :: l) := fun x hx => by
 obtain rfl : c = x := by simpa using hx
 exact h
theorem both_seq {pre : Nat -> List UInt8} {tpre : Nat -> List Tk} {f : TreeD -> List UInt8} {g : TreeD -> List Tk} {l : List TreeD} (hp : ∀ i t, l[i]? = some t -> Both anyR (pre i) (tpre i)) (hf : ∀ t ∈ l, Both headOk (f t) (g t)) :
  ∀ n k, Both headOk (seqP (pieceP [44] pre f l) k n) (seqP (pieceP [mk 6] tpre g l) k n) /\ (1 <= k -> ∀ rest, headOk rest -> headOk (seqP (pieceP [44] pre f l) k n ++ rest))
 | 0, k => ⟨Both.nil, fun _ _ h => h⟩
 | n + 1, k => by
  obtain ⟨ih1, ih2⟩ := both_seq hp hf n (k + 1);rw [seqP_succ, seqP_succ];rcases hk : l[k]? with _ | t
  ·rw [piece_none hk, piece_none hk]
   exact ⟨ih1, fun h rest hr => ih2 (by omega) rest hr⟩
  ·rw [piece_some hk, piece_some hk]
   have h1 := hp k t hk;have h2 := hf t (List.mem_of_getElem? hk);refine ⟨Both.app ?_ ih1 (ih2 (by omega)), fun h rest hr => ?_⟩
   ·refine Both.any (Both.any ?_ h1) h2
    by_cases h0 : k = 0
    ·rw [if_pos h0, if_pos h0]; exact Both.nil
    ·rw [if_neg h0, if_neg h0]; exact Both.mark (by decide) (by decide) (by decide)
   ·rw [if_neg (by omega)]
    exact head_safe (by decide)
theorem strB_utf {s : ByteArray} (h : strB s = true) : utf8B s = true /\ s.size <= 400 := by
 unfold strB at h;simp only [Bool.and_eq_true, decide_eq_true_eq] at h;exact ⟨h.2, h.1⟩
theorem key_str {n i : Nat} {d : TreeD} {k : ByteArray} (h : shapeT (n + 1) d = true) (hk : d.keys[i]? = some k) : strB k = true := by
 have := (shape_parts h).2.2.2.1 i (List.getElem?_eq_some_iff.1 hk).1;unfold keyOk at this;rw [hk] at this;simp only [Bool.and_eq_true] at this;exact this.1
theorem both_say : ∀ (n : Nat) (d : TreeD), shapeT n d = true -> numT n d -> Both headOk (sayL n d) (tkL n d)
 | 0, _, h, _ => by cases h
 | n + 1, d, h, hn => by
  have hkids : ∀ t ∈ d.kids, Both headOk (sayL n t) (tkL n t) := fun t ht => by
   obtain ⟨i, hi⟩ := List.getElem?_of_mem ht;exact both_say n t (shape_kid h hi) (hn.2 t ht)
  rw [sayL_succ, tkL_succ];by_cases c1 : d.kind = 1
  ·rw [if_pos c1, if_pos c1]
   exact ⟨LexR.litN.weak, VU.low (by decide)⟩
  rw [if_neg c1, if_neg c1];by_cases c2 : d.kind = 2
  ·rw [if_pos c2, if_pos c2]
   cases d.flag with
   | true => exact ⟨LexR.litT.weak, VU.low (by decide)⟩
   | false => exact ⟨LexR.litF.weak, VU.low (by decide)⟩
  rw [if_neg c2, if_neg c2];by_cases c3 : d.kind = 3
  ·rw [if_pos c3, if_pos c3]
   exact ⟨LexR.num hn.1, VU.dec _⟩
  rw [if_neg c3, if_neg c3];by_cases c4 : d.kind = 4
  ·rw [if_pos c4, if_pos c4]
   have h2 := strB_utf (shape_parts h).2.1;exact ⟨(LexR.quote h2.1).weak, VU.quote h2.1⟩
  rw [if_neg c4, if_neg c4];by_cases c5 : d.kind = 5
  ·rw [if_pos c5, if_pos c5, items_seq]
   refine Both.app (ok := headOk) (Both.any (Both.mark (by decide) (by decide) (by decide)) (both_seq (fun _ _ _ => Both.nil) hkids _ 0).1) (Both.mark (by decide) (by decide) (by decide)).weak (fun rest _ => head_safe (by decide))
  ·rw [if_neg c5, if_neg c5, items_seq]
   refine Both.app (ok := headOk) (Both.any (Both.mark (by decide) (by decide) (by decide)) (both_seq (fun i t _ => ?_) hkids _ 0).1) (Both.mark (by decide) (by decide) (by decide)).weak (fun rest _ => head_safe (by decide));unfold preM tkPre;rcases hk : d.keys[i]? with _ | k
   ·exact Both.nil
   ·have h2 := strB_utf (key_str h hk)
    exact Both.any (T := [(7, k, 0)]) ⟨LexR.quote h2.1, VU.quote h2.1⟩ (Both.mark (by decide) (by decide) (by decide))
open Go.RowKit
theorem bless_irrefl : ∀ a : List UInt8, Op.bytesLess a a = false
 | [] => rfl
 | x :: a => by unfold Op.bytesLess; simp [UInt8.lt_irrefl, bless_irrefl a]
theorem lessS_irrefl (a : ByteArray) : lessS a a = false := bless_irrefl _
structure SgOk (L : List SignD) : Prop where
 len : L.length <= 1048576
 kind : ∀ (i : Nat) (x : SignD), L[i]? = some x -> 1 <= x.kind /\ x.kind <= 11
 num : ∀ (i : Nat) (x : SignD), L[i]? = some x -> I64 x.num
 text : ∀ (i : Nat) (x : SignD), L[i]? = some x -> x.text.size <= 1048576
def GoodR (L : List SignD) (p : Nat) (r : Res) : Prop := match r with
 | .bad f => f.code ≠ 0
 | .good _ q m' => p < q /\ q <= L.length /\ m' <= 300
def needJ (L : List SignD) (p : Nat) : Job -> Nat
 | .value _ => 2 * (L.length - p) + 1
 | .list _ _ => 2 * (L.length - p) + 2
 | .pairs _ _ _ => 2 * (L.length - p) + 2
theorem kindAt_some {L : List SignD} {p : Nat} {x : SignD} (h : L[p]? = some x) : kindAt L p = x.kind := by unfold kindAt; rw [h]
theorem kindAt_none {L : List SignD} {p : Nat} (h : L[p]? = none) : kindAt L p = 0 := by unfold kindAt; rw [h]
theorem kindAt_lt {L : List SignD} {p : Nat} (h : kindAt L p ≠ 0) : p < L.length := by
 rcases hx : L[p]? with _ | x
 ·exact absurd (kindAt_none hx) h
 ·exact (List.getElem?_eq_some_iff.1 hx).1
theorem readJ_value (L : List SignD) (E : Int) (n d p m : Nat) : readJ L E (n + 1) (.value d) p m =
  if ¬ (kindAt L p = 1 ∨ kindAt L p = 3 ∨ 7 <= kindAt L p) then .bad (badF L E 4 p)
  else if 8 < d then .bad (badF L E 6 p)
  else if 300 <= m then .bad (badF L E 7 p)
  else match L[p]? with
   | none => .bad flt0
   | some x =>
    if x.kind = 7 then (if 400 < x.text.size then .bad (badF L E 8 p) else .good (tText x.text) (p + 1) (m + 1))
    else if x.kind = 8 then .good (tInt x.num) (p + 1) (m + 1)
    else if x.kind = 11 then .good tNull (p + 1) (m + 1)
    else if x.kind = 3 then (if kindAt L (p + 1) = 4 then .good (tList []) (p + 2) (m + 1) else readJ L E n (.list d []) (p + 1) (m + 1))
    else if x.kind = 1 then (if kindAt L (p + 1) = 2 then .good (tMap [] []) (p + 2) (m + 1) else readJ L E n (.pairs d [] []) (p + 1) (m + 1))
    else .good (tFlag (x.kind == 9)) (p + 1) (m + 1) := by rw [readJ]; rfl
theorem readJ_list (L : List SignD) (E : Int) (n d : Nat) (acc : List TreeD) (p m : Nat) : readJ L E (n + 1) (.list d acc) p m =
  match readJ L E n (.value (d + 1)) p m with
  | .bad f => .bad f
  | .good t q m' =>
   if kindAt L q = 4 then .good (tList (acc ++ [t])) (q + 1) m'
   else if kindAt L q = 6 then readJ L E n (.list d (acc ++ [t])) (q + 1) m'
   else .bad (badF L E 4 q) := by rw [readJ]; rfl
theorem readJ_pairs (L : List SignD) (E : Int) (n d : Nat) (ks : List ByteArray) (acc : List TreeD) (p m : Nat) : readJ L E (n + 1) (.pairs d ks acc) p m =
  match L[p]? with
  | none => .bad (badF L E 4 p)
  | some x =>
   if x.kind ≠ 7 then .bad (badF L E 4 p)
   else if 400 < x.text.size then .bad (badF L E 8 p)
   else if ks.contains x.text then .bad (badF L E 5 p)
   else if kindAt L (p + 1) ≠ 5 then .bad (badF L E 4 (p + 1))
   else match readJ L E n (.value (d + 1)) (p + 2) m with
    | .bad f => .bad f
    | .good t q m' =>
     if kindAt L q = 2 then .good (tMap (insL ks (posK ks x.text) x.text) (insL acc (posK ks x.text) t)) (q + 1) m'
     else if kindAt L q = 6 then readJ L E n (.pairs d (insL ks (posK ks x.text) x.text) (insL acc (posK ks x.text) t)) (q + 1) m'
     else .bad (badF L E 4 q) := by rw [readJ]; rfl
theorem good_more {L : List SignD} {p p' : Nat} {r : Res} (h : GoodR L p' r) (hp : p <= p') : GoodR L p r := by
 cases r with
 | bad f => exact h
 | good t q m' => exact ⟨Nat.lt_of_le_of_lt hp h.1, h.2.1, h.2.2⟩
theorem bad_code (L : List SignD) (E : Int) (c : Int) (p q : Nat) (hc : c ≠ 0) : GoodR L q (.bad (badF L E c p)) := hc
theorem readJ_good (L : List SignD) (E : Int) : ∀ (n : Nat) (j : Job) (p m : Nat), p <= L.length -> m <= 300 -> needJ L p j <= n -> GoodR L p (readJ L E n j p m)
 | 0, j, p, m, _, _, hn => by cases j <;> simp [needJ] at hn
 | n + 1, .value d, p, m, hp, hm, hn => by
  rw [readJ_value];by_cases c1 : ¬ (kindAt L p = 1 ∨ kindAt L p = 3 ∨ 7 <= kindAt L p)
  ·rw [if_pos c1]; exact bad_code _ _ _ _ _ (by decide)
  ·rw [if_neg c1]
   have c1 := Classical.not_not.1 c1;by_cases c2 : 8 < d
   ·rw [if_pos c2]; exact bad_code _ _ _ _ _ (by decide)
   ·rw [if_neg c2]
    by_cases c3 : 300 <= m
    ·rw [if_pos c3]; exact bad_code _ _ _ _ _ (by decide)
    ·rw [if_neg c3]
     have hlt : p < L.length := kindAt_lt (L := L) (p := p) (by omega);unfold needJ at hn;simp only at hn;rcases hx : L[p]? with _ | x
     ·rw [List.getElem?_eq_getElem hlt] at hx; cases hx
     ·simp only
      by_cases c4 : x.kind = 7
      ·rw [if_pos c4]
       by_cases c5 : 400 < x.text.size
       ·rw [if_pos c5]; exact bad_code _ _ _ _ _ (by decide)
       ·rw [if_neg c5]; exact ⟨by omega, by omega, by omega⟩
      ·rw [if_neg c4]
       by_cases c6 : x.kind = 8
       ·rw [if_pos c6]; exact ⟨by omega, by omega, by omega⟩
       ·rw [if_neg c6]
        by_cases c7 : x.kind = 11
        ·rw [if_pos c7]; exact ⟨by omega, by omega, by omega⟩
        ·rw [if_neg c7]
         by_cases c8 : x.kind = 3
         ·rw [if_pos c8]
          by_cases c9 : kindAt L (p + 1) = 4
          ·rw [if_pos c9]
           have := kindAt_lt (L := L) (p := p + 1) (by omega);exact ⟨by omega, by omega, by omega⟩
          ·rw [if_neg c9]
           exact good_more (readJ_good L E n _ (p + 1) (m + 1) (by omega) (by omega) (by unfold needJ; simp only; omega)) (by omega)
         ·rw [if_neg c8]
          by_cases c10 : x.kind = 1
          ·rw [if_pos c10]
           by_cases c9 : kindAt L (p + 1) = 2
           ·rw [if_pos c9]
            have := kindAt_lt (L := L) (p := p + 1) (by omega);exact ⟨by omega, by omega, by omega⟩
           ·rw [if_neg c9]
            exact good_more (readJ_good L E n _ (p + 1) (m + 1) (by omega) (by omega) (by unfold needJ; simp only; omega)) (by omega)
          ·rw [if_neg c10]; exact ⟨by omega, by omega, by omega⟩
 | n + 1, .list d acc, p, m, hp, hm, hn => by
  rw [readJ_list];unfold needJ at hn;simp only at hn;have h1 := readJ_good L E n (.value (d + 1)) p m hp hm (by unfold needJ; simp only; omega);rcases hr : readJ L E n (.value (d + 1)) p m with f | ⟨t, q, m'⟩
  ·rw [hr] at h1; exact h1
  ·rw [hr] at h1
   obtain ⟨h2, h3, h4⟩ := h1;simp only;by_cases c1 : kindAt L q = 4
   ·rw [if_pos c1]
    have := kindAt_lt (L := L) (p := q) (by omega);exact ⟨by omega, by omega, h4⟩
   ·rw [if_neg c1]
    by_cases c2 : kindAt L q = 6
    ·rw [if_pos c2]
     have := kindAt_lt (L := L) (p := q) (by omega);exact good_more (readJ_good L E n _ (q + 1) m' (by omega) h4 (by unfold needJ; simp only; omega)) (by omega)
    ·rw [if_neg c2]; exact bad_code _ _ _ _ _ (by decide)
 | n + 1, .pairs d ks acc, p, m, hp, hm, hn => by
  rw [readJ_pairs];unfold needJ at hn;simp only at hn;rcases hx : L[p]? with _ | x
  ·exact bad_code _ _ _ _ _ (by decide)
  ·simp only
   have hlt := (List.getElem?_eq_some_iff.1 hx).1;by_cases c1 : x.kind ≠ 7
   ·rw [if_pos c1]; exact bad_code _ _ _ _ _ (by decide)
   ·rw [if_neg c1]
    by_cases c2 : 400 < x.text.size
    ·rw [if_pos c2]; exact bad_code _ _ _ _ _ (by decide)
    ·rw [if_neg c2]
     by_cases c3 : ks.contains x.text = true
     ·rw [if_pos c3]; exact bad_code _ _ _ _ _ (by decide)
     ·rw [if_neg c3]
      by_cases c4 : kindAt L (p + 1) ≠ 5
      ·rw [if_pos c4]; exact bad_code _ _ _ _ _ (by decide)
      ·rw [if_neg c4]
       have hlt2 := kindAt_lt (L := L) (p := p + 1) (by omega);have h1 := readJ_good L E n (.value (d + 1)) (p + 2) m (by omega) hm (by unfold needJ; simp only; omega);rcases hr : readJ L E n (.value (d + 1)) (p + 2) m with f | ⟨t, q, m'⟩
       ·rw [hr] at h1; exact h1
       ·rw [hr] at h1
        obtain ⟨h2, h3, h4⟩ := h1;simp only;by_cases c5 : kindAt L q = 2
        ·rw [if_pos c5]
         have := kindAt_lt (L := L) (p := q) (by omega);exact ⟨by omega, by omega, h4⟩
        ·rw [if_neg c5]
         by_cases c6 : kindAt L q = 6
         ·rw [if_pos c6]
          have := kindAt_lt (L := L) (p := q) (by omega);exact good_more (readJ_good L E n _ (q + 1) m' (by omega) h4 (by unfold needJ; simp only; omega)) (by omega)
         ·rw [if_neg c6]; exact bad_code _ _ _ _ _ (by decide)
theorem readP_kind {L : List SignD} {E : Int} {n d p m : Nat} {ks : List ByteArray} {acc : List TreeD} (h : kindAt L p ≠ 7) : readJ L E (n + 1) (.pairs d ks acc) p m = .bad (badF L E 4 p) := by
 rw [readJ_pairs];rcases hx : L[p]? with _ | x
 ·rfl
 ·simp only
  rw [if_pos (by rw [<- kindAt_some hx]; exact h)]
theorem readP_wide {L : List SignD} {E : Int} {n d p m : Nat} {ks : List ByteArray} {acc : List TreeD} {x : SignD} (hx : L[p]? = some x) (hk : x.kind = 7) (hs : 400 < x.text.size) : readJ L E (n + 1) (.pairs d ks acc) p m = .bad (badF L E 8 p) := by
 rw [readJ_pairs, hx];simp only;rw [if_neg (fun h => h hk), if_pos hs]
theorem readP_twice {L : List SignD} {E : Int} {n d p m : Nat} {ks : List ByteArray} {acc : List TreeD} {x : SignD} (hx : L[p]? = some x) (hk : x.kind = 7) (hs : ¬ 400 < x.text.size) (hn : ks.contains x.text = true) : readJ L E (n + 1) (.pairs d ks acc) p m = .bad (badF L E 5 p) := by
 rw [readJ_pairs, hx];simp only;rw [if_neg (fun h => h hk), if_neg hs, if_pos hn]
theorem readP_colon {L : List SignD} {E : Int} {n d p m : Nat} {ks : List ByteArray} {acc : List TreeD} {x : SignD} (hx : L[p]? = some x) (hk : x.kind = 7) (hs : ¬ 400 < x.text.size) (hn : ks.contains x.text = false) (h5 : kindAt L (p + 1) ≠ 5) : readJ L E (n + 1) (.pairs d ks acc) p m = .bad (badF L E 4 (p + 1)) := by
 rw [readJ_pairs, hx];simp only;rw [if_neg (fun h => h hk), if_neg hs, if_neg (by rw [hn]; decide), if_pos h5]
theorem readP_bad {L : List SignD} {E : Int} {n d p m : Nat} {ks : List ByteArray} {acc : List TreeD} {x : SignD} {f : Flt} (hx : L[p]? = some x) (hk : x.kind = 7) (hs : ¬ 400 < x.text.size) (hn : ks.contains x.text = false) (h5 : kindAt L (p + 1) = 5) (hq : readJ L E n (.value (d + 1)) (p + 2) m = .bad f) : readJ L E (n + 1) (.pairs d ks acc) p m = .bad f := by
 rw [readJ_pairs, hx];simp only;rw [if_neg (fun h => h hk), if_neg hs, if_neg (by rw [hn]; decide), if_neg (fun h => h h5), hq]
theorem readP_good {L : List SignD} {E : Int} {n d p m : Nat} {ks : List ByteArray} {acc : List TreeD} {x : SignD} {t : TreeD} {q m' : Nat} (hx : L[p]? = some x) (hk : x.kind = 7) (hs : ¬ 400 < x.text.size) (hn : ks.contains x.text = false) (h5 : kindAt L (p + 1) = 5) (hq : readJ L E n (.value (d + 1)) (p + 2) m = .good t q m') : readJ L E (n + 1) (.pairs d ks acc) p m =
  if kindAt L q = 2 then .good (tMap (insL ks (posK ks x.text) x.text) (insL acc (posK ks x.text) t)) (q + 1) m'
  else if kindAt L q = 6 then readJ L E n (.pairs d (insL ks (posK ks x.text) x.text) (insL acc (posK ks x.text) t)) (q + 1) m'
  else .bad (badF L E 4 q) := by
 rw [readJ_pairs, hx];simp only;rw [if_neg (fun h => h hk), if_neg hs, if_neg (by rw [hn]; decide), if_neg (fun h => h h5), hq]
open Go.Shelf
def laysBs_ren : Go.Shelf.Ren := ⟨fun | 26 => 183 | 33 => 239 | 34 => 240 | 38 => 264 | n => n, fun | 24 => 31 | 9 => 9 | 3 => 3 | 4 => 4 | 40 => 179 | 0 => 0 | n => n, fun | n => n⟩
theorem laysBs : Go.Proofs.Lays2.n26 Tryz.prog laysBs_ren := {
 mixed := by kernel_rfl
 f26 := Tryz.func183.trans (congrArg some (by kernel_rfl))
 f33 := Tryz.func239.trans (congrArg some (by kernel_rfl))
 f34 := Tryz.func240.trans (congrArg some (by kernel_rfl))
 f38 := Tryz.func264.trans (congrArg some (by kernel_rfl))
 t0 := Tryz.underlying0
 a0 := Tryz.isAgg0
 z0 := Tryz.sizeOf0
 v0 := Tryz.zeroValue0
 t3 := Tryz.underlying3
 a3 := Tryz.isAgg3
 z3 := Tryz.sizeOf3
 v3 := Tryz.zeroValue3
 t4 := Tryz.underlying4
 a4 := Tryz.isAgg4
 z4 := Tryz.sizeOf4
 v4 := Tryz.zeroValue4
 t9 := Tryz.underlying9
 a9 := Tryz.isAgg9
 z9 := Tryz.sizeOf9
 v9 := Tryz.zeroValue9
 t24 := Tryz.underlying31
 a24 := Tryz.isAgg31
 z24 := Tryz.sizeOf31
 v24 := Tryz.zeroValue31
 t40 := Tryz.underlying179
 a40 := Tryz.isAgg179
 z40 := Tryz.sizeOf179
 v40 := Tryz.zeroValue179 }
def laysIs_ren : Go.Shelf.Ren := ⟨fun | 22 => 184 | 29 => 241 | 30 => 242 | 36 => 265 | 17 => 281 | n => n, fun | 24 => 31 | 9 => 9 | 3 => 3 | 4 => 4 | 0 => 0 | n => n, fun | n => n⟩
theorem laysIs : Go.Proofs.Lays2.n22 Tryz.prog laysIs_ren := {
 mixed := by kernel_rfl
 f17 := Tryz.func281.trans (congrArg some (by kernel_rfl))
 f22 := Tryz.func184.trans (congrArg some (by kernel_rfl))
 f29 := Tryz.func241.trans (congrArg some (by kernel_rfl))
 f30 := Tryz.func242.trans (congrArg some (by kernel_rfl))
 f36 := Tryz.func265.trans (congrArg some (by kernel_rfl))
 t0 := Tryz.underlying0
 a0 := Tryz.isAgg0
 z0 := Tryz.sizeOf0
 v0 := Tryz.zeroValue0
 t3 := Tryz.underlying3
 a3 := Tryz.isAgg3
 z3 := Tryz.sizeOf3
 v3 := Tryz.zeroValue3
 t4 := Tryz.underlying4
 a4 := Tryz.isAgg4
 z4 := Tryz.sizeOf4
 v4 := Tryz.zeroValue4
 t9 := Tryz.underlying9
 a9 := Tryz.isAgg9
 z9 := Tryz.sizeOf9
 v9 := Tryz.zeroValue9
 t24 := Tryz.underlying31
 a24 := Tryz.isAgg31
 z24 := Tryz.sizeOf31
 v24 := Tryz.zeroValue31
 i9 := by kernel_rfl }
theorem takeAny_succ {D : Type} (p : D -> Bool) (l : List D) (k : Nat) (d : D) (h : l[k]? = some d) : (l.take (k + 1)).any p = ((l.take k).any p || p d) := by
 rw [List.take_add_one, h]; simp
theorem takeAny_no {D : Type} (p : D -> Bool) (l : List D) (k : Nat) (d : D) (h : l[k]? = some d) (ha : (l.take k).any p = false) (hp : p d = false) : (l.take (k + 1)).any p = false := by
 rw [takeAny_succ p l k d h, ha, hp]; rfl
theorem any_hit {D : Type} (p : D -> Bool) (l : List D) (k : Nat) (d : D) (h : l[k]? = some d) (hp : p d = true) : l.any p = true := by
 rw [List.any_eq_true]; exact ⟨d, List.mem_of_getElem? h, hp⟩
theorem any_end {D : Type} (p : D -> Bool) (l : List D) (ha : (l.take l.length).any p = false) : l.any p = false := by rw [List.take_length] at ha; exact ha
def isS (s x : ByteArray) : Bool := x.toList == s.toList
def hasS (l : List ByteArray) (s : ByteArray) : Bool := l.any (isS s)
theorem c_Index_Str (l : List ByteArray) (s : ByteArray) (v : Value) (w : World) (lo : Nat) (hs : Sl_Str lo w.heap.size w l v) :
  Calls Tryz.prog 198 #[v, .string s] w fun e w' => ∃ ix : Int, e = .returned (.int .i64 ix) /\ decide (ix ≥ 0) = hasS l s /\ -1 <= ix /\ ix <= 9223372036854775807 /\ Below w.heap.size w w' := by
 obtain ⟨A, c, rfl, hlc, hc, hA⟩ := hs;go_enter Tryz.func198, Tryz.ntmps198
 go_wp2_with fail
 go_loopw [8] (fun i wr => ∃ k : Nat, k <= l.length /\ i = .int .i64 k /\ (l.take k).any (isS s) = false /\ Below w.heap.size w wr) (fun i _ => l.length - (intOf i).toNat)
 case atStart => exact ⟨0, Nat.zero_le _, rfl, rfl, bel⟩
 case round =>
  obtain ⟨k, hk, rfl, hall, hbr⟩ := hrel;have Hall := Lib.hid hall;clear hall;by_cases hlt : k < l.length
  ·obtain ⟨b, o, rfl, -, hb2, hcell⟩ := hA (by omega)
   obtain ⟨d, hd⟩ := exists_at hlt;obtain ⟨es, -, hcs, hC⟩ := hcell k d hd;obtain ⟨rfl, ea0⟩ := hC;have hc0 := (hbr.cell (p := ⟨b, o + k * 1 + 0, none⟩) (by simp; omega)).trans (hcs 0 (by omega));simp at hc0;have hbl : b < wr.heap.size := Nat.lt_of_lt_of_le hb2 hbr.size;have hk0 : (0 : Int) <= k := by omega
   have hk1 : (k : Int) < l.length := by omega
   have hq2 : (s.toList == d.toList) = (d.toList == s.toList) := by rw [Bool.eq_iff_iff, beq_iff_eq, beq_iff_eq]; exact eq_comm
   rcases hq : (d.toList == s.toList) with _ | _
   ·have Hn := Lib.hid (takeAny_no (isS s) l k d hd Hall.out hq)
    rw [hq] at hq2;clear hcs hcell hA hd;go_wp2_with fail
    go_roundw
    case rel => exact ⟨k + 1, by omega, by go_num, Hn.out, bel⟩
    case measure => simp [intOf]; omega
   ·have Hh := Lib.hid (show hasS l s = true from any_hit (isS s) l k d hd hq)
    rw [hq] at hq2;clear hcs hcell hA hd;go_wp2_with fail
    go_ret
    exact ⟨_, rfl, by rw [Hh.out]; simp, by omega, by omega, bel⟩
  ·obtain rfl : k = l.length := by omega
   have Hh := Lib.hid (show hasS l s = false from any_end (isS s) l Hall.out);clear hA;go_wp2_with fail
   go_ret
   exact ⟨_, rfl, by rw [Hh.out]; simp, by omega, by omega, bel⟩
theorem c_Contains_Str (l : List ByteArray) (s : ByteArray) (v : Value) (w : World) (lo : Nat) (hs : Sl_Str lo w.heap.size w l v) :
  Calls Tryz.prog 250 #[v, .string s] w fun e w' => e = .returned (.bool (hasS l s)) /\ Below w.heap.size w w' := by
 obtain ⟨A, c, rfl⟩ := hs.form;go_enter Tryz.func250, Tryz.ntmps250
 go_wp2_with (first | (go_at_call 198; refine (c_Index_Str _ _ _ _ _ (Sl_Str.now (by assumption) bel)).mono ?_; rintro e w1 ⟨ix, rfl, hix, hix1, hix2, hb⟩; (first | (have hcu2 := Cum.join hcu hb; (try clear hcu); (try clear hc); (try clear hfz); (try clear hsz); (try clear hs0); (try clear hs1); (try clear hs2); (try clear hs3); (try clear hs4); ) | have hcu2 := Cum.mk hb); have hcu := hcu2; clear hcu2; obtain ⟨hc, hfz⟩ := bcell hcu.h; have hsz := hcu.h.size; (try simp at hsz); (try have hs0 := lt_of_succ_le hsz); (try (have hs1 := lt_pred hsz; (try (have hs2 := lt_pred hs1; (try (have hs3 := lt_pred hs2; (try have hs4 := lt_pred hs3)))))))))
 go_ret
 exact ⟨ret_bool (by simp), bel⟩
def SortK (ks : List ByteArray) : Prop := ks.Pairwise fun a b => lessS a b = true
theorem lessS_trans3 {a b c : ByteArray} (h1 : lessS a b = true) (h2 : lessS b c = true) : lessS a c = true := bless_trans2 _ _ _ h1 h2
theorem lessS_other {a b : ByteArray} (h : lessS a b = false) (hn : a ≠ b) : lessS b a = true := by
 rcases h2 : lessS b a with _ | _
 ·exact absurd (toList_inj (bless_tri _ _ h h2)) hn
 ·rfl
theorem hasS_mem (ks : List ByteArray) (s : ByteArray) : hasS ks s = true ↔ s ∈ ks := by
 unfold hasS isS;rw [List.any_eq_true];constructor
 ·rintro ⟨x, hx, h⟩
  have := toList_inj (beq_iff_eq.1 h)
  rwa [this] at hx
 ·intro h
  exact ⟨s, h, beq_self_eq_true _⟩
theorem beq_BA (a b : ByteArray) : (a == b) = (b.toList == a.toList) := by
 have h : (a == b) = (a.data == b.data) := rfl;rw [h, Bool.eq_iff_iff, beq_iff_eq, beq_iff_eq];constructor
 ·intro e
  rw [ByteArray.ext e]
 ·intro e
  rw [toList_inj e]
theorem contains_hasS : ∀ (ks : List ByteArray) (s : ByteArray), ks.contains s = hasS ks s
 | [], _ => rfl
 | x :: ks, s => by
  rw [List.contains_cons, contains_hasS ks s, beq_BA];rfl
theorem tw_mem {D : Type} {p : D -> Bool} : ∀ {l : List D} {a : D}, a ∈ l.takeWhile p -> p a = true
 | [], a, h => by simp at h
 | x :: l, a, h => by
  rw [List.takeWhile_cons] at h;by_cases hx : p x = true
  ·rw [if_pos hx] at h
   rcases List.mem_cons.1 h with rfl | h
   ·exact hx
   ·exact tw_mem h
  ·rw [if_neg hx] at h
   cases h
theorem posK_le (ks : List ByteArray) (key : ByteArray) : posK ks key <= ks.length := by
 unfold posK;exact (List.takeWhile_sublist _).length_le
theorem posK_take (ks : List ByteArray) (key : ByteArray) : ks.take (posK ks key) = ks.takeWhile (fun k => lessS k key) := by
 unfold posK;have h := List.takeWhile_append_dropWhile (p := fun k => lessS k key) (l := ks)
 conv => lhs; arg 2; rw [<- h]
 exact List.take_left' rfl
theorem posK_drop (ks : List ByteArray) (key : ByteArray) : ks.drop (posK ks key) = ks.dropWhile (fun k => lessS k key) := by
 unfold posK;have h := List.takeWhile_append_dropWhile (p := fun k => lessS k key) (l := ks)
 conv => lhs; arg 2; rw [<- h]
 exact List.drop_left' rfl
theorem posK_less {ks : List ByteArray} {key : ByteArray} {t : Nat} {a : ByteArray} (h : t < posK ks key) (ha : ks[t]? = some a) : lessS a key = true := by
 have h1 : (ks.take (posK ks key))[t]? = some a := by rw [List.getElem?_take, if_pos h]; exact ha
 rw [posK_take] at h1;exact tw_mem (p := fun k => lessS k key) (List.mem_of_getElem? h1)
theorem drop_not : ∀ {ks : List ByteArray} {key : ByteArray}, SortK ks -> ∀ a ∈ ks.dropWhile (fun k => lessS k key), lessS a key = false
 | [], key, _, a, ha => by simp at ha
 | x :: ks, key, hs, a, ha => by
  rw [List.dropWhile_cons] at ha;by_cases hx : lessS x key = true
  ·rw [if_pos hx] at ha
   exact drop_not (List.Pairwise.of_cons hs) a ha
  ·rw [if_neg hx] at ha
   have hx0 : lessS x key = false := by simpa using hx
   rcases List.mem_cons.1 ha with rfl | ha
   ·exact hx0
   ·have h1 := (List.pairwise_cons.1 hs).1 a ha
    rcases h2 : lessS a key with _ | _
    ·rfl
    ·rw [lessS_trans3 h1 h2] at hx0; cases hx0
theorem posK_not {ks : List ByteArray} {key : ByteArray} {t : Nat} {a : ByteArray} (hs : SortK ks) (h : posK ks key <= t) (ha : ks[t]? = some a) : lessS a key = false := by
 refine drop_not hs a ?_;rw [<- posK_drop];refine List.mem_of_getElem? (i := t - posK ks key) ?_;rw [List.getElem?_drop, show posK ks key + (t - posK ks key) = t by omega];exact ha
theorem ins_sorted {ks : List ByteArray} {key : ByteArray} (hs : SortK ks) (hn : hasS ks key = false) : SortK (insL ks (posK ks key) key) := by
 have hnm : key ∉ ks := fun h => by rw [(hasS_mem ks key).2 h] at hn; cases hn
 unfold SortK insL;rw [List.pairwise_append];refine ⟨List.Pairwise.sublist (List.take_sublist _ _) hs, List.pairwise_cons.2 ⟨fun a ha => ?_, List.Pairwise.sublist (List.drop_sublist _ _) hs⟩, fun a ha b hb => ?_⟩
 ·have hm := List.mem_of_mem_drop ha
  rw [posK_drop] at ha;exact lessS_other (drop_not hs a ha) (fun e => hnm (by rw [<- e]; exact hm))
 ·have hl : lessS a key = true := by rw [posK_take] at ha; exact tw_mem (p := fun k => lessS k key) ha
  rcases List.mem_cons.1 hb with rfl | hb
  ·exact hl
  ·have hm := List.mem_of_mem_drop hb
   rw [posK_drop] at hb;exact lessS_trans3 hl (lessS_other (drop_not hs b hb) (fun e => hnm (by rw [<- e]; exact hm)))
theorem ins_len {D : Type} {l : List D} {i : Nat} {x : D} (h : i <= l.length) : (insL l i x).length = l.length + 1 := by
 unfold insL;rw [List.length_append, List.length_cons, List.length_take, List.length_drop];omega
theorem c_BinarySearch (ks : List ByteArray) (key : ByteArray) (v : Value) (w : World) (lo : Nat) (hs : Sl_Str lo w.heap.size w ks v) (hso : SortK ks) (hn : ks.length <= 1048577) :
  Calls Tryz.prog 183 #[v, .string key] w fun e w' => ∃ z : Bool, e = .returned (.tuple #[.int .i64 (posK ks key : Nat), .bool z]) /\ Below w.heap.size w w' := by
 obtain ⟨A, c, rfl, hlc, hcc, hA⟩ := hs;by_cases hp : 0 < ks.length
 ·obtain ⟨b, o, rfl, -, -, hcell⟩ := hA hp
  have h := Any2.slices_BinarySearch_string laysBs b o ks.length c (fun t => (ks[t]?).getD key) key w (by omega) (fun j hj => by
   obtain ⟨d, hd⟩ := exists_at hj;obtain ⟨es, -, hcs, rfl, -⟩ := hcell j d hd;have h0 := hcs 0 (by omega);simp at h0;rw [hd]
   exact h0)
  change Calls Tryz.prog 183 _ _ _ at h
  refine h.mono ?_;rintro e w' ⟨rfl, q, rfl⟩
  have hb := Lib.bsGo_spec (fun t => Op.bytesLess ((ks[t]?).getD key).toList key.toList) (posK ks key) (fun t ht => by
    have hl := posK_le ks key;obtain ⟨d, hd⟩ := exists_at (l := ks) (k := t) (by omega);simp only [hd, Option.getD_some]
    exact posK_less ht hd) (fun t ht => by
    rcases hd : ks[t]? with _ | d
    ·simp only [Option.getD_none]
     exact bless_self _
    ·simp only [Option.getD_some]
     exact posK_not hso ht hd) ks.length 0 ks.length (by omega) (Nat.zero_le _) (posK_le _ _)
  rw [hb];exact ⟨_, rfl, below_drewN (Below.refl _ _) _⟩
 ·obtain rfl : ks = [] := List.eq_nil_of_length_eq_zero (by omega)
  have h := Any2.slices_BinarySearch_string_empty laysBs A c key w;change Calls Tryz.prog 183 _ _ _ at h
  refine h.mono ?_;rintro e w' ⟨rfl, rfl⟩;exact ⟨_, rfl, Below.refl _ _⟩
end Go.Proofs.YtohcpifekcehjaaGreatDoor
