/- Steps to FnCrossed. No conditions. -/
import Derived.Test.YtohcpifekcehjaaGreatDoorKfcr7
import Derived.Test.YtohcpifekcehjaaGreatDoorKfcr6
import Derived.Test.YtohcpifekcehjaaGreatDoorKfcr1
import Derived.Test.YtohcpifekcehjaaGreatDoorKfcr4
import Derived.Deep.RegionLaw
import Derived.Deep.CutBlock
import Derived.Deep.CutRange
import Derived.Lib.LazyBuf
set_option maxHeartbeats 16000000
set_option maxRecDepth 20000
namespace Go.Proofs.YtohcpifekcehjaaGreatDoor
open Go.RowKit Go.Lib
def Tok (L : List SignD) (p : Nat) (T : List Tk) : Prop := (L.drop p).map skT = T
theorem Tok.at' {L : List SignD} {p : Nat} {t : Tk} {r : List Tk} (h : Tok L p (t :: r)) : (∃ x, L[p]? = some x /\ x.kind = t.1 /\ x.text = t.2.1 /\ x.num = t.2.2) /\ kindAt L p = t.1 /\ Tok L (p + 1) r := by
 unfold Tok at h;rcases hd : L.drop p with _ | ⟨x, l⟩
 ·rw [hd] at h; cases h
 ·rw [hd, List.map_cons] at h
  injection h with h1 h2
  have hx : L[p]? = some x := by
   have h3 := congrArg (fun z : List SignD => z[0]?) hd;simp only [List.getElem?_drop, Nat.add_zero, List.getElem?_cons_zero] at h3;exact h3
  have hr : Tok L (p + 1) r := by
   unfold Tok;rw [<- List.drop_drop, hd];exact h2
  subst h1;refine ⟨⟨x, hx, rfl, rfl, rfl⟩, ?_, hr⟩;unfold kindAt;rw [hx];rfl
theorem Tok.app {L : List SignD} {p : Nat} {a b : List Tk} (h : Tok L p (a ++ b)) : Tok L (p + a.length) b := by
 unfold Tok at h ⊢;rw [<- List.drop_drop, List.map_drop, h, List.drop_left]
theorem key_less {n : Nat} {d : TreeD} (h : shapeT (n + 1) d = true) : ∀ (j i : Nat) (a b : ByteArray), i < j -> d.keys[i]? = some a -> d.keys[j]? = some b -> lessS a b = true := by
 intro j;induction j with
 | zero => intro i a b hi; omega
 | succ j ih =>
  intro i a b hi ha hb;have hj := (List.getElem?_eq_some_iff.1 hb).1;obtain ⟨c, hc⟩ := exists_at (show j < d.keys.length by omega);have h1 := (shape_parts h).2.2.2.1 (j + 1) hj;rw [keyOk_succ hb hc] at h1;simp only [Bool.and_eq_true] at h1;rcases Nat.lt_or_ge i j with hij | hij
  ·exact lessS_trans3 (ih i a c hij ha hc) h1.2
  ·obtain rfl : i = j := by omega
   rw [ha] at hc;obtain rfl := Option.some.inj hc;exact h1.2
theorem tw_all {D : Type} {p : D -> Bool} : ∀ {l : List D}, (∀ x ∈ l, p x = true) -> l.takeWhile p = l
 | [], _ => rfl
 | x :: l, h => by rw [List.takeWhile_cons, if_pos (h x (by simp)), tw_all (fun y hy => h y (by simp [hy]))]
theorem posK_last {ks : List ByteArray} {key : ByteArray} (h : ∀ k ∈ ks, lessS k key = true) : posK ks key = ks.length := by
 unfold posK;rw [tw_all h]
theorem insL_last {D : Type} (l : List D) (x : D) : insL l l.length x = l ++ [x] := by
 unfold insL;rw [List.take_length, List.drop_length]
theorem not_contains {ks : List ByteArray} {key : ByteArray} (h : ∀ k ∈ ks, lessS k key = true) : ks.contains key = false := by
 rcases hc : ks.contains key with _ | _
 ·rfl
 ·rw [contains_hasS] at hc
  have h1 := h key ((hasS_mem ks key).1 hc);rw [lessS_irrefl] at h1;cases h1
theorem bad_parts {d : TreeD} (h : badH d = false) : (1 <= d.kind /\ d.kind <= 6) /\ (d.kind ≠ 2 -> d.flag = false) /\ (d.kind ≠ 3 -> d.num = 0) /\ (d.kind ≠ 4 -> d.text = ⟨#[]⟩) /\ (d.kind ≠ 6 -> d.keys = []) /\ (d.kind < 5 -> d.kids = []) := by
 unfold badH at h;simp only [Bool.or_eq_false_iff, Bool.not_eq_false', Bool.and_eq_false_iff, bne_eq_false_iff_eq, decide_eq_false_iff_not, Nat.not_lt, Nat.le_zero, List.length_eq_zero_iff] at h;obtain ⟨⟨⟨⟨⟨h1, h2⟩, h3⟩, h4⟩, h5⟩, h6⟩ := h;refine ⟨by unfold inB at h1; exact of_decide_eq_true h1, fun hk => h2.resolve_right hk, fun hk => h3.resolve_right hk, fun hk => ?_, fun hk => h5.resolve_right hk, fun hk => h6.resolve_right (by omega)⟩
 have h7 := h4.resolve_right hk;rw [List.isEmpty_iff, ByteArray.toList_eq] at h7;exact ByteArray.ext (Array.toList_inj.1 h7)
theorem tk_pos {n : Nat} {d : TreeD} (h : shapeT n d = true) : 1 <= (tkL n d).length := by
 cases n with
 | zero => cases h
 | succ n =>
  rw [tkL_succ];repeat' split
  all_goals simp
theorem first_kind {n p : Nat} {d : TreeD} {L : List SignD} {rest : List Tk} (h : shapeT n d = true) (hT : Tok L p (tkL n d ++ rest)) : kindAt L p ≠ 4 := by
 cases n with
 | zero => cases h
 | succ n =>
  rw [tkL_succ] at hT;by_cases c1 : d.kind = 1
  ·rw [if_pos c1] at hT; rw [(Tok.at' hT).2.1]; decide
  rw [if_neg c1] at hT;by_cases c2 : d.kind = 2
  ·rw [if_pos c2] at hT
   cases hfl : d.flag with
   | true => rw [hfl] at hT; rw [(Tok.at' (t := mk 9) hT).2.1]; decide
   | false => rw [hfl] at hT; rw [(Tok.at' (t := mk 10) hT).2.1]; decide
  rw [if_neg c2] at hT;by_cases c3 : d.kind = 3
  ·rw [if_pos c3] at hT; rw [(Tok.at' hT).2.1]; simp
  rw [if_neg c3] at hT;by_cases c4 : d.kind = 4
  ·rw [if_pos c4] at hT; rw [(Tok.at' hT).2.1]; simp
  rw [if_neg c4] at hT;by_cases c5 : d.kind = 5
  ·rw [if_pos c5] at hT; rw [(Tok.at' (t := mk 3) hT).2.1]; decide
  ·rw [if_neg c5] at hT; rw [(Tok.at' (t := mk 1) hT).2.1]; decide
def BackT (n : Nat) (d : TreeD) : Prop := ∀ (L : List SignD) (E : Int) (p m fuel deep : Nat) (rest : List Tk), Tok L p (tkL n d ++ rest) -> deep + depthT n d <= 9 -> m + sizeT n d <= 300 -> (tkL n d).length <= fuel ->
  readJ L E fuel (.value deep) p m = .good d (p + (tkL n d).length) (m + sizeT n d)
theorem seq_kids {D : Type} {l : List D} {k : Nat} {t : D} (h : l[k]? = some t) : l.drop k = t :: l.drop (k + 1) := by
 obtain ⟨h1, h2⟩ := List.getElem?_eq_some_iff.1 h;rw [List.drop_eq_getElem_cons h1, h2]
theorem list_back {n : Nat} {l : List TreeD} (hb : ∀ t ∈ l, BackT n t) (hp : ∀ t ∈ l, 1 <= (tkL n t).length) : ∀ (r k : Nat) (t : TreeD), l[k]? = some t -> k + r + 1 = l.length -> ∀ (L : List SignD) (E : Int) (p m fuel deep : Nat) (rest : List Tk),
  Tok L p (tkL n t ++ (seqP (pieceP [mk 6] (fun _ => []) (tkL n) l) (k + 1) r ++ mk 4 :: rest)) -> (∀ t ∈ l, deep + 1 + depthT n t <= 9) -> m + szL (sizeT n) (l.drop k) <= 300 -> (tkL n t).length + (seqP (pieceP [mk 6] (fun _ => []) (tkL n) l) (k + 1) r).length + 1 <= fuel ->
  readJ L E fuel (.list deep (l.take k)) p m = .good (tList l) (p + (tkL n t).length + (seqP (pieceP [mk 6] (fun _ => []) (tkL n) l) (k + 1) r).length + 1) (m + szL (sizeT n) (l.drop k)) := by
 intro r;induction r with
 | zero =>
  intro k t hk hkr L E p m fuel deep rest hT hd hm hf;obtain ⟨f, rfl⟩ : ∃ f, fuel = f + 1 := ⟨fuel - 1, by omega⟩
  have htm := List.mem_of_getElem? hk
  have hsz : szL (sizeT n) (l.drop k) = sizeT n t := by
   rw [seq_kids hk, List.drop_of_length_le (by omega)];simp [szL]
  have hv := hb t htm L E p m f (deep + 1) _ hT (hd t htm) (by omega) (by simp only [seqP, List.length_nil] at hf; omega);have h2 := hT.app;simp only [seqP, List.nil_append] at h2;have h3 := h2.at'.2.1;rw [readJ_list, hv];simp only;rw [if_pos (show kindAt L (p + (tkL n t).length) = 4 from h3), hsz];have hl : l.take k ++ [t] = l := by rw [<- take_next hk, List.take_of_length_le (by omega)]
  rw [hl];rfl
 | succ r ih =>
  intro k t hk hkr L E p m fuel deep rest hT hd hm hf;obtain ⟨f, rfl⟩ : ∃ f, fuel = f + 1 := ⟨fuel - 1, by omega⟩
  have htm := List.mem_of_getElem? hk;obtain ⟨u, hu⟩ := exists_at (show k + 1 < l.length by omega)
  have hsz : szL (sizeT n) (l.drop k) = sizeT n t + szL (sizeT n) (l.drop (k + 1)) := by
   rw [seq_kids hk];simp [szL]
  rw [seqP_succ, piece_some hu, if_neg (by omega)] at hT hf ⊢;simp only [List.append_nil, List.cons_append, List.nil_append, List.length_append, List.length_cons, List.append_assoc] at hT hf ⊢;have hv := hb t htm L E p m f (deep + 1) _ hT (hd t htm) (by omega) (by omega);have h2 := hT.app;have h3 := h2.at';have htp := hp t htm;rw [readJ_list, hv];simp only;rw [if_neg (by rw [h3.2.1]; decide), if_pos (show kindAt L (p + (tkL n t).length) = 6 from h3.2.1), <- take_next hk]
  rw [ih (k + 1) u hu (by omega) L E (p + (tkL n t).length + 1) (m + sizeT n t) f deep rest h3.2.2 hd (by omega) (by omega), hsz];congr 1
  ·omega
  ·omega
theorem pairs_back {n : Nat} {ks : List ByteArray} {l : List TreeD} (hb : ∀ t ∈ l, BackT n t) (hp : ∀ t ∈ l, 1 <= (tkL n t).length) (hlen : ks.length = l.length) (hks : ∀ k ∈ ks, k.size <= 400) (hless : ∀ (j i : Nat) (a b : ByteArray), i < j -> ks[i]? = some a -> ks[j]? = some b -> lessS a b = true) : ∀ (r k : Nat) (key : ByteArray) (t : TreeD), ks[k]? = some key -> l[k]? = some t -> k + r + 1 = l.length -> ∀ (L : List SignD) (E : Int) (p m fuel deep : Nat) (rest : List Tk),
  Tok L p ((7, key, 0) :: mk 5 :: (tkL n t ++ (seqP (pieceP [mk 6] (tkPre ks) (tkL n) l) (k + 1) r ++ mk 2 :: rest))) -> (∀ t ∈ l, deep + 1 + depthT n t <= 9) -> m + szL (sizeT n) (l.drop k) <= 300 -> 2 + (tkL n t).length + (seqP (pieceP [mk 6] (tkPre ks) (tkL n) l) (k + 1) r).length + 1 <= fuel ->
  readJ L E fuel (.pairs deep (ks.take k) (l.take k)) p m = .good (tMap ks l) (p + 2 + (tkL n t).length + (seqP (pieceP [mk 6] (tkPre ks) (tkL n) l) (k + 1) r).length + 1) (m + szL (sizeT n) (l.drop k)) := by
 intro r;induction r with
 | zero =>
  intro k key t hkey hk hkr L E p m fuel deep rest hT hd hm hf;obtain ⟨f, rfl⟩ : ∃ f, fuel = f + 1 := ⟨fuel - 1, by omega⟩
  have htm := List.mem_of_getElem? hk
  have hlk : ∀ x ∈ ks.take k, lessS x key = true := fun x hx => by
   obtain ⟨i, hi⟩ := List.getElem?_of_mem hx;rw [List.getElem?_take] at hi;split at hi
   ·exact hless k i x key (by omega) hi hkey
   ·cases hi
  have hsz : szL (sizeT n) (l.drop k) = sizeT n t := by
   rw [seq_kids hk, List.drop_of_length_le (by omega)];simp [szL]
  obtain ⟨⟨x, hx, hx1, hx2, -⟩, -, hT1⟩ := hT.at';obtain ⟨-, hk5, hT2⟩ := hT1.at';have hv := hb t htm L E (p + 2) m f (deep + 1) _ hT2 (hd t htm) (by omega) (by omega);have h2 := hT2.app;simp only [seqP, List.nil_append] at h2;have h3 := h2.at'.2.1;have hxt : x.text = key := hx2;have hpk : posK (ks.take k) key = (ks.take k).length := posK_last hlk;have hkl : (ks.take k).length = k := by rw [List.length_take]; omega
  have hll : (l.take k).length = k := by rw [List.length_take]; omega
  rw [readJ_pairs, hx];simp only;rw [if_neg (by rw [hx1]; simp), hxt, if_neg (by have := hks key (List.mem_of_getElem? hkey); omega), if_neg (by rw [not_contains hlk]; decide), if_neg (by rw [hk5]; decide), hv];simp only;rw [if_pos (show kindAt L (p + 2 + (tkL n t).length) = 2 from h3), hpk, insL_last, hkl]
  rw [show insL (l.take k) k t = l.take k ++ [t] by
   have := insL_last (l.take k) t;rw [hll] at this
   exact this, <- take_next hk, <- take_next hkey, List.take_of_length_le (by omega), List.take_of_length_le (by omega), hsz]
  rfl
 | succ r ih =>
  intro k key t hkey hk hkr L E p m fuel deep rest hT hd hm hf;obtain ⟨f, rfl⟩ : ∃ f, fuel = f + 1 := ⟨fuel - 1, by omega⟩
  have htm := List.mem_of_getElem? hk;obtain ⟨u, hu⟩ := exists_at (show k + 1 < l.length by omega);obtain ⟨kv, hkv⟩ := exists_at (show k + 1 < ks.length by omega)
  have hlk : ∀ x ∈ ks.take k, lessS x key = true := fun x hx => by
   obtain ⟨i, hi⟩ := List.getElem?_of_mem hx;rw [List.getElem?_take] at hi;split at hi
   ·exact hless k i x key (by omega) hi hkey
   ·cases hi
  have hsz : szL (sizeT n) (l.drop k) = sizeT n t + szL (sizeT n) (l.drop (k + 1)) := by
   rw [seq_kids hk];simp [szL]
  have htk : tkPre ks (k + 1) = [(7, kv, 0), mk 5] := by unfold tkPre; rw [hkv]
  rw [seqP_succ, piece_some hu, if_neg (by omega), htk] at hT hf ⊢;simp only [List.cons_append, List.nil_append, List.length_append, List.length_cons, List.append_assoc] at hT hf ⊢;obtain ⟨⟨x, hx, hx1, hx2, -⟩, -, hT1⟩ := hT.at';obtain ⟨-, hk5, hT2⟩ := hT1.at';have hv := hb t htm L E (p + 2) m f (deep + 1) _ hT2 (hd t htm) (by omega) (by omega);have h2 := hT2.app;have h3 := h2.at';have htp := hp t htm
  have hxt : x.text = key := hx2;have hpk : posK (ks.take k) key = (ks.take k).length := posK_last hlk;have hkl : (ks.take k).length = k := by rw [List.length_take]; omega
  have hll : (l.take k).length = k := by rw [List.length_take]; omega
  rw [readJ_pairs, hx];simp only;rw [if_neg (by rw [hx1]; simp), hxt, if_neg (by have := hks key (List.mem_of_getElem? hkey); omega), if_neg (by rw [not_contains hlk]; decide), if_neg (by rw [hk5]; decide), hv];simp only;rw [if_neg (by rw [h3.2.1]; decide), if_pos (show kindAt L (p + 2 + (tkL n t).length) = 6 from h3.2.1), hpk, insL_last, hkl]
  rw [show insL (l.take k) k t = l.take k ++ [t] by
   have := insL_last (l.take k) t;rw [hll] at this
   exact this, <- take_next hk, <- take_next hkey]
  rw [ih (k + 1) kv u hkv hu (by omega) L E (p + 2 + (tkL n t).length + 1) (m + sizeT n t) f deep rest h3.2.2 hd (by omega) (by omega), hsz];congr 1
  ·omega
  ·omega
theorem back_tree : ∀ (n : Nat) (d : TreeD), shapeT n d = true -> BackT n d
 | 0, _, h => by cases h
 | n + 1, d, h => by
  have hkid : ∀ t ∈ d.kids, shapeT n t = true /\ depthT n t + 1 <= depthT (n + 1) d := fun t ht => by
   obtain ⟨i, hi⟩ := List.getElem?_of_mem ht;exact ⟨shape_kid h hi, (depth_kid hi).2⟩
  have hb : ∀ t ∈ d.kids, BackT n t := fun t ht => back_tree n t (hkid t ht).1
  have hp : ∀ t ∈ d.kids, 1 <= (tkL n t).length := fun t ht => tk_pos (hkid t ht).1
  obtain ⟨b1, b2, b3, b4, b5, b6⟩ := bad_parts (shape_parts h).1;have hstr := strB_utf (shape_parts h).2.1;have hlen := (shape_parts h).2.2.1
  have hkeys : ∀ k ∈ d.keys, k.size <= 400 := fun k hk => by
   obtain ⟨i, hi⟩ := List.getElem?_of_mem hk;exact shape_key h hi
  have hless := key_less h;intro L E p m fuel deep rest hT hd hm hf;have hd1 : 1 <= depthT (n + 1) d := by rw [depthT_succ]; omega
  have hs1 : 1 <= sizeT (n + 1) d := by rw [sizeT_succ]; omega
  have hdk : ∀ t ∈ d.kids, deep + 1 + depthT n t <= 9 := fun t ht => by have := (hkid t ht).2; omega
  have hf1 := tk_pos h;obtain ⟨f, rfl⟩ : ∃ f, fuel = f + 1 := ⟨fuel - 1, by omega⟩
  have hz0 : d.kids = [] -> sizeT (n + 1) d = 1 := fun e => by rw [sizeT_succ, e]; rfl
  have hzk : sizeT (n + 1) d = 1 + szL (sizeT n) d.kids := sizeT_succ n d;obtain ⟨z, hz⟩ : ∃ z, z = sizeT (n + 1) d := ⟨_, rfl⟩
  rw [<- hz] at hm hs1 hz0 hzk ⊢;have hdeep : deep <= 8 := by omega
  clear hd hd1 hz;rw [tkL_succ] at hT hf ⊢;obtain ⟨kd, fl, nm, tx, ks, kids⟩ := d;simp only at hstr hkid hb hp b1 b2 b3 b4 b5 b6 hkeys hless hdk hz0 hzk hT hf ⊢;by_cases c1 : kd = 1
  ·rw [if_pos c1] at hT hf ⊢
   obtain ⟨⟨x, hx, hx1, hx2, hx3⟩, hk, -⟩ := hT.at';have hk' : kindAt L p = 11 := hk;have hxk : x.kind = 11 := hx1;have hz1 := hz0 (b6 (by omega));rw [b2 (by omega), b3 (by omega), b4 (by omega), b5 (by omega), b6 (by omega), c1, hz1];rw [readJ_value, if_neg (by omega), if_neg (by omega), if_neg (by omega), hx];simp only;rw [if_neg (by omega), if_neg (by omega), if_pos hxk];rfl
  rw [if_neg c1] at hT hf ⊢;by_cases c2 : kd = 2
  ·rw [if_pos c2] at hT hf ⊢
   have hz1 := hz0 (b6 (by omega));rw [b3 (by omega), b4 (by omega), b5 (by omega), b6 (by omega), c2, hz1];cases fl with
   | true =>
    obtain ⟨⟨x, hx, hx1, hx2, hx3⟩, hk, -⟩ := hT.at';have hk' : kindAt L p = 9 := hk;have hxk : x.kind = 9 := hx1;rw [readJ_value, if_neg (by omega), if_neg (by omega), if_neg (by omega), hx];simp only;rw [if_neg (by omega), if_neg (by omega), if_neg (by omega), if_neg (by omega), if_neg (by omega), hxk];rfl
   | false =>
    obtain ⟨⟨x, hx, hx1, hx2, hx3⟩, hk, -⟩ := hT.at';have hk' : kindAt L p = 10 := hk;have hxk : x.kind = 10 := hx1;rw [readJ_value, if_neg (by omega), if_neg (by omega), if_neg (by omega), hx];simp only;rw [if_neg (by omega), if_neg (by omega), if_neg (by omega), if_neg (by omega), if_neg (by omega), hxk];rfl
  rw [if_neg c2] at hT hf ⊢;by_cases c3 : kd = 3
  ·rw [if_pos c3] at hT hf ⊢
   obtain ⟨⟨x, hx, hx1, hx2, hx3⟩, hk, -⟩ := hT.at';have hk' : kindAt L p = 8 := hk;have hxk : x.kind = 8 := hx1;have hxn : x.num = nm := hx3;have hz1 := hz0 (b6 (by omega));rw [b2 (by omega), b4 (by omega), b5 (by omega), b6 (by omega), c3, hz1];rw [readJ_value, if_neg (by omega), if_neg (by omega), if_neg (by omega), hx];simp only;rw [if_neg (by omega), if_pos hxk, hxn];rfl
  rw [if_neg c3] at hT hf ⊢;by_cases c4 : kd = 4
  ·rw [if_pos c4] at hT hf ⊢
   obtain ⟨⟨x, hx, hx1, hx2, hx3⟩, hk, -⟩ := hT.at';have hk' : kindAt L p = 7 := hk;have hxk : x.kind = 7 := hx1;have hxt : x.text = tx := hx2;have hz1 := hz0 (b6 (by omega));rw [b2 (by omega), b3 (by omega), b5 (by omega), b6 (by omega), c4, hz1];rw [readJ_value, if_neg (by omega), if_neg (by omega), if_neg (by omega), hx];simp only;rw [if_pos hxk, hxt, if_neg (by omega)];rfl
  rw [if_neg c4] at hT hf ⊢;by_cases c5 : kd = 5
  ·rw [if_pos c5] at hT hf ⊢
   rw [List.append_assoc, List.append_assoc] at hT;obtain ⟨⟨x, hx, hx1, hx2, hx3⟩, hk, hT1⟩ := Tok.at' (t := mk 3) hT;have hk' : kindAt L p = 3 := hk;have hxk : x.kind = 3 := hx1;rw [b2 (by omega), b3 (by omega), b4 (by omega), b5 (by omega), c5];rw [readJ_value, if_neg (by omega), if_neg (by omega), if_neg (by omega), hx];simp only;rw [if_neg (by omega), if_neg (by omega), if_neg (by omega), if_pos hxk]
   rcases hl : kids with _ | ⟨t, r⟩
   ·rw [hl] at hT1 hz0
    obtain ⟨-, hk2, -⟩ := Tok.at' (t := mk 4) hT1;rw [if_pos (show kindAt L (p + 1) = 4 from hk2), hz0 rfl];rfl
   ·have h0 : kids[0]? = some t := by rw [hl]; rfl
    rw [<- hl];obtain ⟨q, hq⟩ : ∃ q, kids.length = q + 1 := ⟨r.length, by rw [hl]; rfl⟩
    rw [hq, seqP_succ, piece_some h0, if_pos rfl] at hT1 hf ⊢;simp only [List.nil_append, List.append_assoc, List.length_append, List.length_cons, List.length_nil, List.cons_append] at hT1 hf ⊢;have hne : kindAt L (p + 1) ≠ 4 := first_kind (hkid t (List.mem_of_getElem? h0)).1 hT1;rw [if_neg hne];have hb2 := list_back hb hp q 0 t h0 (by omega) L E (p + 1) (m + 1) f deep rest hT1 hdk (by rw [List.drop_zero]; omega) (by omega)
    rw [List.take_zero, List.drop_zero] at hb2;rw [hb2];unfold tList;congr 1
    ·omega
    ·omega
  ·rw [if_neg c5] at hT hf ⊢
   have c6 : kd = 6 := by omega
   rw [List.append_assoc, List.append_assoc] at hT;obtain ⟨⟨x, hx, hx1, hx2, hx3⟩, hk, hT1⟩ := Tok.at' (t := mk 1) hT;have hk' : kindAt L p = 1 := hk;have hxk : x.kind = 1 := hx1
   have hkl : ks.length = kids.length := by
    unfold lensOk at hlen;simp only [Bool.not_eq_true', Bool.and_eq_false_iff, decide_eq_false_iff_not, ne_eq, Decidable.not_not] at hlen;exact hlen.resolve_left (by simp [c6])
   rw [b2 (by omega), b3 (by omega), b4 (by omega), c6];rw [readJ_value, if_neg (by omega), if_neg (by omega), if_neg (by omega), hx];simp only;rw [if_neg (by omega), if_neg (by omega), if_neg (by omega), if_neg (by omega), if_pos hxk];rcases hl : kids with _ | ⟨t, r⟩
   ·rw [hl] at hT1 hz0 hkl
    obtain ⟨-, hk2, -⟩ := Tok.at' (t := mk 2) hT1;rw [if_pos (show kindAt L (p + 1) = 2 from hk2), hz0 rfl, List.length_eq_zero_iff.1 hkl];rfl
   ·have h0 : kids[0]? = some t := by rw [hl]; rfl
    obtain ⟨q, hq⟩ : ∃ q, kids.length = q + 1 := ⟨r.length, by rw [hl]; rfl⟩
    rw [<- hl];obtain ⟨key, hkey⟩ := exists_at (show 0 < ks.length by omega);have htk : tkPre ks 0 = [(7, key, 0), mk 5] := by unfold tkPre; rw [hkey]
    rw [hq, seqP_succ, piece_some h0, if_pos rfl, htk] at hT1 hf ⊢;simp only [List.nil_append, List.append_assoc, List.length_append, List.length_cons, List.length_nil, List.cons_append] at hT1 hf ⊢;have hk7 : kindAt L (p + 1) = 7 := (Tok.at' hT1).2.1;rw [if_neg (by omega)];have hb2 := pairs_back hb hp hkl hkeys hless q 0 key t hkey h0 (by omega) L E (p + 1) (m + 1) f deep rest hT1 hdk (by rw [List.drop_zero]; omega) (by omega)
    rw [List.take_zero, List.take_zero, List.drop_zero] at hb2;rw [hb2];unfold tMap;congr 1
    ·omega
    ·omega
def rdC (A : Option Addr) (n c : Nat) (p : Nat) (E : Int) (m : Nat) (f : Flt) : Array Value := #[.slice A n c, .int .i64 p, .int .i64 E, .int .i64 m, .int .i64 f.code, .int .i64 f.at', .string f.path]
def RdAt (L : List SignD) (E : Int) (b : Nat) (p m : Nat) (f : Flt) (w : World) : Prop :=
 ∃ (A : Option Addr) (c : Nat), w.heap[b]? = some (.cells (rdC A L.length c p E m f) 84 (0, 0)) /\ SignsE 0 w L (.slice A L.length c) /\ ∀ g, (Value.slice A L.length c).ownBlock = some g -> g < b
theorem RdAt.lt {L : List SignD} {E : Int} {b p m : Nat} {f : Flt} {w : World} (h : RdAt L E b p m f w) : b < w.heap.size := by
 obtain ⟨A, c, h1, -, -⟩ := h;exact row_lt h1
theorem RdAt.below {L : List SignD} {E : Int} {b p m : Nat} {f : Flt} {w w' : World} (h : RdAt L E b p m f w) (hb : Below w.heap.size w w') : RdAt L E b p m f w' := by
 obtain ⟨A, c, h1, h2, h3⟩ := h;exact ⟨A, c, (hb.block b (row_lt h1)).trans h1, h2.below hb, h3⟩
theorem row7r {w : World} {b : Nat} {a0 a1 a2 a3 a4 a5 a6 : Value} {e : TypeId} (hr : w.heap[b]? = some (.cells #[a0, a1, a2, a3, a4, a5, a6] e (0, 0))) :
  w.cell? ⟨b, 0, none⟩ = some a0 /\ w.cell? ⟨b, 1, none⟩ = some a1 /\ w.cell? ⟨b, 2, none⟩ = some a2 /\ w.cell? ⟨b, 3, none⟩ = some a3 /\ w.cell? ⟨b, 4, none⟩ = some a4 /\ w.cell? ⟨b, 5, none⟩ = some a5 /\ w.cell? ⟨b, 6, none⟩ = some a6 /\ ∀ o, w.frozen? ⟨b, o, none⟩ = false :=
 ⟨by rw [cell_of_row _ _ _ _ _ _ hr]; rfl, by rw [cell_of_row _ _ _ _ _ _ hr]; rfl, by rw [cell_of_row _ _ _ _ _ _ hr]; rfl, by rw [cell_of_row _ _ _ _ _ _ hr]; rfl, by rw [cell_of_row _ _ _ _ _ _ hr]; rfl, by rw [cell_of_row _ _ _ _ _ _ hr]; rfl, by rw [cell_of_row _ _ _ _ _ _ hr]; rfl, fun o => frozen_row hr o⟩
theorem sign_row {w : World} {L : List SignD} {A : Option Addr} {c p : Nat} (h : SignsE 0 w L (.slice A L.length c)) (hp : p < L.length) :
  ∃ (g : Nat) (x : SignD), A = some ⟨g, 0, none⟩ /\ L[p]? = some x /\ L.length <= c /\ g < w.heap.size /\ w.cell? ⟨g, p * 4, none⟩ = some (.int .i64 x.kind) /\ w.cell? ⟨g, p * 4 + 1, none⟩ = some (.string x.text) /\ w.cell? ⟨g, p * 4 + 2, none⟩ = some (.int .i64 x.num) /\ w.cell? ⟨g, p * 4 + 3, none⟩ = some (.int .i64 x.at') := by
 obtain ⟨g, cap, cur, hv, -, hg, h1, h2, -, h4⟩ := RowE.row encSg_len h (by omega);simp only [Value.slice.injEq] at hv;obtain ⟨rfl, -, rfl⟩ := hv;obtain ⟨x, hx⟩ : ∃ x, L[p]? = some x := ⟨L[p], List.getElem?_eq_getElem hp⟩
 exact ⟨g, x, rfl, hx, h1, row_lt hg, by rw [cell_of_row _ g _ cur _ _ hg]; exact h4 p x hx 0 (by decide), by rw [cell_of_row _ g _ cur _ _ hg]; exact h4 p x hx 1 (by decide), by rw [cell_of_row _ g _ cur _ _ hg]; exact h4 p x hx 2 (by decide), by rw [cell_of_row _ g _ cur _ _ hg]; exact h4 p x hx 3 (by decide)⟩
theorem c_rd_kind (L : List SignD) (E : Int) (b p m : Nat) (f : Flt) (w : World) (hp : p <= 1048577) (h : RdAt L E b p m f w) :
  Calls Tryz.prog 132 #[.pointer (some ⟨b, 0, none⟩)] w fun e w' => e = .returned (.int .i64 (kindAt L p)) /\ Below w.heap.size w w' := by
 obtain ⟨A, c, hbox, hrow, hne⟩ := h;have HB := hid hbox;unfold rdC at hbox;obtain ⟨a0, a1, a2, a3, a4, a5, a6, af⟩ := row7r hbox;have l0 := row_lt hbox;clear hbox;by_cases hlt : (p : Int) < L.length
 ·have hz0 : (0 : Int) <= p := by omega
  have HRow := hid hrow;clear hrow hne;go_enter Tryz.func132, Tryz.ntmps132
  go_wp2_with fail
  refine wp_region_det 10 (by kernel_rfl) (by kernel_rfl) (by decide) ?_
  iterate 3 refine ds ?_
  refine ds ?_
  iterate 3 refine ds ?_
  refine ds ?_
  iterate 2 refine ds ?_
  intro wq hbwq
  (try simp only [Act.put, List.setIfInBounds_toArray, List.set_cons_zero, List.set_cons_succ])
  (try simp only [List.drop_succ_cons, List.drop_nil])
  have hb1 := (hbwq.block b l0).trans HB.out;clear a0 a1 a2 a3 a4 a5 a6 af;obtain ⟨a0, a1, a2, a3, a4, a5, a6, af⟩ := row7r (show wq.heap[b]? = some (.cells #[.slice A L.length c, .int .i64 p, .int .i64 E, .int .i64 m, .int .i64 f.code, .int .i64 f.at', .string f.path] 84 (0, 0)) from hb1);have l1 := row_lt hb1;obtain ⟨g, x, rfl, hx, hlc, lg, d0, d1, d2, d3⟩ := sign_row (p := p) (HRow.out.below hbwq) (by omega)
  have HK := hid (show kindAt L p = x.kind by unfold kindAt; rw [hx]);clear hx hb1;go_wp2_with fail
  refine wp_region_det 11 (by kernel_rfl) (by kernel_rfl) (by decide) ?_
  iterate 3 refine ds ?_
  refine ds ?_
  iterate 3 refine ds ?_
  refine ds ?_
  iterate 2 refine ds ?_
  refine ds ?_;intro wr hbwr
  (try simp only [Act.put, List.setIfInBounds_toArray, List.set_cons_zero, List.set_cons_succ])
  (try simp only [List.drop_succ_cons, List.drop_zero])
  go_wp2_with fail
  exact bodyPost_ret (v := .int .i64 x.kind) (by simp only [results, Tryz.results132]; go_simp) rfl ⟨by rw [HK.out], bel⟩
 ·have HK := hid (show kindAt L p = 0 by unfold kindAt; rw [List.getElem?_eq_none (by omega)])
  clear hrow hne;go_enter Tryz.func132, Tryz.ntmps132
  go_wp2_with fail
  refine wp_region_det 10 (by kernel_rfl) (by kernel_rfl) (by decide) ?_
  iterate 3 refine ds ?_
  refine ds ?_
  iterate 3 refine ds ?_
  refine ds ?_
  iterate 2 refine ds ?_
  intro wq hbwq
  (try simp only [Act.put, List.setIfInBounds_toArray, List.set_cons_zero, List.set_cons_succ])
  (try simp only [List.drop_succ_cons, List.drop_nil])
  go_wp2_with fail
  exact bodyPost_ret (v := .int .i64 0) (by simp only [results, Tryz.results132]; go_simp) rfl ⟨by rw [HK.out], bel⟩
theorem RdAt.poke {L : List SignD} {E : Int} {b p m p' m' : Nat} {f f' : Flt} {w w' : World} (h : RdAt L E b p m f w) (hF : Aside (fun q => q = b) w w') (hset : ∀ A c, w.heap[b]? = some (.cells (rdC A L.length c p E m f) 84 (0, 0)) -> w'.heap[b]? = some (.cells (rdC A L.length c p' E m' f') 84 (0, 0))) : RdAt L E b p' m' f' w' := by
 obtain ⟨A, c, h1, h2, h3⟩ := h;exact ⟨A, c, hset A c h1, h2.carry (fun q hq => hF.block q (World.ownsRow.lt h2 q hq).2 (fun e => absurd (h3 q hq) (by omega))), h3⟩
theorem RdAt.past {L : List SignD} {E : Int} {b p m : Nat} {f : Flt} {w w' : World} {S : Nat -> Prop} (h : RdAt L E b p m f w) (hF : Aside S w w') (hS : ∀ q, S q -> b < q) : RdAt L E b p m f w' := by
 obtain ⟨A, c, h1, h2, h3⟩ := h;exact ⟨A, c, (hF.block b (row_lt h1) (fun h => absurd (hS b h) (Nat.lt_irrefl _))).trans h1, h2.carry (fun q hq => hF.block q (World.ownsRow.lt h2 q hq).2 (fun hs => by have := hS q hs; have := h3 q hq; omega)), h3⟩
theorem set7_1 {w : World} {b : Nat} {a0 a1 a2 a3 a4 a5 a6 u : Value} {e : TypeId} (h : w.heap[b]? = some (.cells #[a0, a1, a2, a3, a4, a5, a6] e (0, 0))) : (w.setCell ⟨b, 1, none⟩ u).heap[b]? = some (.cells #[a0, u, a2, a3, a4, a5, a6] e (0, 0)) := heap_setCell_same w b 1 _ _ u h
theorem set7_4 {w : World} {b : Nat} {a0 a1 a2 a3 a4 a5 a6 u : Value} {e : TypeId} (h : w.heap[b]? = some (.cells #[a0, a1, a2, a3, a4, a5, a6] e (0, 0))) : (w.setCell ⟨b, 4, none⟩ u).heap[b]? = some (.cells #[a0, a1, a2, a3, u, a5, a6] e (0, 0)) := heap_setCell_same w b 4 _ _ u h
theorem set7_5 {w : World} {b : Nat} {a0 a1 a2 a3 a4 a5 a6 u : Value} {e : TypeId} (h : w.heap[b]? = some (.cells #[a0, a1, a2, a3, a4, a5, a6] e (0, 0))) : (w.setCell ⟨b, 5, none⟩ u).heap[b]? = some (.cells #[a0, a1, a2, a3, a4, u, a6] e (0, 0)) := heap_setCell_same w b 5 _ _ u h
theorem set7_6 {w : World} {b : Nat} {a0 a1 a2 a3 a4 a5 a6 u : Value} {e : TypeId} (h : w.heap[b]? = some (.cells #[a0, a1, a2, a3, a4, a5, a6] e (0, 0))) : (w.setCell ⟨b, 6, none⟩ u).heap[b]? = some (.cells #[a0, a1, a2, a3, a4, a5, u] e (0, 0)) := heap_setCell_same w b 6 _ _ u h
theorem c_rd_skip_no (L : List SignD) (E k : Int) (b p m : Nat) (f : Flt) (w : World) (hp : p <= 1048577) (h : RdAt L E b p m f w) (hn : f.code ≠ 0 ∨ kindAt L p ≠ k) :
  Calls Tryz.prog 210 #[.pointer (some ⟨b, 0, none⟩), .int .i64 k] w fun e w' => e = .returned (.bool false) /\ Below w.heap.size w w' := by
 have HRd := hid h;obtain ⟨A, c, hbox, hrow, hne⟩ := h;unfold rdC at hbox;obtain ⟨a0, a1, a2, a3, a4, a5, a6, af⟩ := row7r hbox;have l0 := row_lt hbox;obtain ⟨z, hz⟩ : ∃ z, z = f.code := ⟨_, rfl⟩
 rw [<- hz] at a4 hn;clear hbox hrow hne hz;by_cases hc : z = 0
 ·have hk : kindAt L p ≠ k := hn.resolve_left (fun e => e hc)
  obtain rfl := hc;obtain ⟨t, ht⟩ : ∃ t, t = kindAt L p := ⟨_, rfl⟩
  rw [<- ht] at hk;have HT := hid ht;have d1 : (t != k) = true := bne_iff_ne.2 hk;have d2 : (t == k) = false := beq_eq_false_iff_ne.2 hk;clear ht hk hn;go_enter Tryz.func210, Tryz.ntmps210
  go_wp2_with (go_at_call 132; refine (c_rd_kind L E b p m f _ hp HRd.out).mono ?_; rintro e w1 ⟨rfl, hb1⟩; rw [<- HT.out])
  go_ret
  exact ⟨rfl, bel⟩
 ·have d1 : (z != 0) = true := bne_iff_ne.2 hc
  have d2 : (z == 0) = false := beq_eq_false_iff_ne.2 hc;clear hc hn;go_enter Tryz.func210, Tryz.ntmps210
  go_wp2_with fail
  go_ret
  exact ⟨rfl, bel⟩
theorem c_rd_skip_yes (L : List SignD) (E k : Int) (b p m : Nat) (f : Flt) (w : World) (hp : p <= 1048577) (h : RdAt L E b p m f w) (hf : f.code = 0) (hk : kindAt L p = k) :
  Calls Tryz.prog 210 #[.pointer (some ⟨b, 0, none⟩), .int .i64 k] w fun e w' => e = .returned (.bool true) /\ RdAt L E b (p + 1) m f w' /\ Aside (fun q => q = b) w w' := by
 have HRd := hid h;obtain ⟨A, c, hbox, hrow, hne⟩ := h;have HBx := hid hbox;unfold rdC at hbox;obtain ⟨a0, a1, a2, a3, a4, a5, a6, af⟩ := row7r hbox;have l0 := row_lt hbox;rw [hf] at a4;have HK := hid hk;clear hbox hrow hne hf hk;go_enter Tryz.func210, Tryz.ntmps210
 go_wp2_with (go_at_call 132; refine (c_rd_kind L E b p m f _ hp HRd.out).mono ?_; rintro e w1 ⟨rfl, hb1⟩; rw [HK.out]; have hx1 := (hb1.block b l0).trans HBx.out; have HX1 := hid hx1; have HB1 := hid hb1; clear a0 a1 a2 a3 a4 a5 a6 af; obtain ⟨a0, a1, a2, a3, a4, a5, a6, af⟩ := row7r (show w1.heap[b]? = some (.cells #[.slice A L.length c, .int .i64 p, .int .i64 E, .int .i64 m, .int .i64 f.code, .int .i64 f.at', .string f.path] 84 (0, 0)) from hx1); have l1 := row_lt hx1; clear hx1)
 have hF : Aside (fun q => q = b) w1 (w1.setCell ⟨b, 1, none⟩ (.int .i64 ((p : Int) + 1))) := aside_set rfl (Aside.refl _ _);have hR := RdAt.poke (p' := p + 1) (m' := m) (f' := f) (HRd.out.below HB1.out) hF (fun A c h => by unfold rdC at h ⊢; exact set7_1 h);have HF := hid ((Aside.of_below (S := fun q => q = b) HB1.out).trans hF);have HR := hid hR;clear hF hR;go_ret
 exact ⟨rfl, HR.out, HF.out⟩
theorem c_rd_fail_old (L : List SignD) (E k : Int) (b p m : Nat) (f : Flt) (w : World) (h : RdAt L E b p m f w) (hf : f.code ≠ 0) :
  Calls Tryz.prog 74 #[.pointer (some ⟨b, 0, none⟩), .int .i64 k] w fun e w' => e = .returned (.tuple #[]) /\ Below w.heap.size w w' := by
 obtain ⟨A, c, hbox, hrow, hne⟩ := h;unfold rdC at hbox;obtain ⟨a0, a1, a2, a3, a4, a5, a6, af⟩ := row7r hbox;have l0 := row_lt hbox;obtain ⟨z, hz⟩ : ∃ z, z = f.code := ⟨_, rfl⟩
 rw [<- hz] at a4 hf;have d1 : (z != 0) = true := bne_iff_ne.2 hf;have d2 : (z == 0) = false := beq_eq_false_iff_ne.2 hf;clear hbox hrow hne hz hf;go_enter Tryz.func74, Tryz.ntmps74
 go_wp2_with fail
 exact bodyPost_ret (v := .tuple #[]) (by simp only [results, Tryz.results74]; go_simp) rfl ⟨rfl, bel⟩
theorem c_rd_fail_new (L : List SignD) (E k : Int) (b p m : Nat) (f : Flt) (w : World) (hp : p <= 1048577) (h : RdAt L E b p m f w) (hf : f.code = 0) :
  Calls Tryz.prog 74 #[.pointer (some ⟨b, 0, none⟩), .int .i64 k] w fun e w' => e = .returned (.tuple #[]) /\ RdAt L E b p m (badF L E k p) w' /\ Aside (fun q => q = b) w w' := by
 have HRd := hid h;obtain ⟨A, c, hbox, hrow, hne⟩ := h;have HBx := hid hbox;unfold rdC at hbox;obtain ⟨a0, a1, a2, a3, a4, a5, a6, af⟩ := row7r hbox;have HB0 := hid hbox;have l0 := row_lt hbox;rw [hf] at a4;clear hbox hrow hne hf;obtain ⟨wf, hwf⟩ : ∃ wf, wf = ((w.setCell ⟨b, 4, none⟩ (.int .i64 k)).setCell ⟨b, 5, none⟩ (.int .i64 E)).setCell ⟨b, 6, none⟩ (.string ⟨#[]⟩) := ⟨_, rfl⟩
 have hF : Aside (fun q => q = b) w wf := by rw [hwf]; exact aside_set rfl (aside_set rfl (aside_set rfl (Aside.refl _ _)))
 have hx : wf.heap[b]? = some (.cells #[.slice A L.length c, .int .i64 p, .int .i64 E, .int .i64 m, .int .i64 k, .int .i64 E, .string ⟨#[]⟩] 84 (0, 0)) := by rw [hwf]; exact set7_6 (set7_5 (set7_4 HB0.out))
 have hR : RdAt L E b p m ⟨k, E, ⟨#[]⟩⟩ wf := RdAt.poke HRd.out hF (fun A' c' h' => by rw [hwf]; unfold rdC at h' ⊢; exact set7_6 (set7_5 (set7_4 h')));have HF := hid hF;have HX := hid hx;have HR := hid hR;have HW := hid hwf;clear hF hx hR hwf;by_cases hlt : (p : Int) < L.length
 ·have hz0 : (0 : Int) <= p := by omega
  go_enter Tryz.func74, Tryz.ntmps74
  go_wp2_with fail
  rw [<- HW.out];clear a0 a1 a2 a3 a4 a5 a6 af;obtain ⟨a0, a1, a2, a3, a4, a5, a6, af⟩ := row7r HX.out;have l1 := row_lt HX.out;refine wp_region_det 10 (by kernel_rfl) (by kernel_rfl) (by decide) ?_
  iterate 3 refine ds ?_
  refine ds ?_
  iterate 3 refine ds ?_
  refine ds ?_
  iterate 2 refine ds ?_
  intro wq hbwq
  (try simp only [Act.put, List.setIfInBounds_toArray, List.set_cons_zero, List.set_cons_succ])
  (try simp only [List.drop_succ_cons, List.drop_nil])
  have hb1 := (hbwq.block b l1).trans HX.out;have HBq := hid hbwq;clear a0 a1 a2 a3 a4 a5 a6 af;obtain ⟨a0, a1, a2, a3, a4, a5, a6, af⟩ := row7r hb1;have l2 := row_lt hb1;have HRq := hid (HR.out.below hbwq);obtain ⟨A2, c2, hq1, hq2, hq3⟩ := HRq.out
  obtain ⟨rfl, rfl⟩ : A2 = A /\ c2 = c := by
   have := hb1.symm.trans hq1;unfold rdC at this;simp at this;exact ⟨this.1.symm, this.2.symm⟩
  obtain ⟨g, x, rfl, hx, hlc, lg, d0, d1, d2, d3⟩ := sign_row (p := p) hq2 (by omega);have HP := hid (show badF L E k p = ⟨k, x.at', ⟨#[]⟩⟩ by unfold badF placeAt; rw [hx]);clear hx hb1 hq1 hq2 hq3;go_wp2_with fail
  go_region_law (fail)
  all_goals
   (try go_wp2_with fail)
   have hF2 : Aside (fun q => q = b) wq (wq.setCell ⟨b, 5, none⟩ (.int .i64 x.at')) := aside_set rfl (Aside.refl _ _);have hR2 := RdAt.poke (p' := p) (m' := m) (f' := ⟨k, x.at', ⟨#[]⟩⟩) HRq.out hF2 (fun A' c' h' => by unfold rdC at h' ⊢; exact set7_5 h');have hD : Below (wq.setCell ⟨b, 5, none⟩ (.int .i64 x.at')).heap.size (wq.setCell ⟨b, 5, none⟩ (.int .i64 x.at')) (wq.setCell ⟨b, 5, none⟩ (.int .i64 x.at')).drew := bel
   exact bodyPost_end (v := .tuple #[]) (by simp only [results, Tryz.results74]; go_simp) rfl ⟨rfl, by rw [HP.out]; exact hR2.below hD, HF.out.trans ((Aside.of_below HBq.out).trans (hF2.trans (Aside.of_below hD)))⟩
 ·have HP := hid (show badF L E k p = ⟨k, E, ⟨#[]⟩⟩ by unfold badF placeAt; rw [List.getElem?_eq_none (by omega)])
  go_enter Tryz.func74, Tryz.ntmps74
  go_wp2_with fail
  rw [<- HW.out];clear a0 a1 a2 a3 a4 a5 a6 af;obtain ⟨a0, a1, a2, a3, a4, a5, a6, af⟩ := row7r HX.out;have l1 := row_lt HX.out;refine wp_region_det 10 (by kernel_rfl) (by kernel_rfl) (by decide) ?_
  iterate 3 refine ds ?_
  refine ds ?_
  iterate 3 refine ds ?_
  refine ds ?_
  iterate 2 refine ds ?_
  intro wq hbwq
  (try simp only [Act.put, List.setIfInBounds_toArray, List.set_cons_zero, List.set_cons_succ])
  (try simp only [List.drop_succ_cons, List.drop_nil])
  have HRq := hid (HR.out.below hbwq);have HBq := hid hbwq;go_wp2_with fail
  exact bodyPost_end (v := .tuple #[]) (by simp only [results, Tryz.results74]; go_simp) rfl ⟨rfl, by rw [HP.out]; exact HRq.out, HF.out.trans (Aside.of_below HBq.out)⟩
theorem aside_below {S : Nat -> Prop} {a b c : World} (h : Aside S a b) (hb : Below b.heap.size b c) : Aside S a c := h.trans (Aside.of_below hb)
theorem c_rd_key_kind (L : List SignD) (E : Int) (b p m : Nat) (f : Flt) (v : Value) (w : World) (hp : p <= 1048577) (h : RdAt L E b p m f w) (hf : f.code = 0) (hk : kindAt L p ≠ 7) :
  Calls Tryz.prog 211 #[.pointer (some ⟨b, 0, none⟩), v] w fun e w' => e = .returned (.string ⟨#[]⟩) /\ RdAt L E b p m (badF L E 4 p) w' /\ Aside (fun q => q = b) w w' := by
 have HRd := hid h;obtain ⟨t, ht⟩ : ∃ t, t = kindAt L p := ⟨_, rfl⟩
 rw [<- ht] at hk;have HT := hid ht;have HFl := hid hf;have d1 : (t != 7) = true := bne_iff_ne.2 hk;have d2 : (t == 7) = false := beq_eq_false_iff_ne.2 hk;clear ht hk h hf;go_enter Tryz.func211, Tryz.ntmps211
 go_wp2_with fail
 refine (c_rd_kind L E b p m f _ hp HRd.out).mono ?_;rintro e w1 ⟨rfl, hb1⟩;rw [<- HT.out];have HR1 := hid (HRd.out.below hb1);have HB1 := hid hb1;clear hb1;go_wp2_with fail
 refine (c_rd_fail_new L E 4 b p m f _ hp HR1.out HFl.out).mono ?_;rintro e w2 ⟨rfl, hR2, hA2⟩;have HR2 := hid hR2;have HA2 := hid ((Aside.of_below HB1.out).trans hA2);clear hR2 hA2;go_wp2_with fail
 go_ret
 exact ⟨rfl, HR2.out, HA2.out⟩
def keyF (L : List SignD) (E : Int) (ks : List ByteArray) (p : Nat) (x : SignD) (f : Flt) : Flt := if 400 < x.text.size then badF L E 8 p else if hasS ks x.text = true then badF L E 5 p else f
theorem c_rd_key (L : List SignD) (E : Int) (b p m lo : Nat) (f : Flt) (ks : List ByteArray) (v : Value) (x : SignD) (w : World) (hp : p <= 1048576) (h : RdAt L E b p m f w) (hf : f.code = 0) (hx : L[p]? = some x) (hk : x.kind = 7) (hsz : x.text.size <= 1048576)
  (hks : ∀ w', Aside (fun q => q = b) w w' -> Sl_Str lo w'.heap.size w' ks v) :
  Calls Tryz.prog 211 #[.pointer (some ⟨b, 0, none⟩), v] w fun e w' => e = .returned (.string x.text) /\ RdAt L E b (p + 1) m (keyF L E ks p x f) w' /\ Aside (fun q => q = b) w w' := by
 have HRd := hid h;have HK := hid (show kindAt L p = 7 by unfold kindAt; rw [hx]; exact hk);have HFl := hid hf;have HX := hid hx;have hpl : p < L.length := (List.getElem?_eq_some_iff.1 hx).1;obtain ⟨t, ht⟩ : ∃ t, t = x.text := ⟨_, rfl⟩
 have HXt := hid ht;rw [<- ht] at hsz;have hz0 : (0 : Int) <= p := by omega
 have hz1 : (p : Int) < L.length := by omega
 have HKs := hid hks;clear h hf hx hk ht hks;go_enter Tryz.func211, Tryz.ntmps211
 go_wp2_with fail
 refine (c_rd_kind L E b p m f _ (by omega) HRd.out).mono ?_;rintro e w1 ⟨rfl, hb1⟩;rw [HK.out];have HR1 := hid (HRd.out.below hb1);have HA1 := hid (Aside.of_below (S := fun q => q = b) hb1);clear hb1;obtain ⟨A, c, hbx, hrow, -⟩ := HR1.out;unfold rdC at hbx;obtain ⟨a0, a1, a2, a3, a4, a5, a6, af⟩ := row7r hbx;have l0 := row_lt hbx;obtain ⟨g, y, rfl, hy, hlc, lg, d0, d1, d2, d3⟩ := sign_row (p := p) hrow hpl
 obtain rfl : y = x := Option.some.inj (hy.symm.trans HX.out);rw [<- HXt.out] at d1;clear hbx hrow hy;go_wp2_with fail
 refine wp_region_det 11 (by kernel_rfl) (by kernel_rfl) (by decide) ?_
 iterate 3 refine ds ?_
 refine ds ?_
 iterate 3 refine ds ?_
 refine ds ?_
 iterate 2 refine ds ?_
 refine ds ?_;intro w2 hbw2
 (try simp only [Act.put, List.setIfInBounds_toArray, List.set_cons_zero, List.set_cons_succ])
 (try simp only [List.drop_succ_cons, List.drop_zero])
 have HR2 := hid (HR1.out.below hbw2);have HA2 := hid (aside_below HA1.out hbw2);have l2 := HR2.out.lt;clear a0 a1 a2 a3 a4 a5 a6 af d0 d1 d2 d3;by_cases c8 : (400 : Int) < t.size
 ·have HKf := hid (show keyF L E ks p y f = badF L E 8 p by unfold keyF; rw [<- HXt.out, if_pos (by omega)])
  go_wp2_with fail
  refine (c_rd_fail_new L E 8 b p m f _ (by omega) HR2.out HFl.out).mono ?_;rintro e w3 ⟨rfl, hR3, hA3⟩;have HR3 := hid hR3;have HA3 := hid (HA2.out.trans hA3);clear hR3 hA3;go_wp2_with fail
  refine (c_Contains_Str ks t v _ lo (HKs.out _ HA3.out)).mono ?_;rintro e w4 ⟨rfl, hb4⟩;obtain ⟨z, hz⟩ : ∃ z, z = hasS ks t := ⟨_, rfl⟩
  rw [<- hz];clear hz;have HR4 := hid (HR3.out.below hb4);have HA4 := hid (aside_below HA3.out hb4);clear hb4;cases z
  focus
   have HRk := hid HR4.out;have HAk := hid HA4.out;obtain ⟨A5, c5, hx5, -, -⟩ := HRk.out;unfold rdC at hx5;obtain ⟨q0, q1, q2, q3, q4, q5, q6, qf⟩ := row7r hx5;have l5 := row_lt hx5;clear hx5;go_wp2_with fail
   have hF5 : Aside (fun q => q = b) w4 ((w4).setCell ⟨b, 1, none⟩ (.int .i64 ((p : Int) + 1))) := aside_set rfl (Aside.refl _ _)
  rotate_left
  focus
   go_wp2_with fail
   refine (c_rd_fail_old L E 5 b p m _ _ HR4.out (by show (8 : Int) ≠ 0; decide)).mono ?_;rintro e w6 ⟨rfl, hb6⟩;have HRk := hid (HR4.out.below hb6);have HAk := hid (aside_below HA4.out hb6);obtain ⟨A5, c5, hx5, -, -⟩ := HRk.out;unfold rdC at hx5;obtain ⟨q0, q1, q2, q3, q4, q5, q6, qf⟩ := row7r hx5;have l5 := row_lt hx5;clear hx5;go_wp2_with fail
   have hF5 : Aside (fun q => q = b) w6 ((w6).setCell ⟨b, 1, none⟩ (.int .i64 ((p : Int) + 1))) := aside_set rfl (Aside.refl _ _)
  rotate_left
  all_goals
   have hR5 := RdAt.poke (p' := p + 1) (m' := m) (f' := badF L E 8 p) HRk.out hF5 (fun A c h => by unfold rdC at h ⊢; exact set7_1 h);have HF5 := hid (HAk.out.trans hF5);have HR5 := hid hR5;clear hF5 hR5;go_ret
   exact ⟨by rw [<- HXt.out]; rfl, by rw [HKf.out]; exact HR5.out, HF5.out⟩
 ·have d8 : decide ((400 : Int) < t.size) = false := decide_eq_false c8
  go_wp2_with fail
  refine (c_Contains_Str ks t v _ lo (HKs.out _ HA2.out)).mono ?_;rintro e w4 ⟨rfl, hb4⟩;have HR4 := hid (HR2.out.below hb4);have HA4 := hid (aside_below HA2.out hb4);clear hb4;rcases hz : hasS ks t with _ | _
  focus
   have HKf := hid (show keyF L E ks p y f = f by unfold keyF; rw [<- HXt.out, if_neg (by omega), hz]; rfl);clear hz;have HRk := hid HR4.out;have HAk := hid HA4.out;obtain ⟨A5, c5, hx5, -, -⟩ := HRk.out;unfold rdC at hx5;obtain ⟨q0, q1, q2, q3, q4, q5, q6, qf⟩ := row7r hx5;have l5 := row_lt hx5;clear hx5;go_wp2_with fail
   have hF5 : Aside (fun q => q = b) w4 ((w4).setCell ⟨b, 1, none⟩ (.int .i64 ((p : Int) + 1))) := aside_set rfl (Aside.refl _ _);have hR5 := RdAt.poke (p' := p + 1) (m' := m) (f' := f) HRk.out hF5 (fun A c h => by unfold rdC at h ⊢; exact set7_1 h)
  rotate_left
  focus
   have HKf := hid (show keyF L E ks p y f = badF L E 5 p by unfold keyF; rw [<- HXt.out, if_neg (by omega), hz]; rfl);clear hz;go_wp2_with fail
   refine (c_rd_fail_new L E 5 b p m f _ (by omega) HR4.out HFl.out).mono ?_;rintro e w6 ⟨rfl, hR6, hA6⟩;have HRk := hid hR6;have HAk := hid (HA4.out.trans hA6);obtain ⟨A5, c5, hx5, -, -⟩ := HRk.out;unfold rdC at hx5;obtain ⟨q0, q1, q2, q3, q4, q5, q6, qf⟩ := row7r hx5;have l5 := row_lt hx5;clear hx5;go_wp2_with fail
   have hF5 : Aside (fun q => q = b) w6 ((w6).setCell ⟨b, 1, none⟩ (.int .i64 ((p : Int) + 1))) := aside_set rfl (Aside.refl _ _);have hR5 := RdAt.poke (p' := p + 1) (m' := m) (f' := badF L E 5 p) HRk.out hF5 (fun A c h => by unfold rdC at h ⊢; exact set7_1 h)
  rotate_left
  all_goals
   have HF5 := hid (HAk.out.trans hF5);have HR5 := hid hR5;clear hF5 hR5;go_ret
   exact ⟨by rw [<- HXt.out]; rfl, by rw [HKf.out]; exact HR5.out, HF5.out⟩
theorem Aside.join {S S' : Nat -> Prop} {a b c : World} (h : Aside S a b) (k : Aside S' b c) (hs : ∀ q, S' q -> q < a.heap.size -> S q) : Aside S a c :=
 ⟨k.os.trans h.os, k.tape.trans h.tape, k.output.trans h.output, Nat.le_trans h.size k.size, fun i hi hn => (k.block i (Nat.lt_of_lt_of_le hi h.size) (fun hq => hn (hs i hq hi))).trans (h.block i hi hn)⟩
theorem own_leaf {n : Nat} {S : Nat -> Prop} {w : World} {k num : Int} {f : Bool} {t : ByteArray} (hk : I64 k) (hn : I64 num) (ht : t.size <= 9223372036854775807) : OwnT (n + 1) S w ⟨k, f, num, t, [], []⟩ [.int .i64 k, .bool f, .int .i64 num, .string t, .slice none 0 0, .slice none 0 0] :=
 OwnT.into ⟨_, _, fun _ => False, fun _ => False, rfl, hk, hn, ht, fun _ h => h.elim, fun _ h => h.elim, ⟨none, 0, rfl, Nat.le_refl _, by omega, fun h => absurd h (by simp)⟩, ⟨none, 0, rfl, Nat.le_refl _, by omega, fun h => absurd h (by simp)⟩⟩
def listR (L : List SignD) (E : Int) (n d p m : Nat) : Res := if kindAt L p = 4 then .good (tList []) (p + 1) m else readJ L E n (.list d []) p m
def pairsR (L : List SignD) (E : Int) (n d p m : Nat) : Res := if kindAt L p = 2 then .good (tMap [] []) (p + 1) m else readJ L E n (.pairs d [] []) p m
def BadT (R : Nat -> Nat -> Flt -> World -> Prop) (b : Nat) (N : Nat) (f : Flt) (w : World) (e : Ending) (w' : World) : Prop :=
 ∃ (k : Int) (fl : Bool) (nu : Int) (t : ByteArray) (A4 : Option Addr) (n4 c4 : Nat) (A5 : Option Addr) (n5 c5 p' m' : Nat), e = .returned (.agg #[.int .i64 k, .bool fl, .int .i64 nu, .string t, .slice A4 n4 c4, .slice A5 n5 c5]) /\ R p' m' f w' /\ p' <= N /\ Aside (fun q => q = b) w w'
def GoodT (R : Nat -> Nat -> Flt -> World -> Prop) (b : Nat) (nT : Nat) (t : TreeD) (q m' : Nat) (w : World) (e : Ending) (w' : World) : Prop :=
 ∃ cs, e = .returned (.agg cs.toArray) /\ OwnT nT (fun x => w.heap.size <= x /\ x < w'.heap.size) w' t cs /\ R q m' flt0 w' /\ Aside (fun q => q = b) w w'
def ValE (R : Nat -> Nat -> Flt -> World -> Prop) (b N nT : Nat) (r : Res) (w : World) (e : Ending) (w' : World) : Prop := match r with
 | .bad f => BadT R b N f w e w'
 | .good t q m' => GoodT R b nT t q m' w e w'
theorem ValE.bad {R : Nat -> Nat -> Flt -> World -> Prop} {b N nT : Nat} {r : Res} {f : Flt} {w w' : World} {e : Ending} (hr : r = .bad f) (h : BadT R b N f w e w') : ValE R b N nT r w e w' := by subst hr; exact h
theorem ValE.good {R : Nat -> Nat -> Flt -> World -> Prop} {b N nT : Nat} {r : Res} {t : TreeD} {q m' : Nat} {w w' : World} {e : Ending} (hr : r = .good t q m') (h : GoodT R b nT t q m' w e w') : ValE R b N nT r w e w' := by subst hr; exact h
theorem ValE.isBad {R : Nat -> Nat -> Flt -> World -> Prop} {b N nT : Nat} {r : Res} {f : Flt} {w w' : World} {e : Ending} (hr : r = .bad f) (h : ValE R b N nT r w e w') : BadT R b N f w e w' := by subst hr; exact h
theorem ValE.isGood {R : Nat -> Nat -> Flt -> World -> Prop} {b N nT : Nat} {r : Res} {t : TreeD} {q m' : Nat} {w w' : World} {e : Ending} (hr : r = .good t q m') (h : ValE R b N nT r w e w') : GoodT R b nT t q m' w e w' := by subst hr; exact h
theorem readJ_form {L : List SignD} {E : Int} {n d p m : Nat} (h : ¬ (kindAt L p = 1 ∨ kindAt L p = 3 ∨ 7 <= kindAt L p)) : readJ L E (n + 1) (.value d) p m = .bad (badF L E 4 p) := by rw [readJ_value, if_pos h]
theorem readJ_deep {L : List SignD} {E : Int} {n d p m : Nat} (h : kindAt L p = 1 ∨ kindAt L p = 3 ∨ 7 <= kindAt L p) (h2 : 8 < d) : readJ L E (n + 1) (.value d) p m = .bad (badF L E 6 p) := by rw [readJ_value, if_neg (fun g => g h), if_pos h2]
theorem readJ_many {L : List SignD} {E : Int} {n d p m : Nat} (h : kindAt L p = 1 ∨ kindAt L p = 3 ∨ 7 <= kindAt L p) (h2 : ¬ 8 < d) (h3 : 300 <= m) : readJ L E (n + 1) (.value d) p m = .bad (badF L E 7 p) := by rw [readJ_value, if_neg (fun g => g h), if_neg h2, if_pos h3]
theorem readJ_go {L : List SignD} {E : Int} {n d p m : Nat} {x : SignD} (hx : L[p]? = some x) (h : kindAt L p = 1 ∨ kindAt L p = 3 ∨ 7 <= kindAt L p) (h2 : ¬ 8 < d) (h3 : ¬ 300 <= m) : readJ L E (n + 1) (.value d) p m =
  if x.kind = 7 then (if 400 < x.text.size then .bad (badF L E 8 p) else .good (tText x.text) (p + 1) (m + 1))
  else if x.kind = 8 then .good (tInt x.num) (p + 1) (m + 1)
  else if x.kind = 11 then .good tNull (p + 1) (m + 1)
  else if x.kind = 3 then listR L E n d (p + 1) (m + 1)
  else if x.kind = 1 then pairsR L E n d (p + 1) (m + 1)
  else .good (tFlag (x.kind == 9)) (p + 1) (m + 1) := by
 rw [readJ_value, if_neg (fun g => g h), if_neg h2, if_neg h3, hx];rfl
def T_valI (L : List SignD) (E : Int) (b n : Nat) : Prop := ∀ (d p m : Nat) (w : World), 1 <= d -> d <= 9 -> p <= L.length -> m <= 300 -> needJ L p (.value d) <= n -> RdAt L E b p m flt0 w ->
 Calls Tryz.prog 73 #[.pointer (some ⟨b, 0, none⟩), .int .i64 d] w (ValE (RdAt L E b) b L.length (10 - d) (readJ L E n (.value d) p m) w)
def T_listI (L : List SignD) (E : Int) (b n : Nat) : Prop := ∀ (d p m : Nat) (w : World), 1 <= d -> d <= 8 -> p <= L.length -> m <= 300 -> needJ L p (.list d []) <= n -> RdAt L E b p m flt0 w ->
 Calls Tryz.prog 133 #[.pointer (some ⟨b, 0, none⟩), .int .i64 d] w (ValE (RdAt L E b) b L.length (10 - d) (listR L E n d p m) w)
def T_pairsI (L : List SignD) (E : Int) (b n : Nat) : Prop := ∀ (d p m : Nat) (w : World), 1 <= d -> d <= 8 -> p <= L.length -> m <= 300 -> needJ L p (.pairs d [] []) <= n -> RdAt L E b p m flt0 w ->
 Calls Tryz.prog 134 #[.pointer (some ⟨b, 0, none⟩), .int .i64 d] w (ValE (RdAt L E b) b L.length (10 - d) (pairsR L E n d p m) w)
theorem c_rd_TextTree (t : ByteArray) (w : World) : Calls Tryz.prog 135 #[.string t] w fun e w' => e = .returned (.agg #[.int .i64 4, .bool false, .int .i64 0, .string t, .slice none 0 0, .slice none 0 0]) /\ Below w.heap.size w w' := by
 go_enter Tryz.func135, Tryz.ntmps135
 go_wp2_with fail
 exact bodyPost_ret (v := .agg #[.int .i64 4, .bool false, .int .i64 0, .string t, .slice none 0 0, .slice none 0 0]) (by simp only [results, Tryz.results135]; go_simp) rfl ⟨rfl, bel⟩
theorem c_rd_IntTree (x : Int) (w : World) : Calls Tryz.prog 136 #[.int .i64 x] w fun e w' => e = .returned (.agg #[.int .i64 3, .bool false, .int .i64 x, .string ⟨#[]⟩, .slice none 0 0, .slice none 0 0]) /\ Below w.heap.size w w' := by
 go_enter Tryz.func136, Tryz.ntmps136
 go_wp2_with fail
 exact bodyPost_ret (v := .agg #[.int .i64 3, .bool false, .int .i64 x, .string ⟨#[]⟩, .slice none 0 0, .slice none 0 0]) (by simp only [results, Tryz.results136]; go_simp) rfl ⟨rfl, bel⟩
theorem set7_3 {w : World} {b : Nat} {a0 a1 a2 a3 a4 a5 a6 u : Value} {e : TypeId} (h : w.heap[b]? = some (.cells #[a0, a1, a2, a3, a4, a5, a6] e (0, 0))) : (w.setCell ⟨b, 3, none⟩ u).heap[b]? = some (.cells #[a0, a1, a2, u, a4, a5, a6] e (0, 0)) := heap_setCell_same w b 3 _ _ u h
theorem Aside.low {b : Nat} {a c : World} (h : Aside (fun q => q = b ∨ a.heap.size <= q) a c) : Aside (fun q => q = b) a c :=
 ⟨h.os, h.tape, h.output, h.size, fun i hi hn => h.block i hi (fun hq => hq.elim hn (fun hq => absurd hi (by omega)))⟩
theorem BadT.close {L : List SignD} {E : Int} {b N : Nat} {f : Flt} {w w3 w5 wF : World} {e : Ending} (h : BadT (RdAt L E b) b N f w3 e w5) (hA : Aside (fun q => q = b ∨ w.heap.size <= q) w w3) (hF : Aside (fun q => q = w.heap.size) w5 wF) (hb : b < w.heap.size) : BadT (RdAt L E b) b N f w e wF := by
 obtain ⟨k, fl, nu, t, A4, n4, c4, A5, n5, c5, p', m', h1, h2, h3, h4⟩ := h;refine ⟨k, fl, nu, t, A4, n4, c4, A5, n5, c5, p', m', h1, h2.past hF (fun q hq => by omega), h3, ?_⟩;exact Aside.low ((hA.join h4 (fun q hq _ => .inl hq)).join hF (fun q hq _ => .inr (by omega)))
theorem GoodT.close {L : List SignD} {E : Int} {b nT : Nat} {t : TreeD} {q m' : Nat} {w w3 w5 wF : World} {e : Ending} (h : GoodT (RdAt L E b) b nT t q m' w3 e w5) (hA : Aside (fun q => q = b ∨ w.heap.size <= q) w w3) (hF : Aside (fun q => q = w.heap.size) w5 wF) (hlt : w.heap.size < w3.heap.size) (hb : b < w.heap.size) : GoodT (RdAt L E b) b nT t q m' w e wF := by
 obtain ⟨cs, h1, h2, h3, h4⟩ := h;refine ⟨cs, h1, h2.carry (fun x hx => hF.block x hx.2 (by omega)) (fun x hx => ⟨by omega, Nat.lt_of_lt_of_le hx.2 hF.size⟩), h3.past hF (fun q hq => by omega), ?_⟩;exact Aside.low ((hA.join h4 (fun q hq _ => .inl hq)).join hF (fun q hq _ => .inr (by omega)))
theorem c_val_form (L : List SignD) (E : Int) (b n d p m : Nat) (w : World) (hL : SgOk L) (hpl : p <= L.length) (h : RdAt L E b p m flt0 w) (hk : ¬ (kindAt L p = 1 ∨ kindAt L p = 3 ∨ 7 <= kindAt L p)) :
  Calls Tryz.prog 73 #[.pointer (some ⟨b, 0, none⟩), .int .i64 d] w (ValE (RdAt L E b) b L.length (10 - d) (readJ L E (n + 1) (.value d) p m) w) := by
 have HRd := hid h;have hlb := h.lt;have hlen := hL.len;have hnb : ¬ w.heap.size = b := by omega
 obtain ⟨t, ht⟩ : ∃ t, t = kindAt L p := ⟨_, rfl⟩
 obtain ⟨r, hr⟩ : ∃ r, r = readJ L E (n + 1) (.value d) p m := ⟨_, rfl⟩
 rw [<- hr];have HT := hid ht;have HR := hid hr;rw [readJ_form hk] at HR;rw [<- ht] at hk;have d1 : (t != 1) = true := bne_iff_ne.2 (fun h => hk (.inl h));have d1' : (t == 1) = false := beq_eq_false_iff_ne.2 (fun h => hk (.inl h));have d2 : (t != 3) = true := bne_iff_ne.2 (fun h => hk (.inr (.inl h)));have d2' : (t == 3) = false := beq_eq_false_iff_ne.2 (fun h => hk (.inr (.inl h)));have d3 : t < 7 := by have : ¬ 7 <= t := fun h => hk (.inr (.inr h)); omega
 clear hk;clear ht hr h;go_enter Tryz.func73, Tryz.ntmps73
 go_wp2_with fail
 refine (c_rd_kind L E b p m flt0 _ (by omega) (HRd.out.below bel)).mono ?_;rintro e w1 ⟨rfl, hb1⟩;rw [<- HT.out];have HB1 := hid (bel : Below w.heap.size w w1);have HT1 := hid ((hb1.block w.heap.size (by simp)).trans (heap_at (w := w) (o := .cells #[.int .i64 0, .bool false, .int .i64 0, .string ⟨#[]⟩, .slice none 0 0, .slice none 0 0] 34) rfl));have HR1 := hid (HRd.out.below HB1.out)
 have hl1 := row_lt HT1.out;obtain ⟨A, c, hbx, -, -⟩ := HR1.out;unfold rdC at hbx;obtain ⟨a0, a1, a2, a3, a4, a5, a6, af⟩ := row7r hbx;have l1 := row_lt hbx;clear hbx hb1;go_wp2_with fail
 refine (c_rd_fail_new L E 4 b p m flt0 _ (by omega) HR1.out rfl).mono ?_;rintro e w2 ⟨rfl, hR2, hA2⟩;have HR2 := hid hR2;have HA2 := hid hA2;have HT2 := hid ((hA2.block _ hl1 hnb).trans HT1.out);have hl2 := row_lt HT2.out;clear a0 a1 a2 a3 a4 a5 a6 af hR2 hA2;obtain ⟨A2, c2, hbx, -, -⟩ := HR2.out;unfold rdC at hbx;obtain ⟨a0, a1, a2, a3, a4, a5, a6, af⟩ := row7r hbx;obtain ⟨x0, x1, x2, x3, x4, x5, xf⟩ := row6 HT2.out
 have l2 := row_lt hbx;have hc4 : (badF L E 4 p).code = 4 := rfl;rw [hc4] at a4;clear hbx hc4;go_wp2_with fail
 exact bodyPost_ret (v := .agg #[.int .i64 0, .bool false, .int .i64 0, .string ⟨#[]⟩, .slice none 0 0, .slice none 0 0]) (by simp only [results, Tryz.results73]; go_simp) rfl (ValE.bad HR.out (BadT.close ⟨0, false, 0, ⟨#[]⟩, none, 0, 0, none, 0, 0, p, m, rfl, HR2.out, hpl, HA2.out⟩ (Aside.of_below HB1.out) asd hlb))
theorem c_val_deep (L : List SignD) (E : Int) (b n d p m : Nat) (w : World) (hL : SgOk L) (hpl : p <= L.length) (h : RdAt L E b p m flt0 w) (hk : kindAt L p = 1 ∨ kindAt L p = 3 ∨ 7 <= kindAt L p) (h8 : 8 < d) :
  Calls Tryz.prog 73 #[.pointer (some ⟨b, 0, none⟩), .int .i64 d] w (ValE (RdAt L E b) b L.length (10 - d) (readJ L E (n + 1) (.value d) p m) w) := by
 have HRd := hid h;have hlb := h.lt;have hlen := hL.len;have hnb : ¬ w.heap.size = b := by omega
 obtain ⟨t, ht⟩ : ∃ t, t = kindAt L p := ⟨_, rfl⟩
 obtain ⟨r, hr⟩ : ∃ r, r = readJ L E (n + 1) (.value d) p m := ⟨_, rfl⟩
 rw [<- hr];have HT := hid ht;have HR := hid hr;rw [readJ_deep hk h8] at HR
 have hcs : t = 1 ∨ (t != 1) = true /\ t = 3 ∨ (t != 1) = true /\ (t != 3) = true /\ decide (t < 7) = false := by
  rw [<- ht] at hk;by_cases e1 : t = 1
  ·exact .inl e1
  ·by_cases e3 : t = 3
   ·exact .inr (.inl ⟨bne_iff_ne.2 e1, e3⟩)
   ·exact .inr (.inr ⟨bne_iff_ne.2 e1, bne_iff_ne.2 e3, decide_eq_false (by omega)⟩)
 have d8 : (8 : Int) < d := by omega
 clear hk h8;clear ht hr h;rcases hcs with rfl | ⟨e1, rfl⟩ | ⟨e1, e3, e7⟩
 all_goals
  go_enter Tryz.func73, Tryz.ntmps73
  go_wp2_with fail
  refine (c_rd_kind L E b p m flt0 _ (by omega) (HRd.out.below bel)).mono ?_;rintro e w1 ⟨rfl, hb1⟩;rw [<- HT.out];have HB1 := hid (bel : Below w.heap.size w w1);have HT1 := hid ((hb1.block w.heap.size (by simp)).trans (heap_at (w := w) (o := .cells #[.int .i64 0, .bool false, .int .i64 0, .string ⟨#[]⟩, .slice none 0 0, .slice none 0 0] 34) rfl));have HR1 := hid (HRd.out.below HB1.out)
  have hl1 := row_lt HT1.out;obtain ⟨A, c, hbx, -, -⟩ := HR1.out;unfold rdC at hbx;obtain ⟨a0, a1, a2, a3, a4, a5, a6, af⟩ := row7r hbx;have l1 := row_lt hbx;clear hbx hb1;go_wp2_with fail
  refine (c_rd_fail_new L E 6 b p m flt0 _ (by omega) HR1.out rfl).mono ?_;rintro e w2 ⟨rfl, hR2, hA2⟩;have HR2 := hid hR2;have HA2 := hid hA2;have HT2 := hid ((hA2.block _ hl1 hnb).trans HT1.out);have hl2 := row_lt HT2.out;clear a0 a1 a2 a3 a4 a5 a6 af hR2 hA2;obtain ⟨A2, c2, hbx, -, -⟩ := HR2.out;unfold rdC at hbx;obtain ⟨a0, a1, a2, a3, a4, a5, a6, af⟩ := row7r hbx;obtain ⟨x0, x1, x2, x3, x4, x5, xf⟩ := row6 HT2.out
  have l2 := row_lt hbx;have hc4 : (badF L E 6 p).code = 6 := rfl;rw [hc4] at a4;clear hbx hc4;go_wp2_with fail
  exact bodyPost_ret (v := .agg #[.int .i64 0, .bool false, .int .i64 0, .string ⟨#[]⟩, .slice none 0 0, .slice none 0 0]) (by simp only [results, Tryz.results73]; go_simp) rfl (ValE.bad HR.out (BadT.close ⟨0, false, 0, ⟨#[]⟩, none, 0, 0, none, 0, 0, p, m, rfl, HR2.out, hpl, HA2.out⟩ (Aside.of_below HB1.out) asd hlb))
theorem c_val_many (L : List SignD) (E : Int) (b n d p m : Nat) (w : World) (hL : SgOk L) (hpl : p <= L.length) (h : RdAt L E b p m flt0 w) (hk : kindAt L p = 1 ∨ kindAt L p = 3 ∨ 7 <= kindAt L p) (h8 : ¬ 8 < d) (h3 : 300 <= m) :
  Calls Tryz.prog 73 #[.pointer (some ⟨b, 0, none⟩), .int .i64 d] w (ValE (RdAt L E b) b L.length (10 - d) (readJ L E (n + 1) (.value d) p m) w) := by
 have HRd := hid h;have hlb := h.lt;have hlen := hL.len;have hnb : ¬ w.heap.size = b := by omega
 obtain ⟨t, ht⟩ : ∃ t, t = kindAt L p := ⟨_, rfl⟩
 obtain ⟨r, hr⟩ : ∃ r, r = readJ L E (n + 1) (.value d) p m := ⟨_, rfl⟩
 rw [<- hr];have HT := hid ht;have HR := hid hr;rw [readJ_many hk h8 h3] at HR
 have hcs : t = 1 ∨ (t != 1) = true /\ t = 3 ∨ (t != 1) = true /\ (t != 3) = true /\ decide (t < 7) = false := by
  rw [<- ht] at hk;by_cases e1 : t = 1
  ·exact .inl e1
  ·by_cases e3 : t = 3
   ·exact .inr (.inl ⟨bne_iff_ne.2 e1, e3⟩)
   ·exact .inr (.inr ⟨bne_iff_ne.2 e1, bne_iff_ne.2 e3, decide_eq_false (by omega)⟩)
 have d8 : decide ((8 : Int) < d) = false := decide_eq_false (by omega);have d300 : decide ((300 : Int) <= m) = true := decide_eq_true (by omega);clear hk h8 h3;clear ht hr h;rcases hcs with rfl | ⟨e1, rfl⟩ | ⟨e1, e3, e7⟩
 all_goals
  go_enter Tryz.func73, Tryz.ntmps73
  go_wp2_with fail
  refine (c_rd_kind L E b p m flt0 _ (by omega) (HRd.out.below bel)).mono ?_;rintro e w1 ⟨rfl, hb1⟩;rw [<- HT.out];have HB1 := hid (bel : Below w.heap.size w w1);have HT1 := hid ((hb1.block w.heap.size (by simp)).trans (heap_at (w := w) (o := .cells #[.int .i64 0, .bool false, .int .i64 0, .string ⟨#[]⟩, .slice none 0 0, .slice none 0 0] 34) rfl));have HR1 := hid (HRd.out.below HB1.out)
  have hl1 := row_lt HT1.out;obtain ⟨A, c, hbx, -, -⟩ := HR1.out;unfold rdC at hbx;obtain ⟨a0, a1, a2, a3, a4, a5, a6, af⟩ := row7r hbx;have l1 := row_lt hbx;clear hbx hb1;go_wp2_with fail
  refine (c_rd_fail_new L E 7 b p m flt0 _ (by omega) HR1.out rfl).mono ?_;rintro e w2 ⟨rfl, hR2, hA2⟩;have HR2 := hid hR2;have HA2 := hid hA2;have HT2 := hid ((hA2.block _ hl1 hnb).trans HT1.out);have hl2 := row_lt HT2.out;clear a0 a1 a2 a3 a4 a5 a6 af hR2 hA2;obtain ⟨A2, c2, hbx, -, -⟩ := HR2.out;unfold rdC at hbx;obtain ⟨a0, a1, a2, a3, a4, a5, a6, af⟩ := row7r hbx;obtain ⟨x0, x1, x2, x3, x4, x5, xf⟩ := row6 HT2.out
  have l2 := row_lt hbx;have hc4 : (badF L E 7 p).code = 7 := rfl;rw [hc4] at a4;clear hbx hc4;go_wp2_with fail
  exact bodyPost_ret (v := .agg #[.int .i64 0, .bool false, .int .i64 0, .string ⟨#[]⟩, .slice none 0 0, .slice none 0 0]) (by simp only [results, Tryz.results73]; go_simp) rfl (ValE.bad HR.out (BadT.close ⟨0, false, 0, ⟨#[]⟩, none, 0, 0, none, 0, 0, p, m, rfl, HR2.out, hpl, HA2.out⟩ (Aside.of_below HB1.out) asd hlb))
theorem c_val_leaf (L : List SignD) (E : Int) (b n d p m : Nat) (x : SignD) (w : World) (hL : SgOk L) (hx : L[p]? = some x) (hk : x.kind = 7 ∨ x.kind = 8 ∨ x.kind = 9 ∨ x.kind = 10 ∨ x.kind = 11) (hd8 : ¬ 8 < d) (hm3 : ¬ 300 <= m) (h : RdAt L E b p m flt0 w) (hsz : x.kind = 7 -> ¬ 400 < x.text.size) :
  Calls Tryz.prog 73 #[.pointer (some ⟨b, 0, none⟩), .int .i64 d] w (ValE (RdAt L E b) b L.length (10 - d) (readJ L E (n + 1) (.value d) p m) w) := by
 have HRd := hid h;have hlb := h.lt;have hlen := hL.len;have hpl : p < L.length := (List.getElem?_eq_some_iff.1 hx).1;have hz0 : (0 : Int) <= p := by omega
 have hz1 : (p : Int) < L.length := by omega
 have hnb : ¬ w.heap.size = b := by omega
 obtain ⟨r, hr⟩ : ∃ r, r = readJ L E (n + 1) (.value d) p m := ⟨_, rfl⟩
 obtain ⟨nd, hnd⟩ : ∃ k, 10 - d = k + 1 := ⟨9 - d, by omega⟩
 rw [<- hr, hnd];rcases hk with hk | hk | hk | hk | hk
 focus
  have hsz := hsz hk;have dsz : decide ((400 : Int) < x.text.size) = false := decide_eq_false (by omega);have hkk : kindAt L p = 7 := (kindAt_some hx).trans hk;rw [readJ_go hx (by rw [hkk]; decide) hd8 hm3] at hr;rw [if_pos hk, if_neg hsz] at hr;clear hsz
 rotate_left
 focus
  have hkk : kindAt L p = 8 := (kindAt_some hx).trans hk;rw [readJ_go hx (by rw [hkk]; decide) hd8 hm3] at hr;rw [if_neg (by rw [hk]; decide), if_pos hk] at hr;clear hsz
 rotate_left
 focus
  have hkk : kindAt L p = 9 := (kindAt_some hx).trans hk;rw [readJ_go hx (by rw [hkk]; decide) hd8 hm3] at hr;rw [if_neg (by rw [hk]; decide), if_neg (by rw [hk]; decide), if_neg (by rw [hk]; decide), if_neg (by rw [hk]; decide), if_neg (by rw [hk]; decide), show (x.kind == 9) = true by rw [hk]; rfl] at hr;clear hsz
 rotate_left
 focus
  have hkk : kindAt L p = 10 := (kindAt_some hx).trans hk;rw [readJ_go hx (by rw [hkk]; decide) hd8 hm3] at hr;rw [if_neg (by rw [hk]; decide), if_neg (by rw [hk]; decide), if_neg (by rw [hk]; decide), if_neg (by rw [hk]; decide), if_neg (by rw [hk]; decide), show (x.kind == 9) = false by rw [hk]; rfl] at hr;clear hsz
 rotate_left
 focus
  have hkk : kindAt L p = 11 := (kindAt_some hx).trans hk;rw [readJ_go hx (by rw [hkk]; decide) hd8 hm3] at hr;rw [if_neg (by rw [hk]; decide), if_neg (by rw [hk]; decide), if_pos hk] at hr;clear hsz
 rotate_left
 all_goals
  have HK := hid hkk;have HX := hid hx;have HN := hid hnd;have htx := hL.text p x hx;have hnx := hL.num p x hx;unfold I64 at hnx;obtain ⟨hnx1, hnx2⟩ := hnx;have d8 : decide ((8 : Int) < d) = false := decide_eq_false (by omega);have d300 : decide ((300 : Int) <= m) = false := decide_eq_false (by omega);have hm9 : (m : Int) <= 300 := by omega
  have HR := hid hr;clear hr h hx hkk hk hnd hd8 hm3;go_enter Tryz.func73, Tryz.ntmps73
  go_wp2_with fail
  refine (c_rd_kind L E b p m flt0 _ (by omega) (HRd.out.below bel)).mono ?_;rintro e w1 ⟨rfl, hb1⟩;rw [HK.out];have HB1 := hid (bel : Below w.heap.size w w1);have HT1 := hid ((hb1.block w.heap.size (by simp)).trans (heap_at (w := w) (o := .cells #[.int .i64 0, .bool false, .int .i64 0, .string ⟨#[]⟩, .slice none 0 0, .slice none 0 0] 34) rfl));have HR1 := hid (HRd.out.below HB1.out)
  have hl1 := row_lt HT1.out;obtain ⟨A, c, hbx, -, -⟩ := HR1.out;unfold rdC at hbx;obtain ⟨a0, a1, a2, a3, a4, a5, a6, af⟩ := row7r hbx;have l1 := row_lt hbx;have a4' : w1.cell? ⟨b, 4, none⟩ = some (.int .i64 0) := a4;clear hbx hb1 a4;go_upto_region 11 with fail
  obtain ⟨w2, hw2⟩ : ∃ W, W = w1.setCell ⟨b, 3, none⟩ (.int .i64 ((m : Int) + 1)) := ⟨_, rfl⟩
  have hA2 : Aside (fun q => q = b) w1 w2 := by rw [hw2]; exact aside_set rfl (Aside.refl _ _)
  have hR2 : RdAt L E b p (m + 1) flt0 w2 := RdAt.poke HR1.out hA2 (fun A c h => by rw [hw2]; unfold rdC at h ⊢; exact set7_3 h);rw [<- hw2];have HR2 := hid hR2;have HA2 := hid hA2;have HT2 := hid ((hA2.block _ hl1 hnb).trans HT1.out);have hl2 := row_lt HT2.out;clear a0 a1 a2 a3 a4' a5 a6 af hR2 hA2 hw2;obtain ⟨A2, c2, hbx, hrow, -⟩ := HR2.out;unfold rdC at hbx;obtain ⟨a0, a1, a2, a3, a4, a5, a6, af⟩ := row7r hbx
  have l2 := row_lt hbx;obtain ⟨g, y, rfl, hy, hlc, lg, s0, s1, s2, s3⟩ := sign_row (p := p) hrow hpl;obtain rfl : y = x := Option.some.inj (hy.symm.trans HX.out);clear hbx hrow hy;go_cut [6] from 49 to 58 (fun s6 wx => s6 = .pointer (some ⟨w2.heap.size, 0, none⟩) /\ wx.heap[w2.heap.size]? = some (.cells #[.int .i64 y.kind, .string y.text, .int .i64 y.num, .int .i64 y.at'] 92 (0, 0)) /\ Below w2.heap.size w2 wx)
  case first =>
   go_region_law (fail)
   all_goals
    go_wp2_with fail
    go_meet
    exact ⟨rfl, heap_at (by simp), bel⟩
  obtain ⟨rfl, hXr, hBc⟩ := hcut;have HXr := hid hXr;have HBc := hid hBc;have HRc := hid (HR2.out.below hBc);have HTc := hid ((hBc.block _ hl2).trans HT2.out);have hl3 := row_lt HTc.out;have hl3x := row_lt hXr;have hnx3 : ¬ w2.heap.size = b := by omega
  have hnxt : ¬ w2.heap.size = w.heap.size := by omega
  clear a0 a1 a2 a3 a4 a5 a6 af s0 s1 s2 s3 hXr hBc;obtain ⟨A3, c3, hbx, -, -⟩ := HRc.out;unfold rdC at hbx;obtain ⟨a0, a1, a2, a3, a4, a5, a6, af⟩ := row7r hbx;have l3 := row_lt hbx;obtain ⟨y0, y1, y2, y3, yf⟩ := row4 HXr.out;clear hbx;go_upto_region 15 with fail
  obtain ⟨w3, hw3⟩ : ∃ W, W = wc.setCell ⟨b, 1, none⟩ (.int .i64 ((p : Int) + 1)) := ⟨_, rfl⟩
  have hA3 : Aside (fun q => q = b) wc w3 := by rw [hw3]; exact aside_set rfl (Aside.refl _ _)
  have hR3 : RdAt L E b (p + 1) (m + 1) flt0 w3 := RdAt.poke HRc.out hA3 (fun A c h => by rw [hw3]; unfold rdC at h ⊢; exact set7_1 h);rw [<- hw3];have HR3 := hid hR3;have HT3 := hid ((hA3.block _ (row_lt HTc.out) hnb).trans HTc.out);have HX3 := hid ((hA3.block _ (row_lt HXr.out) hnx3).trans HXr.out);have HAw := hid (show Aside (fun q => q = b ∨ w.heap.size <= q) w w3 from (Aside.of_below HB1.out).trans ((HA2.out.mono (fun q h => .inl h)).trans ((Aside.of_below HBc.out).trans ((Aside.refl _ wc).trans (hA3.mono (fun q h => .inl h))))))
  have hl4 := row_lt HT3.out;have hl4x := row_lt HX3.out;have hl4b := hR3.lt;clear a0 a1 a2 a3 a4 a5 a6 af y0 y1 y2 y3 yf hR3 hA3 hw3;obtain ⟨z0, z1, z2, z3, zf⟩ := row4 HX3.out;obtain ⟨x0, x1, x2, x3, x4, x5, xf⟩ := row6 HT3.out;go_wp2_with fail
 ·refine (c_rd_TextTree y.text _).mono ?_
  rintro e w9 ⟨rfl, hb9⟩;have HB9 := hid hb9;have HT9 := hid ((hb9.block _ hl4).trans HT3.out);have hl9 := row_lt HT9.out;clear x0 x1 x2 x3 x4 x5 xf z0 z1 z2 z3 zf hb9;obtain ⟨x0, x1, x2, x3, x4, x5, xf⟩ := row6 HT9.out;go_wp2_with fail
  exact bodyPost_ret (v := .agg #[.int .i64 4, .bool false, .int .i64 0, .string y.text, .slice none 0 0, .slice none 0 0]) (by simp only [results, Tryz.results73]; go_simp) rfl (ValE.good HR.out (GoodT.close (w3 := w3) ⟨[.int .i64 4, .bool false, .int .i64 0, .string y.text, .slice none 0 0, .slice none 0 0], rfl, own_leaf (by unfold I64; decide) (by unfold I64; decide) (by omega), HR3.out.below HB9.out, Aside.of_below HB9.out⟩ HAw.out asd (by omega) hlb))
 ·refine (c_rd_IntTree y.num _).mono ?_
  rintro e w9 ⟨rfl, hb9⟩;have HB9 := hid hb9;have HT9 := hid ((hb9.block _ hl4).trans HT3.out);have hl9 := row_lt HT9.out;clear x0 x1 x2 x3 x4 x5 xf z0 z1 z2 z3 zf hb9;obtain ⟨x0, x1, x2, x3, x4, x5, xf⟩ := row6 HT9.out;go_wp2_with fail
  exact bodyPost_ret (v := .agg #[.int .i64 3, .bool false, .int .i64 y.num, .string ⟨#[]⟩, .slice none 0 0, .slice none 0 0]) (by simp only [results, Tryz.results73]; go_simp) rfl (ValE.good HR.out (GoodT.close (w3 := w3) ⟨[.int .i64 3, .bool false, .int .i64 y.num, .string ⟨#[]⟩, .slice none 0 0, .slice none 0 0], rfl, own_leaf (by unfold I64; decide) (by unfold I64; omega) (by decide), HR3.out.below HB9.out, Aside.of_below HB9.out⟩ HAw.out asd (by omega) hlb))
 ·exact bodyPost_ret (v := .agg #[.int .i64 2, .bool true, .int .i64 0, .string ⟨#[]⟩, .slice none 0 0, .slice none 0 0]) (by simp only [results, Tryz.results73]; go_simp) rfl (ValE.good HR.out (GoodT.close (w3 := w3) ⟨[.int .i64 2, .bool true, .int .i64 0, .string ⟨#[]⟩, .slice none 0 0, .slice none 0 0], rfl, own_leaf (by unfold I64; decide) (by unfold I64; decide) (by decide), HR3.out, Aside.refl _ _⟩ HAw.out asd (by omega) hlb))
 ·exact bodyPost_ret (v := .agg #[.int .i64 2, .bool false, .int .i64 0, .string ⟨#[]⟩, .slice none 0 0, .slice none 0 0]) (by simp only [results, Tryz.results73]; go_simp) rfl (ValE.good HR.out (GoodT.close (w3 := w3) ⟨[.int .i64 2, .bool false, .int .i64 0, .string ⟨#[]⟩, .slice none 0 0, .slice none 0 0], rfl, own_leaf (by unfold I64; decide) (by unfold I64; decide) (by decide), HR3.out, Aside.refl _ _⟩ HAw.out asd (by omega) hlb))
 ·exact bodyPost_ret (v := .agg #[.int .i64 1, .bool false, .int .i64 0, .string ⟨#[]⟩, .slice none 0 0, .slice none 0 0]) (by simp only [results, Tryz.results73]; go_simp) rfl (ValE.good HR.out (GoodT.close (w3 := w3) ⟨[.int .i64 1, .bool false, .int .i64 0, .string ⟨#[]⟩, .slice none 0 0, .slice none 0 0], rfl, own_leaf (by unfold I64; decide) (by unfold I64; decide) (by decide), HR3.out, Aside.refl _ _⟩ HAw.out asd (by omega) hlb))
theorem c_val_deepr (L : List SignD) (E : Int) (b n d p m : Nat) (x : SignD) (w : World) (hL : SgOk L) (hx : L[p]? = some x) (hc : (x.kind = 7 /\ 400 < x.text.size) ∨ x.kind = 3 ∨ x.kind = 1) (hd8 : ¬ 8 < d) (hm3 : ¬ 300 <= m) (h : RdAt L E b p m flt0 w) (hd1 : 1 <= d) (hn : needJ L p (.value d) <= n + 1) (hl3 : T_listI L E b n) (hl1 : T_pairsI L E b n) :
  Calls Tryz.prog 73 #[.pointer (some ⟨b, 0, none⟩), .int .i64 d] w (ValE (RdAt L E b) b L.length (10 - d) (readJ L E (n + 1) (.value d) p m) w) := by
 have HRd := hid h;have hlb := h.lt;have hlen := hL.len;have hpl : p < L.length := (List.getElem?_eq_some_iff.1 hx).1;have hz0 : (0 : Int) <= p := by omega
 have hz1 : (p : Int) < L.length := by omega
 have hnb : ¬ w.heap.size = b := by omega
 obtain ⟨r, hr⟩ : ∃ r, r = readJ L E (n + 1) (.value d) p m := ⟨_, rfl⟩
 obtain ⟨nd, hnd⟩ : ∃ k, 10 - d = k + 1 := ⟨9 - d, by omega⟩
 rw [<- hr, hnd];rcases hc with ⟨hk, hsz⟩ | hk | hk
 focus
  clear hl3 hl1 hn hd1;have hkk : kindAt L p = 7 := (kindAt_some hx).trans hk;rw [readJ_go hx (by rw [hkk]; decide) hd8 hm3] at hr;have HK := hid hkk;have HX := hid hx;have HN := hid hnd;have htx := hL.text p x hx;have hnx := hL.num p x hx;unfold I64 at hnx;obtain ⟨hnx1, hnx2⟩ := hnx;have d8 : decide ((8 : Int) < d) = false := decide_eq_false (by omega);have d300 : decide ((300 : Int) <= m) = false := decide_eq_false (by omega)
  have hm9 : (m : Int) <= 300 := by omega
  rw [if_pos hk, if_pos hsz] at hr;have HR := hid hr;have dsz : decide ((400 : Int) < x.text.size) = true := decide_eq_true (by omega);clear hsz
 rotate_left
 focus
  have hl := hl3;clear hl3 hl1;have hkk : kindAt L p = 3 := (kindAt_some hx).trans hk;rw [readJ_go hx (by rw [hkk]; decide) hd8 hm3] at hr;have HK := hid hkk;have HX := hid hx;have HN := hid hnd;have htx := hL.text p x hx;have hnx := hL.num p x hx;unfold I64 at hnx;obtain ⟨hnx1, hnx2⟩ := hnx;have d8 : decide ((8 : Int) < d) = false := decide_eq_false (by omega);have d300 : decide ((300 : Int) <= m) = false := decide_eq_false (by omega)
  have hm9 : (m : Int) <= 300 := by omega
  rw [if_neg (by rw [hk]; decide), if_neg (by rw [hk]; decide), if_neg (by rw [hk]; decide), if_pos hk] at hr;rw [<- hnd];have HR := hid hr;have hdd : d <= 8 := by omega
  have hmm : m + 1 <= 300 := by omega
  have hpp : p + 1 <= L.length := by omega
  have HNe := hid (show needJ L (p + 1) (.list d []) <= n by unfold needJ at hn ⊢; simp only at hn ⊢; omega);have HL := hid hl;clear hl hn
 rotate_left
 focus
  have hl := hl1;clear hl3 hl1;have hkk : kindAt L p = 1 := (kindAt_some hx).trans hk;rw [readJ_go hx (by rw [hkk]; decide) hd8 hm3] at hr;have HK := hid hkk;have HX := hid hx;have HN := hid hnd;have htx := hL.text p x hx;have hnx := hL.num p x hx;unfold I64 at hnx;obtain ⟨hnx1, hnx2⟩ := hnx;have d8 : decide ((8 : Int) < d) = false := decide_eq_false (by omega);have d300 : decide ((300 : Int) <= m) = false := decide_eq_false (by omega)
  have hm9 : (m : Int) <= 300 := by omega
  rw [if_neg (by rw [hk]; decide), if_neg (by rw [hk]; decide), if_neg (by rw [hk]; decide), if_neg (by rw [hk]; decide), if_pos hk] at hr;rw [<- hnd];have HR := hid hr;have hdd : d <= 8 := by omega
  have hmm : m + 1 <= 300 := by omega
  have hpp : p + 1 <= L.length := by omega
  have HNe := hid (show needJ L (p + 1) (.pairs d [] []) <= n by unfold needJ at hn ⊢; simp only at hn ⊢; omega);have HL := hid hl;clear hl hn
 rotate_left
 all_goals
  clear hr h hx hkk hk hnd hd8 hm3;go_enter Tryz.func73, Tryz.ntmps73
  go_wp2_with fail
  refine (c_rd_kind L E b p m flt0 _ (by omega) (HRd.out.below bel)).mono ?_;rintro e w1 ⟨rfl, hb1⟩;rw [HK.out];have HB1 := hid (bel : Below w.heap.size w w1);have HT1 := hid ((hb1.block w.heap.size (by simp)).trans (heap_at (w := w) (o := .cells #[.int .i64 0, .bool false, .int .i64 0, .string ⟨#[]⟩, .slice none 0 0, .slice none 0 0] 34) rfl));have HR1 := hid (HRd.out.below HB1.out)
  have hl1 := row_lt HT1.out;obtain ⟨A, c, hbx, -, -⟩ := HR1.out;unfold rdC at hbx;obtain ⟨a0, a1, a2, a3, a4, a5, a6, af⟩ := row7r hbx;have l1 := row_lt hbx;have a4' : w1.cell? ⟨b, 4, none⟩ = some (.int .i64 0) := a4;clear hbx hb1 a4;go_upto_region 11 with fail
  obtain ⟨w2, hw2⟩ : ∃ W, W = w1.setCell ⟨b, 3, none⟩ (.int .i64 ((m : Int) + 1)) := ⟨_, rfl⟩
  have hA2 : Aside (fun q => q = b) w1 w2 := by rw [hw2]; exact aside_set rfl (Aside.refl _ _)
  have hR2 : RdAt L E b p (m + 1) flt0 w2 := RdAt.poke HR1.out hA2 (fun A c h => by rw [hw2]; unfold rdC at h ⊢; exact set7_3 h);rw [<- hw2];have HR2 := hid hR2;have HA2 := hid hA2;have HT2 := hid ((hA2.block _ hl1 hnb).trans HT1.out);have hl2 := row_lt HT2.out;clear a0 a1 a2 a3 a4' a5 a6 af hR2 hA2 hw2;obtain ⟨A2, c2, hbx, hrow, -⟩ := HR2.out;unfold rdC at hbx;obtain ⟨a0, a1, a2, a3, a4, a5, a6, af⟩ := row7r hbx
  have l2 := row_lt hbx;obtain ⟨g, y, rfl, hy, hlc, lg, s0, s1, s2, s3⟩ := sign_row (p := p) hrow hpl;obtain rfl : y = x := Option.some.inj (hy.symm.trans HX.out);clear hbx hrow hy;go_cut [6] from 49 to 58 (fun s6 wx => s6 = .pointer (some ⟨w2.heap.size, 0, none⟩) /\ wx.heap[w2.heap.size]? = some (.cells #[.int .i64 y.kind, .string y.text, .int .i64 y.num, .int .i64 y.at'] 92 (0, 0)) /\ Below w2.heap.size w2 wx)
  case first =>
   go_region_law (fail)
   all_goals
    go_wp2_with fail
    go_meet
    exact ⟨rfl, heap_at (by simp), bel⟩
  obtain ⟨rfl, hXr, hBc⟩ := hcut;have HXr := hid hXr;have HBc := hid hBc;have HRc := hid (HR2.out.below hBc);have HTc := hid ((hBc.block _ hl2).trans HT2.out);have hl3 := row_lt HTc.out;have hl3x := row_lt hXr;have hnx3 : ¬ w2.heap.size = b := by omega
  have hnxt : ¬ w2.heap.size = w.heap.size := by omega
  clear a0 a1 a2 a3 a4 a5 a6 af s0 s1 s2 s3 hXr hBc;obtain ⟨A3, c3, hbx, -, -⟩ := HRc.out;unfold rdC at hbx;obtain ⟨a0, a1, a2, a3, a4, a5, a6, af⟩ := row7r hbx;have l3 := row_lt hbx;obtain ⟨y0, y1, y2, y3, yf⟩ := row4 HXr.out;clear hbx
 ·go_wp2_with fail
  refine (c_rd_fail_new L E 8 b p (m + 1) flt0 _ (by omega) HRc.out rfl).mono ?_;rintro e w8 ⟨rfl, hR8, hA8⟩;have HR8 := hid hR8;have HA8 := hid hA8;have HT8 := hid ((hA8.block _ hl3 hnb).trans HTc.out);have HX8 := hid ((hA8.block _ hl3x hnx3).trans HXr.out);clear a0 a1 a2 a3 a4 a5 a6 af y0 y1 y2 y3 yf hR8 hA8;obtain ⟨A8, c8, hbx, -, -⟩ := HR8.out;unfold rdC at hbx;obtain ⟨a0, a1, a2, a3, a4, a5, a6, af⟩ := row7r hbx
  obtain ⟨y0, y1, y2, y3, yf⟩ := row4 HX8.out;have l8 := row_lt hbx;have l8x := row_lt HX8.out;clear hbx;go_upto_region 15 with fail
  obtain ⟨w3, hw3⟩ : ∃ W, W = w8.setCell ⟨b, 1, none⟩ (.int .i64 ((p : Int) + 1)) := ⟨_, rfl⟩
  have hA3 : Aside (fun q => q = b) w8 w3 := by rw [hw3]; exact aside_set rfl (Aside.refl _ _)
  have hR3 : RdAt L E b (p + 1) (m + 1) (badF L E 8 p) w3 := RdAt.poke HR8.out hA3 (fun A c h => by rw [hw3]; unfold rdC at h ⊢; exact set7_1 h);rw [<- hw3];have HR3 := hid hR3;have HT3 := hid ((hA3.block _ (row_lt HT8.out) hnb).trans HT8.out);have HX3 := hid ((hA3.block _ (row_lt HX8.out) hnx3).trans HX8.out);have HAw := hid (show Aside (fun q => q = b ∨ w.heap.size <= q) w w3 from (Aside.of_below HB1.out).trans ((HA2.out.mono (fun q h => .inl h)).trans ((Aside.of_below HBc.out).trans ((HA8.out.mono (fun q h => .inl h)).trans (hA3.mono (fun q h => .inl h))))))
  have hl4 := row_lt HT3.out;have hl4x := row_lt HX3.out;have hl4b := hR3.lt;clear a0 a1 a2 a3 a4 a5 a6 af y0 y1 y2 y3 yf hR3 hA3 hw3;obtain ⟨z0, z1, z2, z3, zf⟩ := row4 HX3.out;obtain ⟨x0, x1, x2, x3, x4, x5, xf⟩ := row6 HT3.out;go_wp2_with fail
  refine (c_rd_TextTree y.text _).mono ?_;rintro e w9 ⟨rfl, hb9⟩;have HB9 := hid hb9;have HT9 := hid ((hb9.block _ hl4).trans HT3.out);have hl9 := row_lt HT9.out;clear x0 x1 x2 x3 x4 x5 xf z0 z1 z2 z3 zf hb9;obtain ⟨x0, x1, x2, x3, x4, x5, xf⟩ := row6 HT9.out;go_wp2_with fail
  exact bodyPost_ret (v := .agg #[.int .i64 4, .bool false, .int .i64 0, .string y.text, .slice none 0 0, .slice none 0 0]) (by simp only [results, Tryz.results73]; go_simp) rfl (ValE.bad HR.out (BadT.close (w3 := w3) ⟨4, false, 0, y.text, none, 0, 0, none, 0, 0, p + 1, m + 1, rfl, HR3.out.below HB9.out, by omega, Aside.of_below HB9.out⟩ HAw.out asd hlb))
 ·go_upto_region 15 with fail
  obtain ⟨w3, hw3⟩ : ∃ W, W = wc.setCell ⟨b, 1, none⟩ (.int .i64 ((p : Int) + 1)) := ⟨_, rfl⟩
  have hA3 : Aside (fun q => q = b) wc w3 := by rw [hw3]; exact aside_set rfl (Aside.refl _ _)
  have hR3 : RdAt L E b (p + 1) (m + 1) flt0 w3 := RdAt.poke HRc.out hA3 (fun A c h => by rw [hw3]; unfold rdC at h ⊢; exact set7_1 h);rw [<- hw3];have HR3 := hid hR3;have HT3 := hid ((hA3.block _ (row_lt HTc.out) hnb).trans HTc.out);have HX3 := hid ((hA3.block _ (row_lt HXr.out) hnx3).trans HXr.out);have HAw := hid (show Aside (fun q => q = b ∨ w.heap.size <= q) w w3 from (Aside.of_below HB1.out).trans ((HA2.out.mono (fun q h => .inl h)).trans ((Aside.of_below HBc.out).trans ((Aside.refl _ wc).trans (hA3.mono (fun q h => .inl h))))))
  have hl4 := row_lt HT3.out;have hl4x := row_lt HX3.out;have hl4b := hR3.lt;clear a0 a1 a2 a3 a4 a5 a6 af y0 y1 y2 y3 yf hR3 hA3 hw3;obtain ⟨z0, z1, z2, z3, zf⟩ := row4 HX3.out;obtain ⟨x0, x1, x2, x3, x4, x5, xf⟩ := row6 HT3.out;go_wp2_with fail
  refine (HL.out d (p + 1) (m + 1) _ hd1 hdd hpp hmm HNe.out HR3.out).mono ?_;intro e w5 hv;rcases hq : listR L E n d (p + 1) (m + 1) with f | ⟨t', q, m'⟩
  ·have HQ := hid (HR.out.trans hq)
   have hv' := ValE.isBad hq hv;have HV := hid hv';obtain ⟨k5, f5, n5, t5, A45, n45, c45, A55, n55, c55, p5, m5, rfl, hR5, hp5, hA5⟩ := hv';have HT5 := hid ((hA5.block _ hl4 hnb).trans HT3.out);have hl5 := row_lt HT5.out;clear x0 x1 x2 x3 x4 x5 xf z0 z1 z2 z3 zf hv hq hR5 hA5;obtain ⟨x0, x1, x2, x3, x4, x5, xf⟩ := row6 HT5.out;go_wp2_with fail
   exact bodyPost_ret (v := .agg #[.int .i64 k5, .bool f5, .int .i64 n5, .string t5, .slice A45 n45 c45, .slice A55 n55 c55]) (by simp only [results, Tryz.results73]; go_simp) rfl (ValE.bad HQ.out (BadT.close HV.out HAw.out asd hlb))
  ·have HQ := hid (HR.out.trans hq)
   have hv' := ValE.isGood hq hv;have HV := hid hv';obtain ⟨cs, rfl, hO5, hR5, hA5⟩ := hv';obtain ⟨A4, c4, A5, c5, rfl, -⟩ := hO5.flat;have HT5 := hid ((hA5.block _ hl4 hnb).trans HT3.out);have hl5 := row_lt HT5.out;clear x0 x1 x2 x3 x4 x5 xf z0 z1 z2 z3 zf hv hq hR5 hA5 hO5;obtain ⟨x0, x1, x2, x3, x4, x5, xf⟩ := row6 HT5.out;go_wp2_with fail
   exact bodyPost_ret (v := .agg #[.int .i64 t'.kind, .bool t'.flag, .int .i64 t'.num, .string t'.text, .slice A4 t'.keys.length c4, .slice A5 t'.kids.length c5]) (by simp only [results, Tryz.results73]; go_simp) rfl (ValE.good HQ.out (GoodT.close HV.out HAw.out asd (by omega) hlb))
 ·go_upto_region 15 with fail
  obtain ⟨w3, hw3⟩ : ∃ W, W = wc.setCell ⟨b, 1, none⟩ (.int .i64 ((p : Int) + 1)) := ⟨_, rfl⟩
  have hA3 : Aside (fun q => q = b) wc w3 := by rw [hw3]; exact aside_set rfl (Aside.refl _ _)
  have hR3 : RdAt L E b (p + 1) (m + 1) flt0 w3 := RdAt.poke HRc.out hA3 (fun A c h => by rw [hw3]; unfold rdC at h ⊢; exact set7_1 h);rw [<- hw3];have HR3 := hid hR3;have HT3 := hid ((hA3.block _ (row_lt HTc.out) hnb).trans HTc.out);have HX3 := hid ((hA3.block _ (row_lt HXr.out) hnx3).trans HXr.out);have HAw := hid (show Aside (fun q => q = b ∨ w.heap.size <= q) w w3 from (Aside.of_below HB1.out).trans ((HA2.out.mono (fun q h => .inl h)).trans ((Aside.of_below HBc.out).trans ((Aside.refl _ wc).trans (hA3.mono (fun q h => .inl h))))))
  have hl4 := row_lt HT3.out;have hl4x := row_lt HX3.out;have hl4b := hR3.lt;clear a0 a1 a2 a3 a4 a5 a6 af y0 y1 y2 y3 yf hR3 hA3 hw3;obtain ⟨z0, z1, z2, z3, zf⟩ := row4 HX3.out;obtain ⟨x0, x1, x2, x3, x4, x5, xf⟩ := row6 HT3.out;go_wp2_with fail
  refine (HL.out d (p + 1) (m + 1) _ hd1 hdd hpp hmm HNe.out HR3.out).mono ?_;intro e w5 hv;rcases hq : pairsR L E n d (p + 1) (m + 1) with f | ⟨t', q, m'⟩
  ·have HQ := hid (HR.out.trans hq)
   have hv' := ValE.isBad hq hv;have HV := hid hv';obtain ⟨k5, f5, n5, t5, A45, n45, c45, A55, n55, c55, p5, m5, rfl, hR5, hp5, hA5⟩ := hv';have HT5 := hid ((hA5.block _ hl4 hnb).trans HT3.out);have hl5 := row_lt HT5.out;clear x0 x1 x2 x3 x4 x5 xf z0 z1 z2 z3 zf hv hq hR5 hA5;obtain ⟨x0, x1, x2, x3, x4, x5, xf⟩ := row6 HT5.out;go_wp2_with fail
   exact bodyPost_ret (v := .agg #[.int .i64 k5, .bool f5, .int .i64 n5, .string t5, .slice A45 n45 c45, .slice A55 n55 c55]) (by simp only [results, Tryz.results73]; go_simp) rfl (ValE.bad HQ.out (BadT.close HV.out HAw.out asd hlb))
  ·have HQ := hid (HR.out.trans hq)
   have hv' := ValE.isGood hq hv;have HV := hid hv';obtain ⟨cs, rfl, hO5, hR5, hA5⟩ := hv';obtain ⟨A4, c4, A5, c5, rfl, -⟩ := hO5.flat;have HT5 := hid ((hA5.block _ hl4 hnb).trans HT3.out);have hl5 := row_lt HT5.out;clear x0 x1 x2 x3 x4 x5 xf z0 z1 z2 z3 zf hv hq hR5 hA5 hO5;obtain ⟨x0, x1, x2, x3, x4, x5, xf⟩ := row6 HT5.out;go_wp2_with fail
   exact bodyPost_ret (v := .agg #[.int .i64 t'.kind, .bool t'.flag, .int .i64 t'.num, .string t'.text, .slice A4 t'.keys.length c4, .slice A5 t'.kids.length c5]) (by simp only [results, Tryz.results73]; go_simp) rfl (ValE.good HQ.out (GoodT.close HV.out HAw.out asd (by omega) hlb))
theorem of_valI (L : List SignD) (E : Int) (b n : Nat) (hL : SgOk L) (hl : T_listI L E b n) (hp : T_pairsI L E b n) : T_valI L E b (n + 1) := by
 intro d p m w hd1 hd9 hpl hm hn h;by_cases hk : kindAt L p = 1 ∨ kindAt L p = 3 ∨ 7 <= kindAt L p
 ·by_cases h8 : 8 < d
  ·exact c_val_deep L E b n d p m w hL hpl h hk h8
  ·by_cases h3 : 300 <= m
   ·exact c_val_many L E b n d p m w hL hpl h hk h8 h3
   ·rcases hx : L[p]? with _ | x
    ·rw [kindAt_none hx] at hk
     omega
    ·have hkx := kindAt_some hx
     have hb := hL.kind p x hx;rw [hkx] at hk;rcases (show x.kind = 1 ∨ x.kind = 3 ∨ x.kind = 7 ∨ x.kind = 8 ∨ x.kind = 9 ∨ x.kind = 10 ∨ x.kind = 11 by omega) with e | e | e | e | e | e | e
     ·exact c_val_deepr L E b n d p m x w hL hx (.inr (.inr e)) h8 h3 h hd1 hn hl hp
     ·exact c_val_deepr L E b n d p m x w hL hx (.inr (.inl e)) h8 h3 h hd1 hn hl hp
     ·by_cases hs : 400 < x.text.size
      ·exact c_val_deepr L E b n d p m x w hL hx (.inl ⟨e, hs⟩) h8 h3 h hd1 hn hl hp
      ·exact c_val_leaf L E b n d p m x w hL hx (.inl e) h8 h3 h (fun _ => hs)
     ·exact c_val_leaf L E b n d p m x w hL hx (.inr (.inl e)) h8 h3 h (fun h => by omega)
     ·exact c_val_leaf L E b n d p m x w hL hx (.inr (.inr (.inl e))) h8 h3 h (fun h => by omega)
     ·exact c_val_leaf L E b n d p m x w hL hx (.inr (.inr (.inr (.inl e)))) h8 h3 h (fun h => by omega)
     ·exact c_val_leaf L E b n d p m x w hL hx (.inr (.inr (.inr (.inr e)))) h8 h3 h (fun h => by omega)
 ·exact c_val_form L E b n d p m w hL hpl h hk
open Go.RowKit
theorem GrowK.empty {n base B : Nat} {w : World} (hB : B = w.heap.size) (hb : base <= w.heap.size) : GrowK n base (w.alloc (.cells #[] 34)).heap.size (w.alloc (.cells #[] 34)) [] (.slice (some ⟨B, 0, none⟩) 0 0) :=
 ⟨[], fun _ _ => False, rfl, fun _ h => (by cases h), own_empty hB hb, fun g h => (by simp [Value.ownBlock] at h; simp; omega), fun _ _ h => h.elim, fun _ _ _ h => h.elim, fun i d es h => (by simp at h)⟩
theorem own9 {wr W9 w9 : World} {o : Obj} {base n m size : Nat} {e : TypeId} {v : Value} {xs : List Value} (h : wr.ownsRow base e size v n xs) (hb : Below W9.heap.size W9 w9) (he : W9.heap = wr.heap) (hn : n = m) : (w9.alloc o).ownsRow base e size v m xs := by
 subst hn;refine World.ownsRow.alloc (ownsRow_carry h (fun q hq => ?_)) o;have := (h.lt q hq).2;rw [<- he] at this;rw [hb.block q this, he]
theorem grown_at {w w' : World} {r q : Option Nat} (h : r = q) (k : w.grownBy w' q) : w.grownBy w' r := by subst h; exact k
theorem row9 {wr W9 w9 w2 : World} {o row : Obj} {r q : Option Nat} {b : Nat} (hrow : wr.heap[b]? = some row) (hb : Below W9.heap.size W9 w9) (he : W9.heap = wr.heap) (hg : (w9.alloc o).grownBy w2 q) (hr : r = q) (hn : r ≠ some b) : w2.heap[b]? = some row := by
 subst hr;have h1 : b < W9.heap.size := by rw [he]; exact row_lt hrow
 have h2 := hb.size;rw [hg.block b (by simp; omega) (fun e => hn e.symm), Below.heap_alloc w9 o b (by omega), hb.block b h1, he, hrow]
theorem blk9 {wr W9 w9 w2 : World} {o : Obj} {r q : Option Nat} {b : Nat} (hrow : b < wr.heap.size) (hb : Below W9.heap.size W9 w9) (he : W9.heap = wr.heap) (hg : (w9.alloc o).grownBy w2 q) (hr : r = q) (hn : r ≠ some b) : w2.heap[b]? = wr.heap[b]? := by
 subst hr;have h1 : b < W9.heap.size := by rw [he]; exact hrow
 have h2 := hb.size;rw [hg.block b (by simp; omega) (fun e => hn e.symm), Below.heap_alloc w9 o b (by omega), hb.block b h1, he]
theorem old9 {wr W9 w9 : World} {o : Obj} {b : Nat} (hrow : b < wr.heap.size) (hb : Below W9.heap.size W9 w9) (he : W9.heap = wr.heap) : (w9.alloc o).heap[b]? = wr.heap[b]? := by
 have h1 : b < W9.heap.size := by rw [he]; exact hrow
 have h2 := hb.size;rw [Below.heap_alloc w9 o b (by omega), hb.block b h1, he]
end Go.Proofs.YtohcpifekcehjaaGreatDoor
