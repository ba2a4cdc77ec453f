/- Written by wip/tools/pack.py: the texts that FnOrder needs, without what it does not need. No conditions. -/
import Derived.Test.YtffelpdefjkeaaaGreatDoorKFnOrder16
import Derived.Test.YtffelpdefjkeaaaGreatDoorKFnOrder8
import Derived.Test.YtffelpdefjkeaaaGreatDoorKFnOrder12
namespace Go.Proofs.YtffelpdefjkeaaaGreatDoor
open Go.RowKit Go.Lib
/-- The tokens from sign p on. -/
def Tok (L : List SignD) (p : Nat) (T : List Tk) : Prop := (L.drop p).map skT = T
theorem Tok.at' {L : List SignD} {p : Nat} {t : Tk} {r : List Tk} (h : Tok L p (t :: r)) : (∃ x, L[p]? = some x ∧ x.kind = t.1 ∧ x.text = t.2.1 ∧ x.num = t.2.2) ∧ kindAt L p = t.1 ∧ Tok L (p + 1) r := by
  unfold Tok at h
  rcases hd : L.drop p with _ | ⟨x, l⟩
  · rw [hd] at h; cases h
  · rw [hd, List.map_cons] at h
    injection h with h1 h2
    have hx : L[p]? = some x := by
      have h3 := congrArg (fun z : List SignD => z[0]?) hd
      simp only [List.getElem?_drop, Nat.add_zero, List.getElem?_cons_zero] at h3
      exact h3
    have hr : Tok L (p + 1) r := by
      unfold Tok
      rw [← List.drop_drop, hd]
      exact h2
    subst h1
    refine ⟨⟨x, hx, rfl, rfl, rfl⟩, ?_, hr⟩
    unfold kindAt
    rw [hx]
    rfl
theorem Tok.app {L : List SignD} {p : Nat} {a b : List Tk} (h : Tok L p (a ++ b)) : Tok L (p + a.length) b := by
  unfold Tok at h ⊢
  rw [← List.drop_drop, List.map_drop, h, List.drop_left]
/-- Keys ahead of a key are less. -/
theorem key_less {n : Nat} {d : TreeD} (h : shapeT (n + 1) d = true) : ∀ (j i : Nat) (a b : ByteArray), i < j → d.keys[i]? = some a → d.keys[j]? = some b → lessS a b = true := by
  intro j
  induction j with
  | zero => intro i a b hi; omega
  | succ j ih =>
    intro i a b hi ha hb
    have hj := (List.getElem?_eq_some_iff.1 hb).1
    obtain ⟨c, hc⟩ := exists_at (show j < d.keys.length by omega)
    have h1 := (shape_parts h).2.2.2.1 (j + 1) hj
    rw [keyOk_succ hb hc] at h1
    simp only [Bool.and_eq_true] at h1
    rcases Nat.lt_or_ge i j with hij | hij
    · exact lessS_trans3 (ih i a c hij ha hc) h1.2
    · obtain rfl : i = j := by omega
      rw [ha] at hc
      obtain rfl := Option.some.inj hc
      exact h1.2
theorem tw_all {D : Type} {p : D → Bool} : ∀ {l : List D}, (∀ x ∈ l, p x = true) → l.takeWhile p = l
  | [], _ => rfl
  | x :: l, h => by rw [List.takeWhile_cons, if_pos (h x (by simp)), tw_all (fun y hy => h y (by simp [hy]))]
theorem posK_last {ks : List ByteArray} {key : ByteArray} (h : ∀ k ∈ ks, lessS k key = true) : posK ks key = ks.length := by
  unfold posK
  rw [tw_all h]
theorem insL_last {D : Type} (l : List D) (x : D) : insL l l.length x = l ++ [x] := by
  unfold insL
  rw [List.take_length, List.drop_length]
theorem not_contains {ks : List ByteArray} {key : ByteArray} (h : ∀ k ∈ ks, lessS k key = true) : ks.contains key = false := by
  rcases hc : ks.contains key with _ | _
  · rfl
  · rw [contains_hasS] at hc
    have h1 := h key ((hasS_mem ks key).1 hc)
    rw [lessS_irrefl] at h1
    cases h1
/-- What a right tree's other parts are. -/
theorem bad_parts {d : TreeD} (h : badH d = false) : (1 ≤ d.kind ∧ d.kind ≤ 6) ∧ (d.kind ≠ 2 → d.flag = false) ∧ (d.kind ≠ 3 → d.num = 0) ∧ (d.kind ≠ 4 → d.text = ⟨#[]⟩) ∧ (d.kind ≠ 6 → d.keys = []) ∧ (d.kind < 5 → d.kids = []) := by
  unfold badH at h
  simp only [Bool.or_eq_false_iff, Bool.not_eq_false', Bool.and_eq_false_iff, bne_eq_false_iff_eq, decide_eq_false_iff_not, Nat.not_lt, Nat.le_zero, List.length_eq_zero_iff] at h
  obtain ⟨⟨⟨⟨⟨h1, h2⟩, h3⟩, h4⟩, h5⟩, h6⟩ := h
  refine ⟨by unfold inB at h1; exact of_decide_eq_true h1, fun hk => h2.resolve_right hk, fun hk => h3.resolve_right hk, fun hk => ?_, fun hk => h5.resolve_right hk, fun hk => h6.resolve_right (by omega)⟩
  have h7 := h4.resolve_right hk
  rw [List.isEmpty_iff, ByteArray.toList_eq] at h7
  exact ByteArray.ext (Array.toList_inj.1 h7)
theorem tk_pos {n : Nat} {d : TreeD} (h : shapeT n d = true) : 1 ≤ (tkL n d).length := by
  cases n with
  | zero => cases h
  | succ n =>
    rw [tkL_succ]
    repeat' split
    all_goals simp
/-- A tree's first token is none of the closing ones. -/
theorem first_kind {n p : Nat} {d : TreeD} {L : List SignD} {rest : List Tk} (h : shapeT n d = true) (hT : Tok L p (tkL n d ++ rest)) : kindAt L p ≠ 4 := by
  cases n with
  | zero => cases h
  | succ n =>
    rw [tkL_succ] at hT
    by_cases c1 : d.kind = 1
    · rw [if_pos c1] at hT; rw [(Tok.at' hT).2.1]; decide
    rw [if_neg c1] at hT
    by_cases c2 : d.kind = 2
    · rw [if_pos c2] at hT
      cases hfl : d.flag with
      | true => rw [hfl] at hT; rw [(Tok.at' (t := mk 9) hT).2.1]; decide
      | false => rw [hfl] at hT; rw [(Tok.at' (t := mk 10) hT).2.1]; decide
    rw [if_neg c2] at hT
    by_cases c3 : d.kind = 3
    · rw [if_pos c3] at hT; rw [(Tok.at' hT).2.1]; simp
    rw [if_neg c3] at hT
    by_cases c4 : d.kind = 4
    · rw [if_pos c4] at hT; rw [(Tok.at' hT).2.1]; simp
    rw [if_neg c4] at hT
    by_cases c5 : d.kind = 5
    · rw [if_pos c5] at hT; rw [(Tok.at' (t := mk 3) hT).2.1]; decide
    · rw [if_neg c5] at hT; rw [(Tok.at' (t := mk 1) hT).2.1]; decide
def BackT (n : Nat) (d : TreeD) : Prop := ∀ (L : List SignD) (E : Int) (p m fuel deep : Nat) (rest : List Tk), Tok L p (tkL n d ++ rest) → deep + depthT n d ≤ 9 → m + sizeT n d ≤ 300 → (tkL n d).length ≤ fuel →
    readJ L E fuel (.value deep) p m = .good d (p + (tkL n d).length) (m + sizeT n d)
theorem seq_kids {D : Type} {l : List D} {k : Nat} {t : D} (h : l[k]? = some t) : l.drop k = t :: l.drop (k + 1) := by
  obtain ⟨h1, h2⟩ := List.getElem?_eq_some_iff.1 h
  rw [List.drop_eq_getElem_cons h1, h2]
theorem list_back {n : Nat} {l : List TreeD} (hb : ∀ t ∈ l, BackT n t) (hp : ∀ t ∈ l, 1 ≤ (tkL n t).length) : ∀ (r k : Nat) (t : TreeD), l[k]? = some t → k + r + 1 = l.length → ∀ (L : List SignD) (E : Int) (p m fuel deep : Nat) (rest : List Tk),
    Tok L p (tkL n t ++ (seqP (pieceP [mk 6] (fun _ => []) (tkL n) l) (k + 1) r ++ mk 4 :: rest)) → (∀ t ∈ l, deep + 1 + depthT n t ≤ 9) → m + szL (sizeT n) (l.drop k) ≤ 300 → (tkL n t).length + (seqP (pieceP [mk 6] (fun _ => []) (tkL n) l) (k + 1) r).length + 1 ≤ fuel →
    readJ L E fuel (.list deep (l.take k)) p m = .good (tList l) (p + (tkL n t).length + (seqP (pieceP [mk 6] (fun _ => []) (tkL n) l) (k + 1) r).length + 1) (m + szL (sizeT n) (l.drop k)) := by
  intro r
  induction r with
  | zero =>
    intro k t hk hkr L E p m fuel deep rest hT hd hm hf
    obtain ⟨f, rfl⟩ : ∃ f, fuel = f + 1 := ⟨fuel - 1, by omega⟩
    have htm := List.mem_of_getElem? hk
    have hsz : szL (sizeT n) (l.drop k) = sizeT n t := by
      rw [seq_kids hk, List.drop_of_length_le (by omega)]
      simp [szL]
    have hv := hb t htm L E p m f (deep + 1) _ hT (hd t htm) (by omega) (by simp only [seqP, List.length_nil] at hf; omega)
    have h2 := hT.app
    simp only [seqP, List.nil_append] at h2
    have h3 := h2.at'.2.1
    rw [readJ_list, hv]
    simp only
    rw [if_pos (show kindAt L (p + (tkL n t).length) = 4 from h3), hsz]
    have hl : l.take k ++ [t] = l := by rw [← take_next hk, List.take_of_length_le (by omega)]
    rw [hl]
    rfl
  | succ r ih =>
    intro k t hk hkr L E p m fuel deep rest hT hd hm hf
    obtain ⟨f, rfl⟩ : ∃ f, fuel = f + 1 := ⟨fuel - 1, by omega⟩
    have htm := List.mem_of_getElem? hk
    obtain ⟨u, hu⟩ := exists_at (show k + 1 < l.length by omega)
    have hsz : szL (sizeT n) (l.drop k) = sizeT n t + szL (sizeT n) (l.drop (k + 1)) := by
      rw [seq_kids hk]
      simp [szL]
    rw [seqP_succ, piece_some hu, if_neg (by omega)] at hT hf ⊢
    simp only [List.append_nil, List.cons_append, List.nil_append, List.length_append, List.length_cons, List.append_assoc] at hT hf ⊢
    have hv := hb t htm L E p m f (deep + 1) _ hT (hd t htm) (by omega) (by omega)
    have h2 := hT.app
    have h3 := h2.at'
    have htp := hp t htm
    rw [readJ_list, hv]
    simp only
    rw [if_neg (by rw [h3.2.1]; decide), if_pos (show kindAt L (p + (tkL n t).length) = 6 from h3.2.1), ← take_next hk]
    rw [ih (k + 1) u hu (by omega) L E (p + (tkL n t).length + 1) (m + sizeT n t) f deep rest h3.2.2 hd (by omega) (by omega), hsz]
    congr 1
    · omega
    · omega
theorem pairs_back {n : Nat} {ks : List ByteArray} {l : List TreeD} (hb : ∀ t ∈ l, BackT n t) (hp : ∀ t ∈ l, 1 ≤ (tkL n t).length) (hlen : ks.length = l.length) (hks : ∀ k ∈ ks, k.size ≤ 400) (hless : ∀ (j i : Nat) (a b : ByteArray), i < j → ks[i]? = some a → ks[j]? = some b → lessS a b = true) : ∀ (r k : Nat) (key : ByteArray) (t : TreeD), ks[k]? = some key → l[k]? = some t → k + r + 1 = l.length → ∀ (L : List SignD) (E : Int) (p m fuel deep : Nat) (rest : List Tk),
    Tok L p ((7, key, 0) :: mk 5 :: (tkL n t ++ (seqP (pieceP [mk 6] (tkPre ks) (tkL n) l) (k + 1) r ++ mk 2 :: rest))) → (∀ t ∈ l, deep + 1 + depthT n t ≤ 9) → m + szL (sizeT n) (l.drop k) ≤ 300 → 2 + (tkL n t).length + (seqP (pieceP [mk 6] (tkPre ks) (tkL n) l) (k + 1) r).length + 1 ≤ fuel →
    readJ L E fuel (.pairs deep (ks.take k) (l.take k)) p m = .good (tMap ks l) (p + 2 + (tkL n t).length + (seqP (pieceP [mk 6] (tkPre ks) (tkL n) l) (k + 1) r).length + 1) (m + szL (sizeT n) (l.drop k)) := by
  intro r
  induction r with
  | zero =>
    intro k key t hkey hk hkr L E p m fuel deep rest hT hd hm hf
    obtain ⟨f, rfl⟩ : ∃ f, fuel = f + 1 := ⟨fuel - 1, by omega⟩
    have htm := List.mem_of_getElem? hk
    have hlk : ∀ x ∈ ks.take k, lessS x key = true := fun x hx => by
      obtain ⟨i, hi⟩ := List.getElem?_of_mem hx
      rw [List.getElem?_take] at hi
      split at hi
      · exact hless k i x key (by omega) hi hkey
      · cases hi
    have hsz : szL (sizeT n) (l.drop k) = sizeT n t := by
      rw [seq_kids hk, List.drop_of_length_le (by omega)]
      simp [szL]
    obtain ⟨⟨x, hx, hx1, hx2, -⟩, -, hT1⟩ := hT.at'
    obtain ⟨-, hk5, hT2⟩ := hT1.at'
    have hv := hb t htm L E (p + 2) m f (deep + 1) _ hT2 (hd t htm) (by omega) (by omega)
    have h2 := hT2.app
    simp only [seqP, List.nil_append] at h2
    have h3 := h2.at'.2.1
    have hxt : x.text = key := hx2
    have hpk : posK (ks.take k) key = (ks.take k).length := posK_last hlk
    have hkl : (ks.take k).length = k := by rw [List.length_take]; omega
    have hll : (l.take k).length = k := by rw [List.length_take]; omega
    rw [readJ_pairs, hx]
    simp only
    rw [if_neg (by rw [hx1]; simp), hxt, if_neg (by have := hks key (List.mem_of_getElem? hkey); omega), if_neg (by rw [not_contains hlk]; decide), if_neg (by rw [hk5]; decide), hv]
    simp only
    rw [if_pos (show kindAt L (p + 2 + (tkL n t).length) = 2 from h3), hpk, insL_last, hkl]
    rw [show insL (l.take k) k t = l.take k ++ [t] by
      have := insL_last (l.take k) t
      rw [hll] at this
      exact this, ← take_next hk, ← take_next hkey, List.take_of_length_le (by omega), List.take_of_length_le (by omega), hsz]
    rfl
  | succ r ih =>
    intro k key t hkey hk hkr L E p m fuel deep rest hT hd hm hf
    obtain ⟨f, rfl⟩ : ∃ f, fuel = f + 1 := ⟨fuel - 1, by omega⟩
    have htm := List.mem_of_getElem? hk
    obtain ⟨u, hu⟩ := exists_at (show k + 1 < l.length by omega)
    obtain ⟨kv, hkv⟩ := exists_at (show k + 1 < ks.length by omega)
    have hlk : ∀ x ∈ ks.take k, lessS x key = true := fun x hx => by
      obtain ⟨i, hi⟩ := List.getElem?_of_mem hx
      rw [List.getElem?_take] at hi
      split at hi
      · exact hless k i x key (by omega) hi hkey
      · cases hi
    have hsz : szL (sizeT n) (l.drop k) = sizeT n t + szL (sizeT n) (l.drop (k + 1)) := by
      rw [seq_kids hk]
      simp [szL]
    have htk : tkPre ks (k + 1) = [(7, kv, 0), mk 5] := by unfold tkPre; rw [hkv]
    rw [seqP_succ, piece_some hu, if_neg (by omega), htk] at hT hf ⊢
    simp only [List.cons_append, List.nil_append, List.length_append, List.length_cons, List.append_assoc] at hT hf ⊢
    obtain ⟨⟨x, hx, hx1, hx2, -⟩, -, hT1⟩ := hT.at'
    obtain ⟨-, hk5, hT2⟩ := hT1.at'
    have hv := hb t htm L E (p + 2) m f (deep + 1) _ hT2 (hd t htm) (by omega) (by omega)
    have h2 := hT2.app
    have h3 := h2.at'
    have htp := hp t htm
    have hxt : x.text = key := hx2
    have hpk : posK (ks.take k) key = (ks.take k).length := posK_last hlk
    have hkl : (ks.take k).length = k := by rw [List.length_take]; omega
    have hll : (l.take k).length = k := by rw [List.length_take]; omega
    rw [readJ_pairs, hx]
    simp only
    rw [if_neg (by rw [hx1]; simp), hxt, if_neg (by have := hks key (List.mem_of_getElem? hkey); omega), if_neg (by rw [not_contains hlk]; decide), if_neg (by rw [hk5]; decide), hv]
    simp only
    rw [if_neg (by rw [h3.2.1]; decide), if_pos (show kindAt L (p + 2 + (tkL n t).length) = 6 from h3.2.1), hpk, insL_last, hkl]
    rw [show insL (l.take k) k t = l.take k ++ [t] by
      have := insL_last (l.take k) t
      rw [hll] at this
      exact this, ← take_next hk, ← take_next hkey]
    rw [ih (k + 1) kv u hkv hu (by omega) L E (p + 2 + (tkL n t).length + 1) (m + sizeT n t) f deep rest h3.2.2 hd (by omega) (by omega), hsz]
    congr 1
    · omega
    · omega
theorem back_tree : ∀ (n : Nat) (d : TreeD), shapeT n d = true → BackT n d
  | 0, _, h => by cases h
  | n + 1, d, h => by
    have hkid : ∀ t ∈ d.kids, shapeT n t = true ∧ depthT n t + 1 ≤ depthT (n + 1) d := fun t ht => by
      obtain ⟨i, hi⟩ := List.getElem?_of_mem ht
      exact ⟨shape_kid h hi, (depth_kid hi).2⟩
    have hb : ∀ t ∈ d.kids, BackT n t := fun t ht => back_tree n t (hkid t ht).1
    have hp : ∀ t ∈ d.kids, 1 ≤ (tkL n t).length := fun t ht => tk_pos (hkid t ht).1
    obtain ⟨b1, b2, b3, b4, b5, b6⟩ := bad_parts (shape_parts h).1
    have hstr := strB_utf (shape_parts h).2.1
    have hlen := (shape_parts h).2.2.1
    have hkeys : ∀ k ∈ d.keys, k.size ≤ 400 := fun k hk => by
      obtain ⟨i, hi⟩ := List.getElem?_of_mem hk
      exact shape_key h hi
    have hless := key_less h
    intro L E p m fuel deep rest hT hd hm hf
    have hd1 : 1 ≤ depthT (n + 1) d := by rw [depthT_succ]; omega
    have hs1 : 1 ≤ sizeT (n + 1) d := by rw [sizeT_succ]; omega
    have hdk : ∀ t ∈ d.kids, deep + 1 + depthT n t ≤ 9 := fun t ht => by have := (hkid t ht).2; omega
    have hf1 := tk_pos h
    obtain ⟨f, rfl⟩ : ∃ f, fuel = f + 1 := ⟨fuel - 1, by omega⟩
    have hz0 : d.kids = [] → sizeT (n + 1) d = 1 := fun e => by rw [sizeT_succ, e]; rfl
    have hzk : sizeT (n + 1) d = 1 + szL (sizeT n) d.kids := sizeT_succ n d
    obtain ⟨z, hz⟩ : ∃ z, z = sizeT (n + 1) d := ⟨_, rfl⟩
    rw [← hz] at hm hs1 hz0 hzk ⊢
    have hdeep : deep ≤ 8 := by omega
    clear hd hd1 hz
    rw [tkL_succ] at hT hf ⊢
    obtain ⟨kd, fl, nm, tx, ks, kids⟩ := d
    simp only at hstr hkid hb hp b1 b2 b3 b4 b5 b6 hkeys hless hdk hz0 hzk hT hf ⊢
    by_cases c1 : kd = 1
    · rw [if_pos c1] at hT hf ⊢
      obtain ⟨⟨x, hx, hx1, hx2, hx3⟩, hk, -⟩ := hT.at'
      have hk' : kindAt L p = 11 := hk
      have hxk : x.kind = 11 := hx1
      have hz1 := hz0 (b6 (by omega))
      rw [b2 (by omega), b3 (by omega), b4 (by omega), b5 (by omega), b6 (by omega), c1, hz1]
      rw [readJ_value, if_neg (by omega), if_neg (by omega), if_neg (by omega), hx]
      simp only
      rw [if_neg (by omega), if_neg (by omega), if_pos hxk]
      rfl
    rw [if_neg c1] at hT hf ⊢
    by_cases c2 : kd = 2
    · rw [if_pos c2] at hT hf ⊢
      have hz1 := hz0 (b6 (by omega))
      rw [b3 (by omega), b4 (by omega), b5 (by omega), b6 (by omega), c2, hz1]
      cases fl with
      | true =>
        obtain ⟨⟨x, hx, hx1, hx2, hx3⟩, hk, -⟩ := hT.at'
        have hk' : kindAt L p = 9 := hk
        have hxk : x.kind = 9 := hx1
        rw [readJ_value, if_neg (by omega), if_neg (by omega), if_neg (by omega), hx]
        simp only
        rw [if_neg (by omega), if_neg (by omega), if_neg (by omega), if_neg (by omega), if_neg (by omega), hxk]
        rfl
      | false =>
        obtain ⟨⟨x, hx, hx1, hx2, hx3⟩, hk, -⟩ := hT.at'
        have hk' : kindAt L p = 10 := hk
        have hxk : x.kind = 10 := hx1
        rw [readJ_value, if_neg (by omega), if_neg (by omega), if_neg (by omega), hx]
        simp only
        rw [if_neg (by omega), if_neg (by omega), if_neg (by omega), if_neg (by omega), if_neg (by omega), hxk]
        rfl
    rw [if_neg c2] at hT hf ⊢
    by_cases c3 : kd = 3
    · rw [if_pos c3] at hT hf ⊢
      obtain ⟨⟨x, hx, hx1, hx2, hx3⟩, hk, -⟩ := hT.at'
      have hk' : kindAt L p = 8 := hk
      have hxk : x.kind = 8 := hx1
      have hxn : x.num = nm := hx3
      have hz1 := hz0 (b6 (by omega))
      rw [b2 (by omega), b4 (by omega), b5 (by omega), b6 (by omega), c3, hz1]
      rw [readJ_value, if_neg (by omega), if_neg (by omega), if_neg (by omega), hx]
      simp only
      rw [if_neg (by omega), if_pos hxk, hxn]
      rfl
    rw [if_neg c3] at hT hf ⊢
    by_cases c4 : kd = 4
    · rw [if_pos c4] at hT hf ⊢
      obtain ⟨⟨x, hx, hx1, hx2, hx3⟩, hk, -⟩ := hT.at'
      have hk' : kindAt L p = 7 := hk
      have hxk : x.kind = 7 := hx1
      have hxt : x.text = tx := hx2
      have hz1 := hz0 (b6 (by omega))
      rw [b2 (by omega), b3 (by omega), b5 (by omega), b6 (by omega), c4, hz1]
      rw [readJ_value, if_neg (by omega), if_neg (by omega), if_neg (by omega), hx]
      simp only
      rw [if_pos hxk, hxt, if_neg (by omega)]
      rfl
    rw [if_neg c4] at hT hf ⊢
    by_cases c5 : kd = 5
    · rw [if_pos c5] at hT hf ⊢
      rw [List.append_assoc, List.append_assoc] at hT
      obtain ⟨⟨x, hx, hx1, hx2, hx3⟩, hk, hT1⟩ := Tok.at' (t := mk 3) hT
      have hk' : kindAt L p = 3 := hk
      have hxk : x.kind = 3 := hx1
      rw [b2 (by omega), b3 (by omega), b4 (by omega), b5 (by omega), c5]
      rw [readJ_value, if_neg (by omega), if_neg (by omega), if_neg (by omega), hx]
      simp only
      rw [if_neg (by omega), if_neg (by omega), if_neg (by omega), if_pos hxk]
      rcases hl : kids with _ | ⟨t, r⟩
      · rw [hl] at hT1 hz0
        obtain ⟨-, hk2, -⟩ := Tok.at' (t := mk 4) hT1
        rw [if_pos (show kindAt L (p + 1) = 4 from hk2), hz0 rfl]
        rfl
      · have h0 : kids[0]? = some t := by rw [hl]; rfl
        rw [← hl]
        obtain ⟨q, hq⟩ : ∃ q, kids.length = q + 1 := ⟨r.length, by rw [hl]; rfl⟩
        rw [hq, seqP_succ, piece_some h0, if_pos rfl] at hT1 hf ⊢
        simp only [List.nil_append, List.append_assoc, List.length_append, List.length_cons, List.length_nil, List.cons_append] at hT1 hf ⊢
        have hne : kindAt L (p + 1) ≠ 4 := first_kind (hkid t (List.mem_of_getElem? h0)).1 hT1
        rw [if_neg hne]
        have hb2 := list_back hb hp q 0 t h0 (by omega) L E (p + 1) (m + 1) f deep rest hT1 hdk (by rw [List.drop_zero]; omega) (by omega)
        rw [List.take_zero, List.drop_zero] at hb2
        rw [hb2]
        unfold tList
        congr 1
        · omega
        · omega
    · rw [if_neg c5] at hT hf ⊢
      have c6 : kd = 6 := by omega
      rw [List.append_assoc, List.append_assoc] at hT
      obtain ⟨⟨x, hx, hx1, hx2, hx3⟩, hk, hT1⟩ := Tok.at' (t := mk 1) hT
      have hk' : kindAt L p = 1 := hk
      have hxk : x.kind = 1 := hx1
      have hkl : ks.length = kids.length := by
        unfold lensOk at hlen
        simp only [Bool.not_eq_true', Bool.and_eq_false_iff, decide_eq_false_iff_not, ne_eq, Decidable.not_not] at hlen
        exact hlen.resolve_left (by simp [c6])
      rw [b2 (by omega), b3 (by omega), b4 (by omega), c6]
      rw [readJ_value, if_neg (by omega), if_neg (by omega), if_neg (by omega), hx]
      simp only
      rw [if_neg (by omega), if_neg (by omega), if_neg (by omega), if_neg (by omega), if_pos hxk]
      rcases hl : kids with _ | ⟨t, r⟩
      · rw [hl] at hT1 hz0 hkl
        obtain ⟨-, hk2, -⟩ := Tok.at' (t := mk 2) hT1
        rw [if_pos (show kindAt L (p + 1) = 2 from hk2), hz0 rfl, List.length_eq_zero_iff.1 hkl]
        rfl
      · have h0 : kids[0]? = some t := by rw [hl]; rfl
        obtain ⟨q, hq⟩ : ∃ q, kids.length = q + 1 := ⟨r.length, by rw [hl]; rfl⟩
        rw [← hl]
        obtain ⟨key, hkey⟩ := exists_at (show 0 < ks.length by omega)
        have htk : tkPre ks 0 = [(7, key, 0), mk 5] := by unfold tkPre; rw [hkey]
        rw [hq, seqP_succ, piece_some h0, if_pos rfl, htk] at hT1 hf ⊢
        simp only [List.nil_append, List.append_assoc, List.length_append, List.length_cons, List.length_nil, List.cons_append] at hT1 hf ⊢
        have hk7 : kindAt L (p + 1) = 7 := (Tok.at' hT1).2.1
        rw [if_neg (by omega)]
        have hb2 := pairs_back hb hp hkl hkeys hless q 0 key t hkey h0 (by omega) L E (p + 1) (m + 1) f deep rest hT1 hdk (by rw [List.drop_zero]; omega) (by omega)
        rw [List.take_zero, List.take_zero, List.drop_zero] at hb2
        rw [hb2]
        unfold tMap
        congr 1
        · omega
        · omega
end Go.Proofs.YtffelpdefjkeaaaGreatDoor
