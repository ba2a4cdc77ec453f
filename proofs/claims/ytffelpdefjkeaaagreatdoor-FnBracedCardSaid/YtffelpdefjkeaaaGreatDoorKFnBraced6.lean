/- Written by wip/tools/pack.py: the texts that FnBraced needs, without what it does not need. No conditions. -/
import Derived.Test.YtffelpdefjkeaaaGreatDoorKFnBraced5
import Derived.Test.YtffelpdefjkeaaaGreatDoorKFnBraced3
import Derived.Test.YtffelpdefjkeaaaGreatDoorKFnBraced4
import Derived.Lib.ItoaNum
import Derived.Lib.AtoiAllCases
import Derived.Shelf.LaysC
import Derived.Shelf.Strconv.AtoiAll
import Derived.Test.YtffelpdefjkeaaaGreatDoorKFnBraced1
namespace Go.Proofs.YtffelpdefjkeaaaGreatDoor
open Go.RowKit Go.Lib
/-- A rune that has a text. -/
def okR (r : Nat) : Prop := r ≤ 1114111 ∧ ¬ (55296 ≤ r ∧ r ≤ 57343)
/-- The text of a rune is read as that rune. -/
theorem dec_text {r : Nat} (h : okR r) (m : List UInt8) : decodeL ((textB r).data.toList ++ m) = (r, (textB r).data.toList.length) ∧ decodeL ((textB r).data.toList ++ m) ≠ (65533, 1) ∧ 1 ≤ (textB r).data.toList.length := by
  have hl := textB_list r
  obtain ⟨l, hll⟩ : ∃ l, l = (textB r).data.toList := ⟨_, rfl⟩
  rw [← hll] at hl ⊢
  clear hll
  unfold okR at h
  rw [decodeL_N]
  unfold encN4 at hl
  rw [if_neg (by omega)] at hl
  by_cases c1 : r < 128
  · rw [if_pos c1] at hl
    rcases l with _ | ⟨x, _ | ⟨y, l⟩⟩
    · cases hl
    · simp only [List.map_cons, List.map_nil, List.cons.injEq, and_true] at hl
      have w := (rune_way1 ([x] ++ m).length (([x] ++ m).getD 0 0).toNat (([x] ++ m).getD 1 0).toNat (([x] ++ m).getD 2 0).toNat (([x] ++ m).getD 3 0).toNat (by simp; omega))
      have he : encN4 (([x] ++ m).getD 0 0).toNat = [(([x] ++ m).getD 0 0).toNat] := by
        simp only [List.cons_append, List.nil_append, List.getD_cons_zero]
        unfold encN4
        rw [if_neg (by omega), if_pos (by omega)]
      refine ⟨?_, w.1.1 he, by simp⟩
      rw [w.2 he]
      simp only [List.cons_append, List.nil_append, List.getD_cons_zero, hl, List.length_cons, List.length_nil]
    · simp at hl
  rw [if_neg c1] at hl
  by_cases c2 : r < 2048
  · rw [if_pos c2] at hl
    rcases l with _ | ⟨x, _ | ⟨y, _ | ⟨z, l⟩⟩⟩
    · cases hl
    · simp at hl
    · simp only [List.map_cons, List.map_nil, List.cons.injEq, and_true] at hl
      obtain ⟨h1, h2⟩ := hl
      simp only [List.cons_append, List.nil_append, List.getD_cons_zero, List.getD_cons_succ]
      have w := rune_way2 (x :: y :: m).length x.toNat y.toNat (m.getD 0 0).toNat (m.getD 1 0).toNat (by omega) (by omega) (by omega)
      have hp : partN x.toNat = x.toNat - 192 := by unfold partN; rw [if_neg (by omega), if_neg (by omega), if_pos (by omega)]
      have hg : gathN x.toNat y.toNat (m.getD 0 0).toNat (m.getD 1 0).toNat 2 = r := by show 64 * partN x.toNat + y.toNat - 128 = r; rw [hp]; omega
      have hv := w.1.1 ⟨by simp, by unfold contN; simp; omega, by
        rw [hg]
        unfold encN4
        rw [if_neg (by omega), if_neg (by omega), if_pos (by omega), h1, h2]⟩
      refine ⟨?_, hv, by simp⟩
      rw [w.2 hv, hg]
      rfl
    · simp at hl
  rw [if_neg c2] at hl
  by_cases c3 : r < 65536
  · rw [if_pos c3] at hl
    rcases l with _ | ⟨x, _ | ⟨y, _ | ⟨z, _ | ⟨u, l⟩⟩⟩⟩
    · cases hl
    · simp at hl
    · simp at hl
    · simp only [List.map_cons, List.map_nil, List.cons.injEq, and_true] at hl
      obtain ⟨h1, h2, h3⟩ := hl
      simp only [List.cons_append, List.nil_append, List.getD_cons_zero, List.getD_cons_succ]
      have w := rune_way3 (x :: y :: z :: m).length x.toNat y.toNat z.toNat (m.getD 0 0).toNat (by omega) (by omega) (by omega) (by omega)
      have hp : partN x.toNat = x.toNat - 224 := by unfold partN; rw [if_neg (by omega), if_pos (by omega)]
      have hg : gathN x.toNat y.toNat z.toNat (m.getD 0 0).toNat 3 = r := by show 64 * (64 * partN x.toNat + y.toNat - 128) + z.toNat - 128 = r; rw [hp]; omega
      have hv := w.1.1 ⟨by simp, by unfold contN; simp; omega, by unfold contN; simp; omega, by
        rw [hg]
        unfold encN4
        rw [if_neg (by omega), if_neg (by omega), if_neg (by omega), if_pos (by omega), h1, h2, h3]⟩
      refine ⟨?_, hv, by simp⟩
      rw [w.2 hv, hg]
      rfl
    · simp at hl
  rw [if_neg c3] at hl
  rcases l with _ | ⟨x, _ | ⟨y, _ | ⟨z, _ | ⟨u, _ | ⟨v, l⟩⟩⟩⟩⟩
  · cases hl
  · simp at hl
  · simp at hl
  · simp at hl
  · simp only [List.map_cons, List.map_nil, List.cons.injEq, and_true] at hl
    obtain ⟨h1, h2, h3, h4⟩ := hl
    simp only [List.cons_append, List.nil_append, List.getD_cons_zero, List.getD_cons_succ]
    have w := rune_way4 (x :: y :: z :: u :: m).length x.toNat y.toNat z.toNat u.toNat (by omega) (by omega) (by omega) (by omega) (by omega)
    have hp : partN x.toNat = x.toNat - 240 := by unfold partN; rw [if_pos (by omega)]
    have hg : gathN x.toNat y.toNat z.toNat u.toNat 4 = r := by show 64 * (64 * (64 * partN x.toNat + y.toNat - 128) + z.toNat - 128) + u.toNat - 128 = r; rw [hp]; omega
    have hv := w.1.1 ⟨by simp, by unfold contN; simp; omega, by unfold contN; simp; omega, by unfold contN; simp; omega, by
      rw [hg]
      unfold encN4
      rw [if_neg (by omega), if_neg (by omega), if_neg (by omega), if_neg (by omega), h1, h2, h3, h4]⟩
    refine ⟨?_, hv, by simp⟩
    rw [w.2 hv, hg]
    rfl
  · simp at hl
def textsB (rs : List Nat) : List UInt8 := rs.flatMap fun (r : Nat) => (textB r).data.toList
/-- The runes of gathered texts. -/
theorem runes_texts (x : ByteArray) : ∀ (rs : List Nat) (i : Nat), (∀ r ∈ rs, okR r) → x.data.toList.drop i = textsB rs → runesAt x i = some rs
  | [], i, _, h => by
    refine runesAt_end ?_
    intro hi
    have h1 := congrArg List.length h
    rw [List.length_drop, Array.length_toList] at h1
    have h2 : x.data.size = x.size := rfl
    simp [textsB] at h1
    omega
  | r :: rs, i, hok, h => by
    have h0 : textsB (r :: rs) = (textB r).data.toList ++ textsB rs := by unfold textsB; rw [List.flatMap_cons]
    rw [h0] at h
    obtain ⟨d1, d2, d3⟩ := dec_text (hok r (by simp)) (textsB rs)
    have hi : i < x.size := by
      rcases Nat.lt_or_ge i x.size with hi | hi
      · exact hi
      · rw [List.drop_of_length_le (by rw [Array.length_toList]; exact hi)] at h
        have h1 := congrArg List.length h
        rw [List.length_append, List.length_nil] at h1
        omega
    have hd := decodeL_drop x i hi
    rw [h] at hd
    rw [runesAt_step hi (by rw [← hd]; exact d2), ← hd, d1]
    rw [runes_texts x rs (i + (textB r).data.toList.length) (fun y hy => hok y (by simp [hy])) (by rw [← List.drop_drop, h, List.drop_left])]
    rfl
/-- One round of a quoted text costs no less than its rune told anew. -/
theorem quotN_cost {s : ByteArray} {j : Nat} (hj : j < s.size) (h34 : byteI s j ≠ 34) (h : ¬ (quotN s j).2 < 0) : ∃ r : Nat, (quotN s j).1 = (r : Int) ∧ okR r ∧ ((j + (qR r).length : Nat) : Int) ≤ (quotN s j).2 := by
  have hq : ∀ r : Nat, r < 128 → (qR r) = qN r := fun r hr => by unfold qR; rw [if_pos hr]
  unfold quotN at h ⊢
  by_cases c0 : byteI s j = 92
  · rw [if_pos c0] at h ⊢
    have hr1 := fourB_range s (j + 1 + 1)
    have hr7 := fourB_range s (j + 1 + 7)
    have b1 := byteI_range s (j + 1)
    have low : ∀ (r : Nat), okR r → (qR r).length ≤ 2 → ∀ y : Int × Int, y = ((r : Int), ((j + 1 : Nat) : Int) + 1) → ∃ r : Nat, y.1 = (r : Int) ∧ okR r ∧ ((j + (qR r).length : Nat) : Int) ≤ y.2 := by
      intro r h1 h2 y hy
      rw [hy]
      exact ⟨r, rfl, h1, by simp only; omega⟩
    unfold escB at h ⊢
    by_cases e0 : j + 1 < s.size
    case neg => rw [if_neg e0] at h; exact absurd (show (-1 : Int) < 0 by decide) h
    rw [if_pos e0] at h ⊢
    by_cases e1 : byteI s (j + 1) = 34 ∨ byteI s (j + 1) = 92 ∨ byteI s (j + 1) = 47
    · rw [if_pos e1]
      rcases e1 with e1 | e1 | e1
      · rw [e1]; exact low 34 (by unfold okR; omega) (by decide) _ rfl
      · rw [e1]; exact low 92 (by unfold okR; omega) (by decide) _ rfl
      · rw [e1]; exact low 47 (by unfold okR; omega) (by decide) _ rfl
    rw [if_neg e1] at h ⊢
    by_cases e2 : byteI s (j + 1) = 98
    · rw [if_pos e2]; exact low 8 (by unfold okR; omega) (by decide) _ rfl
    rw [if_neg e2] at h ⊢
    by_cases e3 : byteI s (j + 1) = 102
    · rw [if_pos e3]; exact low 12 (by unfold okR; omega) (by decide) _ rfl
    rw [if_neg e3] at h ⊢
    by_cases e4 : byteI s (j + 1) = 110
    · rw [if_pos e4]; exact low 10 (by unfold okR; omega) (by decide) _ rfl
    rw [if_neg e4] at h ⊢
    by_cases e5 : byteI s (j + 1) = 114
    · rw [if_pos e5]; exact low 13 (by unfold okR; omega) (by decide) _ rfl
    rw [if_neg e5] at h ⊢
    by_cases e6 : byteI s (j + 1) = 116
    · rw [if_pos e6]; exact low 9 (by unfold okR; omega) (by decide) _ rfl
    rw [if_neg e6] at h ⊢
    by_cases e7 : byteI s (j + 1) = 117
    case neg => rw [if_neg e7] at h; exact absurd (show (-1 : Int) < 0 by decide) h
    rw [if_pos e7] at h ⊢
    by_cases d1 : fourB s (j + 1 + 1) < 0 ∨ inB (fourB s (j + 1 + 1)) 56320 57343 = true
    case pos => rw [if_pos d1] at h; exact absurd (show (-1 : Int) < 0 by decide) h
    rw [if_neg d1] at h ⊢
    have d1' := not_or.1 d1
    have i1 : ¬ (56320 ≤ fourB s (j + 1 + 1) ∧ fourB s (j + 1 + 1) ≤ 57343) := by have := d1'.2; unfold inB at this; simpa using this
    by_cases d2 : inB (fourB s (j + 1 + 1)) 55296 56319 = false
    · rw [if_pos d2]
      have i2 : ¬ (55296 ≤ fourB s (j + 1 + 1) ∧ fourB s (j + 1 + 1) ≤ 56319) := by unfold inB at d2; simpa using d2
      have hqr := qR_len (fourB s (j + 1 + 1)).toNat
      refine ⟨(fourB s (j + 1 + 1)).toNat, by simp only; omega, by unfold okR; omega, by simp only; omega⟩
    rw [if_neg d2] at h ⊢
    have i2 : 55296 ≤ fourB s (j + 1 + 1) ∧ fourB s (j + 1 + 1) ≤ 56319 := by unfold inB at d2; simpa using d2
    by_cases d3 : s.size < j + 1 + 7 ∨ byteI s (j + 1 + 5) ≠ 92 ∨ byteI s (j + 1 + 6) ≠ 117
    case pos => rw [if_pos d3] at h; exact absurd (show (-1 : Int) < 0 by decide) h
    rw [if_neg d3] at h ⊢
    by_cases d4 : inB (fourB s (j + 1 + 7)) 56320 57343 = true
    case neg => rw [if_neg d4] at h; exact absurd (show (-1 : Int) < 0 by decide) h
    rw [if_pos d4]
    have i4 : 56320 ≤ fourB s (j + 1 + 7) ∧ fourB s (j + 1 + 7) ≤ 57343 := by unfold inB at d4; simpa using d4
    have hqr := qR_len (65536 + 1024 * (fourB s (j + 1 + 1) - 55296) + fourB s (j + 1 + 7) - 56320).toNat
    refine ⟨(65536 + 1024 * (fourB s (j + 1 + 1) - 55296) + fourB s (j + 1 + 7) - 56320).toNat, by simp only; omega, by unfold okR; omega, by simp only; omega⟩
  · rw [if_neg c0] at h ⊢
    by_cases c1 : (runeB s j).1 < 32
    · rw [if_pos c1] at h; exact absurd (show (-1 : Int) < 0 by decide) h
    rw [if_neg c1] at h ⊢
    unfold runeB at h c1 ⊢
    rw [if_pos hj] at h c1 ⊢
    by_cases hd : Utf8.decode s j = (65533, 1)
    · rw [if_pos hd] at h; exact absurd (show (-1 : Int) < 0 by decide) h
    rw [if_neg hd] at h c1 ⊢
    simp only at c1 ⊢
    have hfit := decode_fits s j hj
    have hdl := decodeL_drop s j hj
    have hl : s.data.toList.length = s.size := Array.length_toList
    have hne : s.data.toList.drop j ≠ [] := fun e => by
      have := congrArg List.length e
      rw [List.length_drop, hl] at this
      simp at this
      omega
    have hway := decode_way _ hne (by rw [hdl]; exact hd)
    rw [hdl] at hway
    refine ⟨(Utf8.decode s j).1, rfl, ?_⟩
    rcases hway with ⟨y, h1, h2, h3⟩ | ⟨h1, h2, h3⟩
    · have hb : byteI s j = (y.toNat : Int) := by
        have hr : Rd s j (y :: (s.data.toList.drop j).drop (Utf8.decode s j).2) := by
          unfold Rd
          rw [← List.singleton_append, ← h3, List.take_append_drop]
        exact hr.byte0.2
      refine ⟨by unfold okR; omega, ?_⟩
      rw [h1, hq _ h2]
      have hqn : (qN y.toNat).length = 1 := by
        unfold qN
        rw [if_neg (by omega), if_neg (by omega), if_neg (by omega), if_neg (by omega), if_neg (by omega), if_neg (by omega), if_neg (by omega)]
        rfl
      omega
    · have hk : ((s.data.toList.drop j).take (Utf8.decode s j).2).length = (Utf8.decode s j).2 := by rw [List.length_take, List.length_drop, hl]; omega
      have hlen := congrArg List.length h2
      rw [hk] at hlen
      have hen := congrArg List.length (textB_list (Utf8.decode s j).1)
      rw [List.length_map, hlen] at hen
      refine ⟨?_, ?_⟩
      · unfold okR
        unfold encN4 at hen
        by_cases hbad : 1114111 < (Utf8.decode s j).1 ∨ (55296 ≤ (Utf8.decode s j).1 ∧ (Utf8.decode s j).1 ≤ 57343)
        · rw [if_pos hbad] at hen
          simp at hen
          omega
        · omega
      · unfold qR
        rw [if_neg (by omega), hlen]
        omega
theorem quotG_cost (s : ByteArray) : ∀ (f j : Nat) (acc : List UInt8), s.size - j ≤ f → ¬ (quotG s j acc).2 < 0 → ∃ rs : List Nat, (∀ r ∈ rs, okR r) ∧ (quotG s j acc).1 = ⟨(acc ++ textsB rs).toArray⟩ ∧ ((j + (rs.flatMap qR).length + 1 : Nat) : Int) ≤ (quotG s j acc).2 := by
  intro f
  induction f with
  | zero =>
    intro j acc hf h
    rw [quotG_end (by omega)] at h
    exact absurd (show (-1 : Int) < 0 by decide) h
  | succ f ih =>
    intro j acc hf h
    by_cases hj : j < s.size
    · rw [quotG_at hj] at h ⊢
      by_cases c1 : byteI s j = 34
      · rw [if_pos c1]
        exact ⟨[], fun r hr => (by cases hr), by simp [textsB], by simp⟩
      rw [if_neg c1] at h ⊢
      by_cases c2 : (quotN s j).2 < 0
      · rw [if_pos c2] at h; exact absurd (show (-1 : Int) < 0 by decide) h
      rw [if_neg c2] at h ⊢
      obtain ⟨r, h1, h2, h3⟩ := quotN_cost hj c1 c2
      have hnx := quotN_next s j
      rw [h1] at h ⊢
      obtain ⟨rs, g1, g2, g3⟩ := ih _ _ (by omega) h
      refine ⟨r :: rs, fun x hx => ?_, ?_, ?_⟩
      · rcases List.mem_cons.1 hx with rfl | hx
        · exact h2
        · exact g1 x hx
      · rw [g2, List.append_assoc]
        rfl
      · rw [List.flatMap_cons, List.length_append]
        omega
    · rw [quotG_end hj] at h
      exact absurd (show (-1 : Int) < 0 by decide) h
/-- A quoted text that was read holds runes, and is no longer when it is told anew. -/
theorem quotB_cost {s : ByteArray} {j : Nat} (h : ¬ (quotB s j).2 < 0) : utf8B (quotB s j).1 = true ∧ ((j + (quoteB (quotB s j).1).data.toList.length : Nat) : Int) ≤ (quotB s j).2 := by
  unfold quotB at h ⊢
  by_cases hj : j < s.size
  · rw [if_pos hj] at h ⊢
    by_cases c1 : byteI s j = 34
    · rw [if_pos c1] at h ⊢
      obtain ⟨rs, h1, h2, h3⟩ := quotG_cost s _ (j + 1) [] (Nat.le_refl _) h
      rw [List.nil_append] at h2
      have hr : runesAt (quotG s (j + 1) []).1 0 = some rs := runes_texts _ rs 0 h1 (by rw [h2, List.drop_zero])
      refine ⟨by unfold utf8B; rw [hr]; rfl, ?_⟩
      rw [quoteB_runes hr]
      simp only [List.length_append, List.length_cons, List.length_nil]
      omega
    · rw [if_neg c1] at h
      exact absurd (show (-1 : Int) < 0 by decide) h
  · rw [if_neg hj] at h
    exact absurd (show (-1 : Int) < 0 by decide) h
end Go.Proofs.YtffelpdefjkeaaaGreatDoor
namespace Go.Proofs.YtffelpdefjkeaaaGreatDoor
open Go.RowKit Go.ChangeShapes Go.WideShapes Go.Deep
structure TreeD where
  kind : Int
  flag : Bool
  num : Int
  text : ByteArray
  keys : List ByteArray
  kids : List TreeD
/-- The cells cs hold the tree d, whose height is at most n. -/
def C_Tree : Nat → Nat → Nat → World → TreeD → List Value → Prop
  | 0, _, _, _, _, _ => False
  | n + 1, lo, hi, w, d, cs => ∃ v4 v5, cs = [.int .i64 d.kind, .bool d.flag, .int .i64 d.num, .string d.text, v4, v5] ∧ I64 d.kind ∧ I64 d.num ∧ d.text.size ≤ 9223372036854775807 ∧ Sl_Str lo hi w d.keys v4 ∧ SlOf (C_Tree n lo hi w) 6 lo hi w d.kids v5
abbrev Sl_Tree (n lo hi : Nat) (w : World) (l : List TreeD) (v : Value) : Prop := SlOf (C_Tree n lo hi w) 6 lo hi w l v
theorem C_Tree.out {n lo hi : Nat} {w : World} {d : TreeD} {cs : List Value} (h : C_Tree (n + 1) lo hi w d cs) : ∃ v4 v5, cs = [.int .i64 d.kind, .bool d.flag, .int .i64 d.num, .string d.text, v4, v5] ∧ I64 d.kind ∧ I64 d.num ∧ d.text.size ≤ 9223372036854775807 ∧ Sl_Str lo hi w d.keys v4 ∧ Sl_Tree n lo hi w d.kids v5 := h
theorem C_Tree.into {n lo hi : Nat} {w : World} {d : TreeD} {cs : List Value} (h : ∃ v4 v5, cs = [.int .i64 d.kind, .bool d.flag, .int .i64 d.num, .string d.text, v4, v5] ∧ I64 d.kind ∧ I64 d.num ∧ d.text.size ≤ 9223372036854775807 ∧ Sl_Str lo hi w d.keys v4 ∧ Sl_Tree n lo hi w d.kids v5) : C_Tree (n + 1) lo hi w d cs := h
theorem C_Tree.none {lo hi : Nat} {w : World} {d : TreeD} {cs : List Value} (h : C_Tree 0 lo hi w d cs) : False := h
theorem C_Tree.any {n lo hi : Nat} {w : World} {d : TreeD} {cs : List Value} (h : C_Tree n lo hi w d cs) : ∃ m, n = m + 1 := by
  cases n with
  | zero => exact h.none.elim
  | succ m => exact ⟨m, rfl⟩
theorem C_Tree.open {n lo hi : Nat} {w : World} {d : TreeD} {cs : List Value} (h : C_Tree n lo hi w d cs) : ∃ A4 c4 A5 c5, cs = [.int .i64 d.kind, .bool d.flag, .int .i64 d.num, .string d.text, .slice A4 d.keys.length c4, .slice A5 d.kids.length c5] := by
  obtain ⟨m, rfl⟩ := h.any
  obtain ⟨v4, v5, rfl, a0, a2, a3, a4, a5⟩ := h.out
  obtain ⟨A4, c4, rfl⟩ := a4.form
  obtain ⟨A5, c5, rfl⟩ := a5.form
  exact ⟨A4, c4, A5, c5, rfl⟩
theorem C_Tree.flat {n lo hi : Nat} {w : World} {d : TreeD} {cs : List Value} (h : C_Tree n lo hi w d cs) : ∃ A4 c4 A5 c5, cs = [.int .i64 d.kind, .bool d.flag, .int .i64 d.num, .string d.text, .slice A4 d.keys.length c4, .slice A5 d.kids.length c5] ∧ I64 d.kind ∧ I64 d.num ∧ d.text.size ≤ 9223372036854775807 := by
  obtain ⟨m, rfl⟩ := h.any
  obtain ⟨v4, v5, rfl, a0, a2, a3, a4, a5⟩ := h.out
  obtain ⟨A4, c4, rfl⟩ := a4.form
  obtain ⟨A5, c5, rfl⟩ := a5.form
  exact ⟨A4, c4, A5, c5, rfl, a0, a2, a3⟩
theorem C_Tree.keep : ∀ {n lo hi lo' hi' : Nat} {w w' : World} {d : TreeD} {cs : List Value}, C_Tree n lo hi w d cs → Same lo hi w w' → lo' ≤ lo → hi ≤ hi' → C_Tree n lo' hi' w' d cs
  | 0, _, _, _, _, _, _, _, _, h, _, _, _ => h.none.elim
  | n + 1, _, _, _, _, _, _, _, _, h, hs, h1, h2 => by
    obtain ⟨v4, v5, rfl, a0, a2, a3, a4, a5⟩ := h.out
    exact C_Tree.into ⟨v4, v5, rfl, a0, a2, a3, a4.keep hs h1 h2, SlOf.keep a5 hs h1 h2 (fun _ _ _ h => C_Tree.keep h hs h1 h2)⟩
theorem C_Tree.up : ∀ {n m lo hi : Nat} {w : World} {d : TreeD} {cs : List Value}, C_Tree n lo hi w d cs → n ≤ m → C_Tree m lo hi w d cs
  | 0, _, _, _, _, _, _, h, _ => h.none.elim
  | n + 1, 0, _, _, _, _, _, _, hm => absurd hm (by omega)
  | n + 1, m + 1, _, _, _, _, _, h, hm => by
    obtain ⟨v4, v5, rfl, a0, a2, a3, a4, a5⟩ := h.out
    exact C_Tree.into ⟨v4, v5, rfl, a0, a2, a3, a4, SlOf.keep a5 (Same.refl _ _ _) (Nat.le_refl _) (Nat.le_refl _) (fun _ _ _ h => C_Tree.up h (by omega))⟩
theorem C_Tree.now {n lo : Nat} {w w' : World} {d : TreeD} {cs : List Value} (h : C_Tree n lo w.heap.size w d cs) (hb : Below w.heap.size w w') : C_Tree n lo w'.heap.size w' d cs := h.keep (same_below hb) (Nat.le_refl _) hb.size
theorem Sl_Tree.keep {n lo hi lo' hi' : Nat} {w w' : World} {l : List TreeD} {v : Value} (h : Sl_Tree n lo hi w l v) (hs : Same lo hi w w') (h1 : lo' ≤ lo) (h2 : hi ≤ hi') : Sl_Tree n lo' hi' w' l v := SlOf.keep h hs h1 h2 (fun _ _ _ h => C_Tree.keep h hs h1 h2)
theorem Sl_Tree.now {n lo : Nat} {w w' : World} {l : List TreeD} {v : Value} (h : Sl_Tree n lo w.heap.size w l v) (hb : Below w.heap.size w w') : Sl_Tree n lo w'.heap.size w' l v := h.keep (same_below hb) (Nat.le_refl _) hb.size
/-- The size by which the laws measure a tree. -/
def nTree : Nat → TreeD → Nat
  | 0, _ => 0
  | n + 1, d => d.text.size + nL ByteArray.size d.keys + nL (nTree n) d.kids
theorem nTree_succ (n : Nat) (d : TreeD) : nTree (n + 1) d = d.text.size + nL ByteArray.size d.keys + nL (nTree n) d.kids := rfl
section
variable {H : Type} {enc : TypeId × Value → H} {w : World} {base : Nat} {spare : Nat → Bool} {held : Bool}
variable {r : Reach} {b0 : Nat} {v : Value} {d : DataW H} {p : List MemPlace}
end
end Go.Proofs.YtffelpdefjkeaaaGreatDoor
namespace Go.Proofs.YtffelpdefjkeaaaGreatDoor
open Go.RowKit
structure SignD where
  kind : Int
  text : ByteArray
  num : Int
  at' : Int
/-- The kind of the sign at p; 0 behind the last one. -/
def kindAt (L : List SignD) (p : Nat) : Int := match L[p]? with | some x => x.kind | none => 0
/-- The place of the sign at p; the text's end behind the last one. -/
def placeAt (L : List SignD) (E : Int) (p : Nat) : Int := match L[p]? with | some x => x.at' | none => E
def badF (L : List SignD) (E : Int) (code : Int) (p : Nat) : Flt := ⟨code, placeAt L E p, ⟨#[]⟩⟩
def tNull : TreeD := ⟨1, false, 0, ⟨#[]⟩, [], []⟩
def tFlag (b : Bool) : TreeD := ⟨2, b, 0, ⟨#[]⟩, [], []⟩
def tInt (n : Int) : TreeD := ⟨3, false, n, ⟨#[]⟩, [], []⟩
def tText (s : ByteArray) : TreeD := ⟨4, false, 0, s, [], []⟩
def tList (l : List TreeD) : TreeD := ⟨5, false, 0, ⟨#[]⟩, [], l⟩
def tMap (ks : List ByteArray) (l : List TreeD) : TreeD := ⟨6, false, 0, ⟨#[]⟩, ks, l⟩
/-- How many keys ahead of key are less. -/
def posK (ks : List ByteArray) (key : ByteArray) : Nat := (ks.takeWhile fun k => lessS k key).length
def insL {D : Type} (l : List D) (i : Nat) (x : D) : List D := l.take i ++ x :: l.drop i
inductive Job where
  | value (deep : Nat)
  | list (deep : Nat) (acc : List TreeD)
  | pairs (deep : Nat) (ks : List ByteArray) (acc : List TreeD)
inductive Res where
  | bad (f : Flt)
  | good (t : TreeD) (p m : Nat)
/-- Reading with fuel: a job at the sign p, m values counted so far. -/
def readJ (L : List SignD) (E : Int) : Nat → Job → Nat → Nat → Res
  | 0, _, _, _ => .bad flt0
  | n + 1, .value d, p, m =>
    if ¬ (kindAt L p = 1 ∨ kindAt L p = 3 ∨ 7 ≤ kindAt L p) then .bad (badF L E 4 p)
    else if 8 < d then .bad (badF L E 6 p)
    else if 300 ≤ m then .bad (badF L E 7 p)
    else match L[p]? with
      | none => .bad flt0
      | some x =>
        if x.kind = 7 then (if 400 < x.text.size then .bad (badF L E 8 p) else .good (tText x.text) (p + 1) (m + 1))
        else if x.kind = 8 then .good (tInt x.num) (p + 1) (m + 1)
        else if x.kind = 11 then .good tNull (p + 1) (m + 1)
        else if x.kind = 3 then (if kindAt L (p + 1) = 4 then .good (tList []) (p + 2) (m + 1) else readJ L E n (.list d []) (p + 1) (m + 1))
        else if x.kind = 1 then (if kindAt L (p + 1) = 2 then .good (tMap [] []) (p + 2) (m + 1) else readJ L E n (.pairs d [] []) (p + 1) (m + 1))
        else .good (tFlag (x.kind == 9)) (p + 1) (m + 1)
  | n + 1, .list d acc, p, m => match readJ L E n (.value (d + 1)) p m with
    | .bad f => .bad f
    | .good t q m' =>
      if kindAt L q = 4 then .good (tList (acc ++ [t])) (q + 1) m'
      else if kindAt L q = 6 then readJ L E n (.list d (acc ++ [t])) (q + 1) m'
      else .bad (badF L E 4 q)
  | n + 1, .pairs d ks acc, p, m => match L[p]? with
    | none => .bad (badF L E 4 p)
    | some x =>
      if x.kind ≠ 7 then .bad (badF L E 4 p)
      else if 400 < x.text.size then .bad (badF L E 8 p)
      else if ks.contains x.text then .bad (badF L E 5 p)
      else if kindAt L (p + 1) ≠ 5 then .bad (badF L E 4 (p + 1))
      else match readJ L E n (.value (d + 1)) (p + 2) m with
        | .bad f => .bad f
        | .good t q m' =>
          if kindAt L q = 2 then .good (tMap (insL ks (posK ks x.text) x.text) (insL acc (posK ks x.text) t)) (q + 1) m'
          else if kindAt L q = 6 then readJ L E n (.pairs d (insL ks (posK ks x.text) x.text) (insL acc (posK ks x.text) t)) (q + 1) m'
          else .bad (badF L E 4 q)
/-- Reading all signs. -/
def readL (L : List SignD) (E : Int) : Flt × TreeD := match readJ L E (2 * L.length + 4) (.value 1) 0 0 with
  | .bad f => (f, ⟨0, false, 0, ⟨#[]⟩, [], []⟩)
  | .good t p _ => if p < L.length then (badF L E 4 p, ⟨0, false, 0, ⟨#[]⟩, [], []⟩) else (flt0, t)
end Go.Proofs.YtffelpdefjkeaaaGreatDoor
namespace Go.Proofs.YtffelpdefjkeaaaGreatDoor
open Go.RowKit
def decS (n : Int) : ByteArray := ⟨(Lib.itoa n).toArray⟩
theorem dec_len : ∀ (k u : Nat), u < 10 ^ (k + 1) → (Lib.decDigits u).length ≤ k + 1
  | 0, u, h => by
    rw [Lib.decDigits, dif_pos (by simpa using h)]
    simp
  | k + 1, u, h => by
    rw [Lib.decDigits]
    by_cases h10 : u < 10
    · rw [dif_pos h10]; simp
    · rw [dif_neg h10, List.length_append]
      have h2 : u / 10 < 10 ^ (k + 1) := by
        rw [Nat.div_lt_iff_lt_mul (by decide)]
        rw [Nat.pow_succ] at h
        exact h
      have := dec_len k (u / 10) h2
      simp
      omega
theorem decS_size (n : Int) (hn : -9223372036854775808 ≤ n ∧ n ≤ 9223372036854775807) : (decS n).size ≤ 20 := by
  show (Lib.itoa n).toArray.size ≤ 20
  rw [List.size_toArray]
  unfold Lib.itoa
  split
  · have := dec_len 18 n.natAbs (by omega)
    rw [List.length_cons]
    omega
  · have := dec_len 18 n.toNat (by omega)
    omega
end Go.Proofs.YtffelpdefjkeaaaGreatDoor
namespace Go.Proofs.YtffelpdefjkeaaaGreatDoor
open Go.RowKit Go.Lib
def figB (c : UInt8) : Prop := 48 ≤ c.toNat ∧ c.toNat ≤ 57
def valL (acc : Nat) (l : List UInt8) : Nat := l.foldl (fun a c => a * 10 + (c.toNat - 48)) acc
theorem valL_nil (acc : Nat) : valL acc [] = acc := by unfold valL; rw [List.foldl_nil]
theorem valL_cons (acc : Nat) (c : UInt8) (r : List UInt8) : valL acc (c :: r) = valL (acc * 10 + (c.toNat - 48)) r := by unfold valL; rw [List.foldl_cons]
theorem valL_ge (l : List UInt8) (acc : Nat) : acc ≤ valL acc l := by
  induction l generalizing acc with
  | nil => rw [valL_nil]; exact Nat.le_refl _
  | cons c r ih =>
    have := ih (acc * 10 + (c.toNat - 48))
    rw [valL_cons]
    omega
theorem valL_app (l m : List UInt8) (acc : Nat) : valL acc (l ++ m) = valL (valL acc l) m := by unfold valL; rw [List.foldl_append]
theorem parse_figs (l : List UInt8) (acc : Nat) (hd : ∀ c ∈ l, figB c) (h : acc < 18446744073709551616) : parseUint10 acc l = if valL acc l < 18446744073709551616 then .ok (valL acc l) else .range := by
  induction l generalizing acc with
  | nil => rw [valL_nil, if_pos h, parseUint10]
  | cons c r ih =>
    have hc := hd c (by simp)
    unfold figB at hc
    have hge := valL_ge r (acc * 10 + (c.toNat - 48))
    rw [valL_cons, parseUint10, if_pos hc]
    by_cases h1 : 1844674407370955162 ≤ acc
    · rw [if_pos h1, if_neg (by omega)]
    · rw [if_neg h1]
      by_cases h2 : 18446744073709551616 ≤ acc * 10 + (c.toNat - 48)
      · rw [if_pos h2, if_neg (by omega)]
      · rw [if_neg h2]
        exact ih _ (fun x hx => hd x (by simp [hx])) (by omega)
theorem ofNat_fig {d : Nat} (h : d < 10) : (UInt8.ofNat (48 + d)).toNat = 48 + d := by
  rw [UInt8.toNat_ofNat']
  omega
theorem dec_figs (u : Nat) : ∀ c ∈ decDigits u, figB c := by
  induction u using Nat.strongRecOn with
  | ind u ih =>
    intro c hc
    rw [decDigits] at hc
    by_cases h : u < 10
    · rw [dif_pos h] at hc
      rw [List.mem_singleton] at hc
      subst hc
      unfold figB
      rw [ofNat_fig h]
      omega
    · rw [dif_neg h] at hc
      rcases List.mem_append.1 hc with hc | hc
      · exact ih (u / 10) (by omega) c hc
      · rw [List.mem_singleton] at hc
        subst hc
        unfold figB
        rw [ofNat_fig (Nat.mod_lt _ (by decide))]
        omega
theorem dec_val (u : Nat) : valL 0 (decDigits u) = u := by
  induction u using Nat.strongRecOn with
  | ind u ih =>
    rw [decDigits]
    by_cases h : u < 10
    · rw [dif_pos h]
      rw [valL_cons, valL_nil, ofNat_fig h]
      omega
    · rw [dif_neg h, valL_app, ih (u / 10) (by omega)]
      rw [valL_cons, valL_nil, ofNat_fig (Nat.mod_lt _ (by decide))]
      omega
theorem val_pos {c : UInt8} {r : List UInt8} (h : figB c) (h0 : c.toNat ≠ 48) : 1 ≤ valL 0 (c :: r) := by
  have := valL_ge r (0 * 10 + (c.toNat - 48))
  unfold figB at h
  rw [valL_cons]
  omega
/-- Figures without a needless 0 ahead are what is told of their number. -/
theorem dec_canon : ∀ (n : Nat) (l : List UInt8), l.length = n → l ≠ [] → (∀ c ∈ l, figB c) → (∀ c r, l = c :: r → r ≠ [] → c.toNat ≠ 48) → decDigits (valL 0 l) = l
  | 0, l, hn, h0, _, _ => absurd (List.eq_nil_of_length_eq_zero hn) h0
  | n + 1, l, hn, h0, hd, hz => by
    have hl := List.dropLast_concat_getLast h0
    obtain ⟨r, hr⟩ : ∃ r, r = l.dropLast := ⟨_, rfl⟩
    obtain ⟨c, hc⟩ : ∃ c, c = l.getLast h0 := ⟨_, rfl⟩
    rw [← hr, ← hc] at hl
    subst hl
    clear hr hc
    have hcf := hd c (by simp)
    unfold figB at hcf
    rw [valL_app, valL_cons, valL_nil]
    have hback : UInt8.ofNat (48 + (c.toNat - 48)) = c := by
      apply UInt8.toNat_inj.1
      rw [ofNat_fig (by omega)]
      omega
    rcases r with _ | ⟨x, r⟩
    · rw [valL_nil, decDigits, dif_pos (by omega)]
      simp only [List.nil_append]
      rw [show 0 * 10 + (c.toNat - 48) = c.toNat - 48 by omega, hback]
    · have hx := hz x (r ++ [c]) rfl (by simp)
      have hp := val_pos (r := r) (hd x (by simp)) hx
      have ih := dec_canon n (x :: r) (by simp at hn ⊢; omega) (by simp) (fun y hy => hd y (by simp at hy ⊢; rcases hy with h | h; exact .inl h; exact .inr (.inl h))) (fun y q e hq => by
        simp only [List.cons.injEq] at e
        obtain ⟨rfl, rfl⟩ := e
        exact hx)
      obtain ⟨v, hv⟩ : ∃ v, v = valL 0 (x :: r) := ⟨_, rfl⟩
      rw [← hv] at ih hp ⊢
      rw [decDigits, dif_neg (by omega), show (v * 10 + (c.toNat - 48)) / 10 = v by omega, show (v * 10 + (c.toNat - 48)) % 10 = c.toNat - 48 by omega, ih, hback]
end Go.Proofs.YtffelpdefjkeaaaGreatDoor
namespace Go.Proofs.YtffelpdefjkeaaaGreatDoor
open Go.RowKit Go.Lib
def figI (x : Int) : Bool := decide (48 ≤ x) && decide (x ≤ 57)
/-- The place behind the figures that stand from j on. -/
def digF (s : ByteArray) : Nat → Nat → Nat
  | 0, j => j
  | k + 1, j => if j < s.size then (if figI (byteI s j) = true then digF s k (j + 1) else j) else j
theorem digF_fuel (s : ByteArray) : ∀ (k l j : Nat), s.size - j ≤ k → s.size - j ≤ l → digF s k j = digF s l j
  | 0, 0, _, _, _ => rfl
  | 0, l + 1, j, h, _ => by unfold digF; rw [if_neg (by omega)]
  | k + 1, 0, j, _, h => by unfold digF; rw [if_neg (by omega)]
  | k + 1, l + 1, j, h1, h2 => by
    unfold digF
    split
    · split
      · exact digF_fuel s k l _ (by omega) (by omega)
      · rfl
    · rfl
def digE (s : ByteArray) (j : Nat) : Nat := digF s (s.size - j) j
theorem digE_end {s : ByteArray} {j : Nat} (h : ¬ j < s.size) : digE s j = j := by
  unfold digE
  rw [show s.size - j = 0 by omega]
  rfl
theorem digE_at {s : ByteArray} {j : Nat} (h : j < s.size) : digE s j = if figI (byteI s j) = true then digE s (j + 1) else j := by
  unfold digE
  obtain ⟨k, hk⟩ : ∃ k, s.size - j = k + 1 := ⟨s.size - j - 1, by omega⟩
  rw [hk, digF, if_pos h]
  split
  · exact digF_fuel s _ _ _ (by omega) (by omega)
  · rfl
theorem digF_le (s : ByteArray) : ∀ (k j : Nat), j ≤ digF s k j ∧ (j ≤ s.size → digF s k j ≤ s.size)
  | 0, _ => ⟨Nat.le_refl _, fun h => h⟩
  | k + 1, j => by
    unfold digF
    split
    · split
      · have := digF_le s k (j + 1)
        omega
      · omega
    · omega
theorem digE_le (s : ByteArray) (j : Nat) : j ≤ digE s j ∧ (j ≤ s.size → digE s j ≤ s.size) := digF_le s _ _
theorem digF_figs (s : ByteArray) : ∀ (k j t : Nat), j ≤ t → t < digF s k j → figI (byteI s t) = true ∧ t < s.size
  | 0, j, t, h1, h2 => by unfold digF at h2; omega
  | k + 1, j, t, h1, h2 => by
    unfold digF at h2
    split at h2
    · split at h2
      · rename_i hj hf
        rcases Nat.lt_or_ge j t with h | h
        · exact digF_figs s k (j + 1) t (by omega) h2
        · obtain rfl : t = j := by omega
          exact ⟨hf, hj⟩
      · omega
    · omega
theorem digE_figs {s : ByteArray} {j t : Nat} (h1 : j ≤ t) (h2 : t < digE s j) : figI (byteI s t) = true ∧ t < s.size := digF_figs s _ j t h1 h2
/-- The number of the bytes from a on, ahead of e. -/
def numB (s : ByteArray) (a e : Nat) : Nat := valL 0 (s.extract a e).data.toList
/-- The whole number whose figures stand from a on, and the place behind it; (0, -1): there is none. -/
def wholeA (s : ByteArray) (neg : Bool) (a : Nat) : Int × Int :=
  if digE s a = a ∨ (byteI s a = 48 ∧ a + 1 < digE s a) ∨ (digE s a < s.size ∧ (byteI s (digE s a) = 46 ∨ byteI s (digE s a) = 101 ∨ byteI s (digE s a) = 69)) then (0, -1)
  else if neg = true then (if numB s a (digE s a) ≤ 9223372036854775808 then (-(numB s a (digE s a) : Int), (digE s a : Int)) else (0, -1))
  else (if numB s a (digE s a) ≤ 9223372036854775807 then ((numB s a (digE s a) : Int), (digE s a : Int)) else (0, -1))
/-- The whole number at place i and the place behind it; (0, -1): there is none. -/
def wholeB (s : ByteArray) (i : Nat) : Int × Int :=
  if i < s.size then (if byteI s i = 45 then wholeA s true (i + 1) else wholeA s false i) else (0, -1)
theorem extract_get (s : ByteArray) (a e k : Nat) (he : e ≤ s.size) (hk : a + k < e) : (s.extract a e).data.toList[k]? = some (s.get! (a + k)) := by
  have h1 : (s.extract a e).data.toList = (s.data.toList.drop a).take (e - a) := by
    rw [ByteArray.data_extract, Array.toList_extract, List.extract_eq_take_drop]
  rw [h1, List.getElem?_take, if_pos (by omega), List.getElem?_drop]
  have h2 : a + k < s.data.toList.length := by rw [Array.length_toList]; show a + k < s.size; omega
  rw [List.getElem?_eq_getElem h2]
  congr 1
  rw [Array.getElem_toList]
  have h3 : a + k < s.size := by omega
  show s.data[a + k] = s.data[a + k]!
  rw [getElem!_pos s.data (a + k) h3]
theorem extract_len (s : ByteArray) (a e : Nat) (he : e ≤ s.size) : (s.extract a e).data.toList.length = e - a := by
  rw [Array.length_toList]
  show (s.extract a e).size = e - a
  rw [ByteArray.size_extract]
  omega
theorem fig_of {s : ByteArray} {t : Nat} (h : figI (byteI s t) = true) : figB (s.get! t) := by
  unfold figI byteI at h
  simp at h
  unfold figB
  omega
theorem figs_all {s : ByteArray} {a e : Nat} (he : e ≤ s.size) (h : ∀ t, a ≤ t → t < e → figI (byteI s t) = true) : ∀ c ∈ (s.extract a e).data.toList, figB c := by
  intro c hc
  obtain ⟨k, hk⟩ := List.mem_iff_getElem?.1 hc
  have hl : k < e - a := by
    have := (List.getElem?_eq_some_iff.1 hk).1
    rwa [extract_len s a e he] at this
  rw [extract_get s a e k he (by omega)] at hk
  injection hk with hk
  subst hk
  exact fig_of (h _ (by omega) (by omega))
theorem atoi_figs {l : List UInt8} (h0 : l ≠ []) (hf : ∀ c ∈ l, figB c) : atoiAll l = if valL 0 l ≤ 9223372036854775807 then .ok (valL 0 l : Int) else .range := by
  rcases l with _ | ⟨c, r⟩
  · exact absurd rfl h0
  · have hc := hf c (by simp)
    unfold figB at hc
    rw [atoiAll_plain c r (by omega) (by omega)]
    unfold parseMag
    rw [if_neg (by simp), parse_figs _ 0 hf (by omega)]
    obtain ⟨u, hu⟩ : ∃ u, u = valL 0 (c :: r) := ⟨_, rfl⟩
    rw [← hu]
    by_cases h1 : u < 18446744073709551616
    · rw [if_pos h1]
      show (if 9223372036854775808 ≤ u then NumEnd.range else NumEnd.ok (u : Int)) = _
      by_cases h2 : u ≤ 9223372036854775807
      · rw [if_neg (by omega), if_pos h2]
      · rw [if_pos (by omega), if_neg h2]
    · rw [if_neg h1, if_neg (by omega)]
      rfl
theorem atoi_minus {l : List UInt8} (h0 : l ≠ []) (hf : ∀ c ∈ l, figB c) : atoiAll (45 :: l) = if valL 0 l ≤ 9223372036854775808 then .ok (-(valL 0 l : Int)) else .range := by
  rw [atoiAll_minus]
  unfold parseMag
  rw [if_neg h0, parse_figs _ 0 hf (by omega)]
  obtain ⟨u, hu⟩ : ∃ u, u = valL 0 l := ⟨_, rfl⟩
  rw [← hu]
  by_cases h1 : u < 18446744073709551616
  · rw [if_pos h1]
    show (if 9223372036854775808 < u then NumEnd.range else NumEnd.ok (-(u : Int))) = _
    by_cases h2 : u ≤ 9223372036854775808
    · rw [if_neg (by omega), if_pos h2]
    · rw [if_pos (by omega), if_neg h2]
  · rw [if_neg h1, if_neg (by omega)]
    rfl
theorem wholeB_at {s : ByteArray} {i a : Nat} (h : i < s.size) (ha : a = if byteI s i = 45 then i + 1 else i) : wholeB s i = wholeA s (decide (byteI s i = 45)) a := by
  unfold wholeB
  rw [if_pos h]
  by_cases h45 : byteI s i = 45
  · rw [if_pos h45] at ha ⊢
    rw [decide_eq_true h45, ha]
  · rw [if_neg h45] at ha ⊢
    rw [decide_eq_false h45, ha]
theorem wholeA_no {s : ByteArray} {neg : Bool} {a : Nat} (h : digE s a = a ∨ (byteI s a = 48 ∧ a + 1 < digE s a) ∨ (digE s a < s.size ∧ (byteI s (digE s a) = 46 ∨ byteI s (digE s a) = 101 ∨ byteI s (digE s a) = 69))) : wholeA s neg a = (0, -1) := if_pos h
theorem extract_cons {s : ByteArray} {i e : Nat} (hi : i < e) (he : e ≤ s.size) : (s.extract i e).data.toList = s.get! i :: (s.extract (i + 1) e).data.toList := by
  apply List.ext_getElem?
  intro k
  rcases k with _ | k
  · rw [extract_get s i e 0 he (by omega)]; rfl
  · rw [List.getElem?_cons_succ]
    by_cases hk : i + 1 + k < e
    · rw [extract_get s i e (k + 1) he (by omega), extract_get s (i + 1) e k he hk]
      congr 2
      omega
    · rw [List.getElem?_eq_none (by rw [extract_len s i e he]; omega), List.getElem?_eq_none (by rw [extract_len s (i + 1) e he]; omega)]
/-- What Atoi says of the number's text. -/
theorem whole_atoi {s : ByteArray} {i a : Nat} (hi : i < s.size) (ha : a = if byteI s i = 45 then i + 1 else i) (h : ¬ (digE s a = a ∨ (byteI s a = 48 ∧ a + 1 < digE s a) ∨ (digE s a < s.size ∧ (byteI s (digE s a) = 46 ∨ byteI s (digE s a) = 101 ∨ byteI s (digE s a) = 69)))) :
    (∃ v, atoiAll (s.extract i (digE s a)).data.toList = .ok v ∧ wholeB s i = (v, (digE s a : Int))) ∨ (atoiAll (s.extract i (digE s a)).data.toList = .range ∧ wholeB s i = (0, -1)) := by
  have hae := digE_le s a
  have has : a ≤ s.size := by rw [ha]; split <;> omega
  have hes := hae.2 has
  have hne : a < digE s a := by have := hae.1; have := not_or.1 h; omega
  have hf := figs_all (s := s) (a := a) (e := digE s a) hes (fun t h1 h2 => (digE_figs h1 h2).1)
  have hl := extract_len s a (digE s a) hes
  have h0 : (s.extract a (digE s a)).data.toList ≠ [] := by intro hn; rw [hn] at hl; simp at hl; omega
  rw [wholeB_at hi ha]
  unfold wholeA
  rw [if_neg h]
  by_cases h45 : byteI s i = 45
  · rw [if_pos h45] at ha
    rw [decide_eq_true h45, if_pos rfl]
    have hc := extract_cons (s := s) (i := i) (e := digE s a) (by omega) hes
    have hb : s.get! i = 45 := by
      apply UInt8.toNat_inj.1
      have h9 : (45 : UInt8).toNat = 45 := rfl
      unfold byteI at h45
      rw [h9]
      omega
    rw [hc, hb, ← ha, atoi_minus h0 hf]
    unfold numB
    by_cases hv : valL 0 (s.extract a (digE s a)).data.toList ≤ 9223372036854775808
    · rw [if_pos hv, if_pos hv]; exact .inl ⟨_, rfl, rfl⟩
    · rw [if_neg hv, if_neg hv]; exact .inr ⟨rfl, rfl⟩
  · rw [if_neg h45] at ha
    rw [decide_eq_false h45, if_neg (by decide)]
    rw [ha] at hf h0 ⊢
    rw [atoi_figs h0 hf]
    unfold numB
    by_cases hv : valL 0 (s.extract i (digE s i)).data.toList ≤ 9223372036854775807
    · rw [if_pos hv, if_pos hv]; exact .inl ⟨_, rfl, rfl⟩
    · rw [if_neg hv, if_neg hv]; exact .inr ⟨rfl, rfl⟩
theorem toList_some {s : ByteArray} (h : 0 < s.size) : s.toList.isEmpty = false := by
  rw [Lib.toList_data]
  rcases h1 : s.data.toList with _ | ⟨x, l⟩
  · have h2 : s.data.toList.length = 0 := by rw [h1]; rfl
    rw [Array.length_toList] at h2
    have h3 : s.size = s.data.size := rfl
    omega
  · rfl
end Go.Proofs.YtffelpdefjkeaaaGreatDoor
namespace Go.Proofs.YtffelpdefjkeaaaGreatDoor
open Go.Shelf
def laysAtoi_ren : Go.Shelf.Ren := ⟨fun | 172 => 128 | 244 => 146 | 245 => 147 | 247 => 156 | 279 => 157 | 280 => 158 | 281 => 159 | 282 => 160 | 287 => 173 | 316 => 174 | 171 => 116 | 205 => 175 | 321 => 187 | 322 => 188 | 243 => 139 | 246 => 152 | 283 => 163 | 284 => 164 | 285 => 165 | 286 => 166 | 129 => 177 | 317 => 176 | 318 => 178 | 319 => 179 | 320 => 180 | 337 => 189 | 338 => 190 | n => n, fun | 9 => 9 | 3 => 3 | 75 => 122 | 76 => 123 | 4 => 4 | 5 => 5 | 167 => 141 | 37 => 37 | 0 => 0 | 85 => 142 | 2 => 2 | 168 => 144 | 53 => 150 | 175 => 162 | 46 => 126 | 210 => 165 | 127 => 173 | 145 => 180 | 143 => 178 | 21 => 21 | 171 => 149 | 173 => 153 | 212 => 169 | 51 => 170 | 20 => 20 | 213 => 171 | 232 => 189 | 233 => 190 | 80 => 159 | n => n, fun | 15 => 3 | 16 => 4 | 17 => 5 | 18 => 7 | 19 => 8 | n => n⟩
theorem laysAtoi : Go.Proofs.LaysC.n172 Tryz.prog laysAtoi_ren := {
  mixed := by kernel_rfl
  f129 := Tryz.func177.trans (congrArg some (by kernel_rfl))
  f171 := Tryz.func116.trans (congrArg some (by kernel_rfl))
  f172 := Tryz.func128.trans (congrArg some (by kernel_rfl))
  f205 := Tryz.func175.trans (congrArg some (by kernel_rfl))
  f243 := Tryz.func139.trans (congrArg some (by kernel_rfl))
  f244 := Tryz.func146.trans (congrArg some (by kernel_rfl))
  f245 := Tryz.func147.trans (congrArg some (by kernel_rfl))
  f246 := Tryz.func152.trans (congrArg some (by kernel_rfl))
  f247 := Tryz.func156.trans (congrArg some (by kernel_rfl))
  f279 := Tryz.func157.trans (congrArg some (by kernel_rfl))
  f280 := Tryz.func158.trans (congrArg some (by kernel_rfl))
  f281 := Tryz.func159.trans (congrArg some (by kernel_rfl))
  f282 := Tryz.func160.trans (congrArg some (by kernel_rfl))
  f283 := Tryz.func163.trans (congrArg some (by kernel_rfl))
  f284 := Tryz.func164.trans (congrArg some (by kernel_rfl))
  f285 := Tryz.func165.trans (congrArg some (by kernel_rfl))
  f286 := Tryz.func166.trans (congrArg some (by kernel_rfl))
  f287 := Tryz.func173.trans (congrArg some (by kernel_rfl))
  f316 := Tryz.func174.trans (congrArg some (by kernel_rfl))
  f317 := Tryz.func176.trans (congrArg some (by kernel_rfl))
  f318 := Tryz.func178.trans (congrArg some (by kernel_rfl))
  f319 := Tryz.func179.trans (congrArg some (by kernel_rfl))
  f320 := Tryz.func180.trans (congrArg some (by kernel_rfl))
  f321 := Tryz.func187.trans (congrArg some (by kernel_rfl))
  f322 := Tryz.func188.trans (congrArg some (by kernel_rfl))
  f337 := Tryz.func189.trans (congrArg some (by kernel_rfl))
  f338 := Tryz.func190.trans (congrArg some (by kernel_rfl))
  t0 := Tryz.underlying0
  a0 := Tryz.isAgg0
  z0 := Tryz.sizeOf0
  v0 := Tryz.zeroValue0
  t2 := Tryz.underlying2
  a2 := Tryz.isAgg2
  z2 := Tryz.sizeOf2
  v2 := Tryz.zeroValue2
  t3 := Tryz.underlying3
  a3 := Tryz.isAgg3
  z3 := Tryz.sizeOf3
  v3 := Tryz.zeroValue3
  t4 := Tryz.underlying4
  a4 := Tryz.isAgg4
  z4 := Tryz.sizeOf4
  v4 := Tryz.zeroValue4
  t5 := Tryz.underlying5
  a5 := Tryz.isAgg5
  z5 := Tryz.sizeOf5
  v5 := Tryz.zeroValue5
  t9 := Tryz.underlying9
  a9 := Tryz.isAgg9
  z9 := Tryz.sizeOf9
  v9 := Tryz.zeroValue9
  t20 := Tryz.underlying20
  a20 := Tryz.isAgg20
  z20 := Tryz.sizeOf20
  v20 := Tryz.zeroValue20
  t21 := Tryz.underlying21
  a21 := Tryz.isAgg21
  z21 := Tryz.sizeOf21
  v21 := Tryz.zeroValue21
  t37 := Tryz.underlying37
  a37 := Tryz.isAgg37
  z37 := Tryz.sizeOf37
  v37 := Tryz.zeroValue37
  t46 := Tryz.underlying126
  a46 := Tryz.isAgg126
  z46 := Tryz.sizeOf126
  v46 := Tryz.zeroValue126
  t51 := Tryz.underlying170
  a51 := Tryz.isAgg170
  z51 := Tryz.sizeOf170
  v51 := Tryz.zeroValue170
  t53 := Tryz.underlying150
  a53 := Tryz.isAgg150
  z53 := Tryz.sizeOf150
  v53 := Tryz.zeroValue150
  t75 := Tryz.underlying122
  a75 := Tryz.isAgg122
  z75 := Tryz.sizeOf122
  v75 := Tryz.zeroValue122
  t76 := Tryz.underlying123
  a76 := Tryz.isAgg123
  z76 := Tryz.sizeOf123
  v76 := Tryz.zeroValue123
  t85 := Tryz.underlying142
  a85 := Tryz.isAgg142
  z85 := Tryz.sizeOf142
  v85 := Tryz.zeroValue142
  t127 := Tryz.underlying173
  a127 := Tryz.isAgg173
  z127 := Tryz.sizeOf173
  v127 := Tryz.zeroValue173
  t143 := Tryz.underlying178
  a143 := Tryz.isAgg178
  z143 := Tryz.sizeOf178
  v143 := Tryz.zeroValue178
  t145 := Tryz.underlying180
  a145 := Tryz.isAgg180
  z145 := Tryz.sizeOf180
  v145 := Tryz.zeroValue180
  t167 := Tryz.underlying141
  a167 := Tryz.isAgg141
  z167 := Tryz.sizeOf141
  v167 := Tryz.zeroValue141
  t168 := Tryz.underlying144
  a168 := Tryz.isAgg144
  z168 := Tryz.sizeOf144
  v168 := Tryz.zeroValue144
  t171 := Tryz.underlying149
  a171 := Tryz.isAgg149
  z171 := Tryz.sizeOf149
  v171 := Tryz.zeroValue149
  t173 := Tryz.underlying153
  a173 := Tryz.isAgg153
  z173 := Tryz.sizeOf153
  v173 := Tryz.zeroValue153
  t175 := Tryz.underlying162
  a175 := Tryz.isAgg162
  z175 := Tryz.sizeOf162
  v175 := Tryz.zeroValue162
  t210 := Tryz.underlying165
  a210 := Tryz.isAgg165
  z210 := Tryz.sizeOf165
  v210 := Tryz.zeroValue165
  t212 := Tryz.underlying169
  a212 := Tryz.isAgg169
  z212 := Tryz.sizeOf169
  v212 := Tryz.zeroValue169
  t213 := Tryz.underlying171
  a213 := Tryz.isAgg171
  z213 := Tryz.sizeOf171
  t232 := Tryz.underlying189
  a232 := Tryz.isAgg189
  z232 := Tryz.sizeOf189
  v232 := Tryz.zeroValue189
  t233 := Tryz.underlying190
  a233 := Tryz.isAgg190
  z233 := Tryz.sizeOf190
  v233 := Tryz.zeroValue190
  g15 := by kernel_rfl
  g16 := by kernel_rfl
  g17 := by kernel_rfl
  g18 := by kernel_rfl
  g19 := by kernel_rfl
  t80 := Tryz.underlying159
  a80 := Tryz.isAgg159
  z80 := Tryz.sizeOf159
  v80 := Tryz.zeroValue159
  i0 := by kernel_rfl
  i2 := by kernel_rfl
  i3 := by kernel_rfl
  i4 := by kernel_rfl
  i5 := by kernel_rfl
  i9 := by kernel_rfl
  i20 := by kernel_rfl
  i21 := by kernel_rfl
  i37 := by kernel_rfl
  i46 := by kernel_rfl
  i51 := by kernel_rfl
  i53 := by kernel_rfl
  i75 := by kernel_rfl
  i76 := by kernel_rfl
  i80 := by kernel_rfl
  i85 := by kernel_rfl
  i127 := by kernel_rfl
  i143 := by kernel_rfl
  i145 := by kernel_rfl
  i167 := by kernel_rfl
  i168 := by kernel_rfl
  i171 := by kernel_rfl
  i173 := by kernel_rfl
  i175 := by kernel_rfl
  i210 := by kernel_rfl
  i212 := by kernel_rfl
  i232 := by kernel_rfl
  i233 := by kernel_rfl
  m15 := by kernel_rfl
  m16 := by kernel_rfl
  m17 := by kernel_rfl
  m18 := by kernel_rfl
  m19 := by kernel_rfl
  c0 := by kernel_rfl
  c2 := by kernel_rfl
  c3 := by kernel_rfl
  c4 := by kernel_rfl
  c5 := by kernel_rfl
  c9 := by kernel_rfl
  c20 := by kernel_rfl
  c21 := by kernel_rfl
  c37 := by kernel_rfl
  c46 := by kernel_rfl
  c51 := by kernel_rfl
  c53 := by kernel_rfl
  c75 := by kernel_rfl
  c76 := by kernel_rfl
  c80 := by kernel_rfl
  c85 := by kernel_rfl
  c127 := by kernel_rfl
  c143 := by kernel_rfl
  c145 := by kernel_rfl
  c167 := by kernel_rfl
  c168 := by kernel_rfl
  c171 := by kernel_rfl
  c173 := by kernel_rfl
  c175 := by kernel_rfl
  c210 := by kernel_rfl
  c212 := by kernel_rfl
  c213 := by kernel_rfl
  c232 := by kernel_rfl
  c233 := by kernel_rfl }
end Go.Proofs.YtffelpdefjkeaaaGreatDoor
namespace Go.Proofs.YtffelpdefjkeaaaGreatDoor
open Go.RowKit Go.Lib
/-- strconv.ErrRange holds something that can be told. -/
def ErrR (w : World) : Prop := ∃ ev, w.cell? ⟨laysAtoi_ren.g 16, 0, none⟩ = some ev ∧ (ev = .nilIface ∨ ∃ te pe, ev = .iface te pe)
theorem ErrR.below {w w' : World} (h : ErrR w) (hb : Below w.heap.size w w') : ErrR w' := by
  obtain ⟨ev, h1, h2⟩ := h
  exact ⟨ev, (hb.cell (p := ⟨laysAtoi_ren.g 16, 0, none⟩) (Lib.lt_of_cell h1)).trans h1, h2⟩
theorem c_Atoi_ok (s : ByteArray) (v : Int) (w : World) (hs : s.size ≤ 1048576) (h : Lib.atoiAll s.data.toList = .ok v) :
    Calls Tryz.prog 128 #[.string s] w fun e w' => e = .returned (.tuple #[.int .i64 v, .nilIface]) ∧ Below w.heap.size w w' := by
  have h1 := Any.strconv_Atoi_ok laysAtoi s (by omega) v h w
  change Calls Tryz.prog 128 _ _ _ at h1
  refine h1.mono ?_
  rintro e w' ⟨rfl, hw⟩
  refine ⟨rfl, ?_⟩
  rcases hw with rfl | ⟨t, rfl⟩
  · exact Below.refl _ _
  · exact Lib.bytesWorld_below _ _ _
theorem c_Atoi_range (s : ByteArray) (w : World) (hs : s.size ≤ 1048576) (h : Lib.atoiAll s.data.toList = .range) (hE : ErrR w) :
    Calls Tryz.prog 128 #[.string s] w fun e w' => ∃ x N, e = .returned (.tuple #[.int .i64 x, .iface 144 (.pointer (some ⟨N, 0, none⟩))]) ∧ Below w.heap.size w w' := by
  obtain ⟨ev, h2, h3⟩ := hE
  have h1 := Any.strconv_Atoi_range laysAtoi s (by omega) h ev w h2 h3
  change Calls Tryz.prog 128 _ _ _ at h1
  refine h1.mono ?_
  rintro e w' ⟨N, rfl, -, -, hb⟩
  exact ⟨_, N, rfl, hb⟩
theorem digit_fig (x : Int) : digitB x = figI x := by
  unfold digitB figI
  rw [Bool.eq_iff_iff]
  simp
end Go.Proofs.YtffelpdefjkeaaaGreatDoor
namespace Go.Proofs.YtffelpdefjkeaaaGreatDoor
open Go.RowKit Go.Lib
theorem get_byte (s : ByteArray) (i : Nat) (h : i < s.size) : (s[i]'h).toNat = (s.get! i).toNat := by
  show _ = (s.data[i]!).toNat
  rw [getElem!_pos s.data i h]
  rfl
end Go.Proofs.YtffelpdefjkeaaaGreatDoor
