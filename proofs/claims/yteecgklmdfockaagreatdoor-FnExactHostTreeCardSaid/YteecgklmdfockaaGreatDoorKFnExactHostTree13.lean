/- Written by wip/tools/pack.py: the texts that FnExactHostTree needs, without what it does not need. No conditions. -/
import Derived.Test.YteecgklmdfockaaGreatDoorKFnExactHostTree10
import Derived.Test.YteecgklmdfockaaGreatDoorKFnExactHostTree11
import Derived.Test.YteecgklmdfockaaGreatDoorKFnExactHostTree7
import Derived.Test.YteecgklmdfockaaGreatDoorKFnExactHostTree12
import Derived.Test.YteecgklmdfockaaGreatDoorKFnExactHostTree3
import Derived.Test.YteecgklmdfockaaGreatDoorKFnExactHostTree2
namespace Go.Proofs.YteecgklmdfockaaGreatDoor
open Go.RowKit
def hostB (h : Host) : Bool := nameB h.name && labelsB h.labels && decide (0 ≤ h.cpu) && decide (0 ≤ h.mem) && inB h.slots 1 20 && taintsB h.taints
set_option maxHeartbeats 2000000 in
theorem c_spec_HostOk (d : Host) (cs : List Value) (w : World) (lo : Nat) (hh : C_Host lo w.heap.size w d cs) :
    Calls Tryz.prog 22 #[.agg cs.toArray] w fun e w' => e = .returned (.bool (hostB d)) ∧ Below w.heap.size w w' := by
  obtain ⟨v1, v5, rfl, a0, a1, a2, a3, a4, a5⟩ := hh
  obtain ⟨A1, c1, rfl⟩ := a1.form
  obtain ⟨A, c, rfl⟩ := a5.form
  unfold I64 at a2 a3 a4
  go_enter Tryz.func22, Tryz.ntmps22
  go_wp2_with (first | (go_at_call 64; refine (c_spec_NameOk _ _ (by omega)).mono ?_; rintro e w1 ⟨rfl, rfl⟩) | (go_at_call 65; refine (c_spec_LabelsOk _ _ _ _ (Sl_Label.now (by assumption) bel)).mono ?_; rintro e w1 ⟨rfl, hb⟩; (first | ((have tc0 := Cum.join hcu hb); (clear tc0); (try ((have tc := Cum.up hcu hb bel); (try clear hs3); (try clear hs2); (try clear hs1); (try clear hs0); (try clear hsz); (try clear hfz); (try clear hc); (clear hcu); (have hcu := tc); (clear tc); (obtain ⟨hc, hfz⟩ := bcell hcu.h); (have hsz := hcu.h.size); (try simp at hsz); (try have hs0 := lt_of_succ_le hsz); (try (have hs1 := lt_pred hsz; (try (have hs2 := lt_pred hs1; (try (have hs3 := lt_pred hs2)))))))); (try ((have tc := Cum.up hcuA hb bel); (try clear hs3A); (try clear hs2A); (try clear hs1A); (try clear hs0A); (try clear hszA); (try clear hfzA); (try clear hcA); (clear hcuA); (have hcuA := tc); (clear tc); (obtain ⟨hcA, hfzA⟩ := bcell hcuA.h); (have hszA := hcuA.h.size); (try simp at hszA); (try have hs0A := lt_of_succ_le hszA); (try (have hs1A := lt_pred hszA; (try (have hs2A := lt_pred hs1A; (try (have hs3A := lt_pred hs2A)))))))); (try ((have tc := Cum.up hcuB hb bel); (try clear hs3B); (try clear hs2B); (try clear hs1B); (try clear hs0B); (try clear hszB); (try clear hfzB); (try clear hcB); (clear hcuB); (have hcuB := tc); (clear tc); (obtain ⟨hcB, hfzB⟩ := bcell hcuB.h); (have hszB := hcuB.h.size); (try simp at hszB); (try have hs0B := lt_of_succ_le hszB); (try (have hs1B := lt_pred hszB; (try (have hs2B := lt_pred hs1B; (try (have hs3B := lt_pred hs2B)))))))); (try ((have tc := Cum.up hcuC hb bel); (try clear hs3C); (try clear hs2C); (try clear hs1C); (try clear hs0C); (try clear hszC); (try clear hfzC); (try clear hcC); (clear hcuC); (have hcuC := tc); (clear tc); (obtain ⟨hcC, hfzC⟩ := bcell hcuC.h); (have hszC := hcuC.h.size); (try simp at hszC); (try have hs0C := lt_of_succ_le hszC); (try (have hs1C := lt_pred hszC; (try (have hs2C := lt_pred hs1C; (try (have hs3C := lt_pred hs2C))))))))) | ((try ((have tc := Cum.up hcuB hb bel); (try clear hs3B); (try clear hs2B); (try clear hs1B); (try clear hs0B); (try clear hszB); (try clear hfzB); (try clear hcB); (clear hcuB); (have hcuC := tc); (clear tc); (obtain ⟨hcC, hfzC⟩ := bcell hcuC.h); (have hszC := hcuC.h.size); (try simp at hszC); (try have hs0C := lt_of_succ_le hszC); (try (have hs1C := lt_pred hszC; (try (have hs2C := lt_pred hs1C; (try (have hs3C := lt_pred hs2C)))))))); (try ((have tc := Cum.up hcuA hb bel); (try clear hs3A); (try clear hs2A); (try clear hs1A); (try clear hs0A); (try clear hszA); (try clear hfzA); (try clear hcA); (clear hcuA); (have hcuB := tc); (clear tc); (obtain ⟨hcB, hfzB⟩ := bcell hcuB.h); (have hszB := hcuB.h.size); (try simp at hszB); (try have hs0B := lt_of_succ_le hszB); (try (have hs1B := lt_pred hszB; (try (have hs2B := lt_pred hs1B; (try (have hs3B := lt_pred hs2B)))))))); (try ((have tc := Cum.up hcu hb bel); (try clear hs3); (try clear hs2); (try clear hs1); (try clear hs0); (try clear hsz); (try clear hfz); (try clear hc); (clear hcu); (have hcuA := tc); (clear tc); (obtain ⟨hcA, hfzA⟩ := bcell hcuA.h); (have hszA := hcuA.h.size); (try simp at hszA); (try have hs0A := lt_of_succ_le hszA); (try (have hs1A := lt_pred hszA; (try (have hs2A := lt_pred hs1A; (try (have hs3A := lt_pred hs2A)))))))); (have hcu := Cum.mk hb); (obtain ⟨hc, hfz⟩ := bcell hcu.h); (have hsz := hcu.h.size); (try simp at hsz); (try have hs0 := lt_of_succ_le hsz); (try (have hs1 := lt_pred hsz; (try (have hs2 := lt_pred hs1; (try (have hs3 := lt_pred hs2))))))))) | (go_at_call 67; refine (c_spec_TaintsOk _ _ _ _ (Sl_Taint.now (by assumption) bel)).mono ?_; rintro e w1 ⟨rfl, hb⟩; (first | ((have tc0 := Cum.join hcu hb); (clear tc0); (try ((have tc := Cum.up hcu hb bel); (try clear hs3); (try clear hs2); (try clear hs1); (try clear hs0); (try clear hsz); (try clear hfz); (try clear hc); (clear hcu); (have hcu := tc); (clear tc); (obtain ⟨hc, hfz⟩ := bcell hcu.h); (have hsz := hcu.h.size); (try simp at hsz); (try have hs0 := lt_of_succ_le hsz); (try (have hs1 := lt_pred hsz; (try (have hs2 := lt_pred hs1; (try (have hs3 := lt_pred hs2)))))))); (try ((have tc := Cum.up hcuA hb bel); (try clear hs3A); (try clear hs2A); (try clear hs1A); (try clear hs0A); (try clear hszA); (try clear hfzA); (try clear hcA); (clear hcuA); (have hcuA := tc); (clear tc); (obtain ⟨hcA, hfzA⟩ := bcell hcuA.h); (have hszA := hcuA.h.size); (try simp at hszA); (try have hs0A := lt_of_succ_le hszA); (try (have hs1A := lt_pred hszA; (try (have hs2A := lt_pred hs1A; (try (have hs3A := lt_pred hs2A)))))))); (try ((have tc := Cum.up hcuB hb bel); (try clear hs3B); (try clear hs2B); (try clear hs1B); (try clear hs0B); (try clear hszB); (try clear hfzB); (try clear hcB); (clear hcuB); (have hcuB := tc); (clear tc); (obtain ⟨hcB, hfzB⟩ := bcell hcuB.h); (have hszB := hcuB.h.size); (try simp at hszB); (try have hs0B := lt_of_succ_le hszB); (try (have hs1B := lt_pred hszB; (try (have hs2B := lt_pred hs1B; (try (have hs3B := lt_pred hs2B)))))))); (try ((have tc := Cum.up hcuC hb bel); (try clear hs3C); (try clear hs2C); (try clear hs1C); (try clear hs0C); (try clear hszC); (try clear hfzC); (try clear hcC); (clear hcuC); (have hcuC := tc); (clear tc); (obtain ⟨hcC, hfzC⟩ := bcell hcuC.h); (have hszC := hcuC.h.size); (try simp at hszC); (try have hs0C := lt_of_succ_le hszC); (try (have hs1C := lt_pred hszC; (try (have hs2C := lt_pred hs1C; (try (have hs3C := lt_pred hs2C))))))))) | ((try ((have tc := Cum.up hcuB hb bel); (try clear hs3B); (try clear hs2B); (try clear hs1B); (try clear hs0B); (try clear hszB); (try clear hfzB); (try clear hcB); (clear hcuB); (have hcuC := tc); (clear tc); (obtain ⟨hcC, hfzC⟩ := bcell hcuC.h); (have hszC := hcuC.h.size); (try simp at hszC); (try have hs0C := lt_of_succ_le hszC); (try (have hs1C := lt_pred hszC; (try (have hs2C := lt_pred hs1C; (try (have hs3C := lt_pred hs2C)))))))); (try ((have tc := Cum.up hcuA hb bel); (try clear hs3A); (try clear hs2A); (try clear hs1A); (try clear hs0A); (try clear hszA); (try clear hfzA); (try clear hcA); (clear hcuA); (have hcuB := tc); (clear tc); (obtain ⟨hcB, hfzB⟩ := bcell hcuB.h); (have hszB := hcuB.h.size); (try simp at hszB); (try have hs0B := lt_of_succ_le hszB); (try (have hs1B := lt_pred hszB; (try (have hs2B := lt_pred hs1B; (try (have hs3B := lt_pred hs2B)))))))); (try ((have tc := Cum.up hcu hb bel); (try clear hs3); (try clear hs2); (try clear hs1); (try clear hs0); (try clear hsz); (try clear hfz); (try clear hc); (clear hcu); (have hcuA := tc); (clear tc); (obtain ⟨hcA, hfzA⟩ := bcell hcuA.h); (have hszA := hcuA.h.size); (try simp at hszA); (try have hs0A := lt_of_succ_le hszA); (try (have hs1A := lt_pred hszA; (try (have hs2A := lt_pred hs1A; (try (have hs3A := lt_pred hs2A)))))))); (have hcu := Cum.mk hb); (obtain ⟨hc, hfz⟩ := bcell hcu.h); (have hsz := hcu.h.size); (try simp at hsz); (try have hs0 := lt_of_succ_le hsz); (try (have hs1 := lt_pred hsz; (try (have hs2 := lt_pred hs1; (try (have hs3 := lt_pred hs2))))))))) | (go_at_call 66; refine (c_spec_l01In _ _ _ _).mono ?_; rintro e w' ⟨rfl, rfl⟩))
  all_goals
    go_ret
    exact ⟨ret_bool (by simp_all [hostB] <;> omega), bel⟩
set_option maxHeartbeats 2000000 in
theorem c_impl_HostOk (d : Host) (cs : List Value) (w : World) (lo : Nat) (hh : C_Host lo w.heap.size w d cs) :
    Calls Tryz.prog 30 #[.agg cs.toArray] w fun e w' => e = .returned (.bool (hostB d)) ∧ Below w.heap.size w w' := by
  obtain ⟨v1, v5, rfl, a0, a1, a2, a3, a4, a5⟩ := hh
  obtain ⟨A1, c1, rfl⟩ := a1.form
  obtain ⟨A, c, rfl⟩ := a5.form
  unfold I64 at a2 a3 a4
  go_enter Tryz.func30, Tryz.ntmps30
  go_wp2_with (first | (go_at_call 77; refine (c_impl_NameOk _ _ (by omega)).mono ?_; rintro e w1 ⟨rfl, rfl⟩) | (go_at_call 78; refine (c_impl_LabelsOk _ _ _ _ (Sl_Label.now (by assumption) bel)).mono ?_; rintro e w1 ⟨rfl, hb⟩; (first | ((have tc0 := Cum.join hcu hb); (clear tc0); (try ((have tc := Cum.up hcu hb bel); (try clear hs3); (try clear hs2); (try clear hs1); (try clear hs0); (try clear hsz); (try clear hfz); (try clear hc); (clear hcu); (have hcu := tc); (clear tc); (obtain ⟨hc, hfz⟩ := bcell hcu.h); (have hsz := hcu.h.size); (try simp at hsz); (try have hs0 := lt_of_succ_le hsz); (try (have hs1 := lt_pred hsz; (try (have hs2 := lt_pred hs1; (try (have hs3 := lt_pred hs2)))))))); (try ((have tc := Cum.up hcuA hb bel); (try clear hs3A); (try clear hs2A); (try clear hs1A); (try clear hs0A); (try clear hszA); (try clear hfzA); (try clear hcA); (clear hcuA); (have hcuA := tc); (clear tc); (obtain ⟨hcA, hfzA⟩ := bcell hcuA.h); (have hszA := hcuA.h.size); (try simp at hszA); (try have hs0A := lt_of_succ_le hszA); (try (have hs1A := lt_pred hszA; (try (have hs2A := lt_pred hs1A; (try (have hs3A := lt_pred hs2A)))))))); (try ((have tc := Cum.up hcuB hb bel); (try clear hs3B); (try clear hs2B); (try clear hs1B); (try clear hs0B); (try clear hszB); (try clear hfzB); (try clear hcB); (clear hcuB); (have hcuB := tc); (clear tc); (obtain ⟨hcB, hfzB⟩ := bcell hcuB.h); (have hszB := hcuB.h.size); (try simp at hszB); (try have hs0B := lt_of_succ_le hszB); (try (have hs1B := lt_pred hszB; (try (have hs2B := lt_pred hs1B; (try (have hs3B := lt_pred hs2B)))))))); (try ((have tc := Cum.up hcuC hb bel); (try clear hs3C); (try clear hs2C); (try clear hs1C); (try clear hs0C); (try clear hszC); (try clear hfzC); (try clear hcC); (clear hcuC); (have hcuC := tc); (clear tc); (obtain ⟨hcC, hfzC⟩ := bcell hcuC.h); (have hszC := hcuC.h.size); (try simp at hszC); (try have hs0C := lt_of_succ_le hszC); (try (have hs1C := lt_pred hszC; (try (have hs2C := lt_pred hs1C; (try (have hs3C := lt_pred hs2C))))))))) | ((try ((have tc := Cum.up hcuB hb bel); (try clear hs3B); (try clear hs2B); (try clear hs1B); (try clear hs0B); (try clear hszB); (try clear hfzB); (try clear hcB); (clear hcuB); (have hcuC := tc); (clear tc); (obtain ⟨hcC, hfzC⟩ := bcell hcuC.h); (have hszC := hcuC.h.size); (try simp at hszC); (try have hs0C := lt_of_succ_le hszC); (try (have hs1C := lt_pred hszC; (try (have hs2C := lt_pred hs1C; (try (have hs3C := lt_pred hs2C)))))))); (try ((have tc := Cum.up hcuA hb bel); (try clear hs3A); (try clear hs2A); (try clear hs1A); (try clear hs0A); (try clear hszA); (try clear hfzA); (try clear hcA); (clear hcuA); (have hcuB := tc); (clear tc); (obtain ⟨hcB, hfzB⟩ := bcell hcuB.h); (have hszB := hcuB.h.size); (try simp at hszB); (try have hs0B := lt_of_succ_le hszB); (try (have hs1B := lt_pred hszB; (try (have hs2B := lt_pred hs1B; (try (have hs3B := lt_pred hs2B)))))))); (try ((have tc := Cum.up hcu hb bel); (try clear hs3); (try clear hs2); (try clear hs1); (try clear hs0); (try clear hsz); (try clear hfz); (try clear hc); (clear hcu); (have hcuA := tc); (clear tc); (obtain ⟨hcA, hfzA⟩ := bcell hcuA.h); (have hszA := hcuA.h.size); (try simp at hszA); (try have hs0A := lt_of_succ_le hszA); (try (have hs1A := lt_pred hszA; (try (have hs2A := lt_pred hs1A; (try (have hs3A := lt_pred hs2A)))))))); (have hcu := Cum.mk hb); (obtain ⟨hc, hfz⟩ := bcell hcu.h); (have hsz := hcu.h.size); (try simp at hsz); (try have hs0 := lt_of_succ_le hsz); (try (have hs1 := lt_pred hsz; (try (have hs2 := lt_pred hs1; (try (have hs3 := lt_pred hs2))))))))) | (go_at_call 79; refine (c_impl_TaintsOk _ _ _ _ (Sl_Taint.now (by assumption) bel)).mono ?_; rintro e w1 ⟨rfl, hb⟩; (first | ((have tc0 := Cum.join hcu hb); (clear tc0); (try ((have tc := Cum.up hcu hb bel); (try clear hs3); (try clear hs2); (try clear hs1); (try clear hs0); (try clear hsz); (try clear hfz); (try clear hc); (clear hcu); (have hcu := tc); (clear tc); (obtain ⟨hc, hfz⟩ := bcell hcu.h); (have hsz := hcu.h.size); (try simp at hsz); (try have hs0 := lt_of_succ_le hsz); (try (have hs1 := lt_pred hsz; (try (have hs2 := lt_pred hs1; (try (have hs3 := lt_pred hs2)))))))); (try ((have tc := Cum.up hcuA hb bel); (try clear hs3A); (try clear hs2A); (try clear hs1A); (try clear hs0A); (try clear hszA); (try clear hfzA); (try clear hcA); (clear hcuA); (have hcuA := tc); (clear tc); (obtain ⟨hcA, hfzA⟩ := bcell hcuA.h); (have hszA := hcuA.h.size); (try simp at hszA); (try have hs0A := lt_of_succ_le hszA); (try (have hs1A := lt_pred hszA; (try (have hs2A := lt_pred hs1A; (try (have hs3A := lt_pred hs2A)))))))); (try ((have tc := Cum.up hcuB hb bel); (try clear hs3B); (try clear hs2B); (try clear hs1B); (try clear hs0B); (try clear hszB); (try clear hfzB); (try clear hcB); (clear hcuB); (have hcuB := tc); (clear tc); (obtain ⟨hcB, hfzB⟩ := bcell hcuB.h); (have hszB := hcuB.h.size); (try simp at hszB); (try have hs0B := lt_of_succ_le hszB); (try (have hs1B := lt_pred hszB; (try (have hs2B := lt_pred hs1B; (try (have hs3B := lt_pred hs2B)))))))); (try ((have tc := Cum.up hcuC hb bel); (try clear hs3C); (try clear hs2C); (try clear hs1C); (try clear hs0C); (try clear hszC); (try clear hfzC); (try clear hcC); (clear hcuC); (have hcuC := tc); (clear tc); (obtain ⟨hcC, hfzC⟩ := bcell hcuC.h); (have hszC := hcuC.h.size); (try simp at hszC); (try have hs0C := lt_of_succ_le hszC); (try (have hs1C := lt_pred hszC; (try (have hs2C := lt_pred hs1C; (try (have hs3C := lt_pred hs2C))))))))) | ((try ((have tc := Cum.up hcuB hb bel); (try clear hs3B); (try clear hs2B); (try clear hs1B); (try clear hs0B); (try clear hszB); (try clear hfzB); (try clear hcB); (clear hcuB); (have hcuC := tc); (clear tc); (obtain ⟨hcC, hfzC⟩ := bcell hcuC.h); (have hszC := hcuC.h.size); (try simp at hszC); (try have hs0C := lt_of_succ_le hszC); (try (have hs1C := lt_pred hszC; (try (have hs2C := lt_pred hs1C; (try (have hs3C := lt_pred hs2C)))))))); (try ((have tc := Cum.up hcuA hb bel); (try clear hs3A); (try clear hs2A); (try clear hs1A); (try clear hs0A); (try clear hszA); (try clear hfzA); (try clear hcA); (clear hcuA); (have hcuB := tc); (clear tc); (obtain ⟨hcB, hfzB⟩ := bcell hcuB.h); (have hszB := hcuB.h.size); (try simp at hszB); (try have hs0B := lt_of_succ_le hszB); (try (have hs1B := lt_pred hszB; (try (have hs2B := lt_pred hs1B; (try (have hs3B := lt_pred hs2B)))))))); (try ((have tc := Cum.up hcu hb bel); (try clear hs3); (try clear hs2); (try clear hs1); (try clear hs0); (try clear hsz); (try clear hfz); (try clear hc); (clear hcu); (have hcuA := tc); (clear tc); (obtain ⟨hcA, hfzA⟩ := bcell hcuA.h); (have hszA := hcuA.h.size); (try simp at hszA); (try have hs0A := lt_of_succ_le hszA); (try (have hs1A := lt_pred hszA; (try (have hs2A := lt_pred hs1A; (try (have hs3A := lt_pred hs2A)))))))); (have hcu := Cum.mk hb); (obtain ⟨hc, hfz⟩ := bcell hcu.h); (have hsz := hcu.h.size); (try simp at hsz); (try have hs0 := lt_of_succ_le hsz); (try (have hs1 := lt_pred hsz; (try (have hs2 := lt_pred hs1; (try (have hs3 := lt_pred hs2))))))))) | (go_at_call 80; refine (c_impl_within _ _ _ _).mono ?_; rintro e w' ⟨rfl, rfl⟩))
  all_goals
    go_ret
    exact ⟨ret_bool (by simp_all [hostB] <;> omega), bel⟩
end Go.Proofs.YteecgklmdfockaaGreatDoor
namespace Go.Proofs.YteecgklmdfockaaGreatDoor
open Go.RowKit
set_option maxRecDepth 4000 in
theorem c_laws_markText (x : Int) (w : World) (h1 : 0 < x) (h2 : x ≤ 4611686018427387904) :
    Calls Tryz.prog 88 #[.int .i64 x] w fun e w' => e = .returned (.string (mkI x)) ∧ Below w.heap.size w w' := by
  have Hm := Lib.hid (show mkI x = ⟨#[109]⟩ ++ mkL x.toNat ⟨#[]⟩ from rfl)
  go_enter Tryz.func88, Tryz.ntmps88
  go_wp2_with fail
  go_loopw [0, 3] (fun y o wr => ∃ (j : Nat) (out : ByteArray), y = .int .i64 j ∧ o = .string out ∧ mkL j out = mkL x.toNat ⟨#[]⟩ ∧ out.size + j ≤ x.toNat ∧ Below w.heap.size w wr) (fun y _ _ => (intOf y).toNat)
  case atStart => exact ⟨x.toNat, ⟨#[]⟩, (by congr 1; omega), rfl, rfl, by show 0 + _ ≤ _; omega, bel⟩
  case round =>
    obtain ⟨j, out, rfl, rfl, hm, hs, hbr⟩ := hrel
    have Hj := Lib.hid hm
    clear hm
    by_cases hj : 0 < j
    · have hj2 : (0 : Int) < j := by omega
      have hj3 : (j : Int) ≤ 4611686018427387904 := by omega
      have hcv : (convert 131 9 (.slice (some ⟨wr.heap.size, 0, none⟩) 1 1)).run Tryz.prog (wr.alloc (.cells #[.int .u8 (48 + (j : Int) % 10)] 5)) = .ok (.string (digit j)) (wr.alloc (.cells #[.int .u8 (48 + (j : Int) % 10)] 5)) := by
        refine run_convert_bytes_back (P := Tryz.prog) _ 131 9 5 ⟨wr.heap.size, 0, none⟩ 1 [UInt8.ofNat (48 + j % 10)] Tryz.underlying131 Tryz.underlying5 Tryz.underlying9 (fun i hi => ?_)
        obtain rfl : i = 0 := by simpa using hi
        have e : ((UInt8.ofNat (48 + j % 10)).toNat : Int) = 48 + (j : Int) % 10 := by
          rw [UInt8.toNat_ofNat']; omega
        have e2 : (⟨wr.heap.size, 0, none⟩ : Addr).add 0 = ⟨wr.heap.size, 0, none⟩ := rfl
        rw [e2, World.cell?_alloc_mark]
        simp only [List.getElem_cons_zero, e]
        rfl
      have hd1 : (digit j).size = 1 := rfl
      have Hn := Lib.hid (show mkL (j / 10) (digit j ++ out) = mkL x.toNat ⟨#[]⟩ by rw [← Hj.out, mkL_pos j out hj])
      have Hz := Lib.hid (show (digit j ++ out).size + j / 10 ≤ x.toNat by rw [ByteArray.size_append, hd1]; omega)
      go_wp2_with fail
      go_roundw
      case rel => exact ⟨j / 10, digit j ++ out, by go_num, rfl, Hn.out, Hz.out, bel⟩
      case measure => simp [intOf]; omega
    · obtain rfl : j = 0 := by omega
      have Hf := Lib.hid (show mkI x = ⟨#[109]⟩ ++ out by rw [Hm.out, ← Hj.out, mkL_zero])
      go_wp2_with fail
      go_ret
      exact ⟨by rw [Hf.out]; rfl, bel⟩
theorem c_laws_markStringS (l : List ByteArray) (v : Value) (x : Int) (w : World) (S : Nat → Prop) (h : OwnS S w l v) (hSb : ∀ b, S b → b < w.heap.size) (h1 : 0 < x) (h2 : x + l.length ≤ 2305843009213693952) :
    Calls Tryz.prog 42 #[v, .int .i64 x] w fun e w' => ∃ l', e = .returned (.int .i64 (x + l.length)) ∧ l'.length = l.length ∧ OwnS S w' l' v ∧ MkSs x l' ∧ Aside S w w' := by
  obtain ⟨A, c, rfl, hlc, hc, hA⟩ := h
  by_cases hz : l.length = 0
  · obtain rfl : l = [] := List.eq_nil_of_length_eq_zero hz
    clear hA
    go_enter Tryz.func42, Tryz.ntmps42
    go_wp2_with fail
    go_loopw [1, 5] (fun y i wr => y = .int .i64 x ∧ i = .int .i64 0 ∧ wr = w) (fun _ _ _ => 0)
    case atStart => exact ⟨rfl, rfl, rfl⟩
    case round =>
      obtain ⟨rfl, rfl, rfl⟩ := hrel
      go_wp2_with fail
      go_ret
      exact ⟨[], ret_int (by simp), rfl, ⟨A, c, rfl, by simp, hc, fun h => by simp at h⟩, fun i s h => by simp at h, Aside.refl _ _⟩
  · obtain ⟨g, cur, rfl, hg, hr, hcur⟩ := hA (by omega)
    have hgl := hSb g hg
    go_enter Tryz.func42, Tryz.ntmps42
    go_wp2_with fail
    go_loopw [1, 5] (fun y i wr => ∃ (k : Nat) (l' : List ByteArray) (cur' : Array Value), k ≤ l.length ∧ l'.length = l.length ∧ i = .int .i64 k ∧ y = .int .i64 (x + k) ∧ wr.heap[g]? = some (.cells cur' 9 (0, 0)) ∧ (∀ (i : Nat) (s : ByteArray), l'[i]? = some s → cur'[i]? = some (Value.string s) ∧ s.size ≤ 9223372036854775807) ∧ (∀ (j : Nat) (s : ByteArray), j < k → l'[j]? = some s → s = mkI (x + j)) ∧ Aside S w wr) (fun _ i _ => l.length - (intOf i).toNat)
    case atStart => exact ⟨0, l, cur, Nat.zero_le _, rfl, rfl, by simp, hr, hcur, fun j s h => by omega, Aside.refl _ _⟩
    case round =>
      obtain ⟨k, l', cur', hk, hl', rfl, rfl, hr', hcur', hmk, has⟩ := hrel
      have Hc := Lib.hid hcur'
      have Hm := Lib.hid hmk
      clear hcur' hmk hcur hA
      by_cases hlt : k < l.length
      · obtain ⟨d, hd⟩ := exists_at (l := l') (k := k) (by omega)
        have hx0 : wr.cell? ⟨g, k, none⟩ = some (.string d) := by rw [cell_of_row wr g _ cur' _ _ hr']; exact (Hc.out k d hd).1
        have hf0 := frozen_row hr' k
        have hgw := row_lt hr'
        have hk1 : (k : Int) < l.length := by omega
        go_wp2_with (first | (go_at_call 88; refine (c_laws_markText _ _ (by omega) (by omega)).mono ?_; rintro e w1 ⟨rfl, hb⟩; (first | (have hcu2 := Cum.join hcu hb; (try clear hcu); (try clear hc); (try clear hfz); (try clear hsz); (try clear hs0); (try clear hs1); (try clear hs2); (try clear hs3); (try clear hs4); ) | have hcu2 := Cum.mk hb); have hcu := hcu2; clear hcu2; obtain ⟨hc, hfz⟩ := bcell hcu.h; have hsz := hcu.h.size; (try simp at hsz); (try have hs0 := lt_of_succ_le hsz); (try (have hs1 := lt_pred hsz; (try (have hs2 := lt_pred hs1; (try (have hs3 := lt_pred hs2; (try have hs4 := lt_pred hs3)))))))))
        go_roundw
        case rel =>
          refine ⟨k + 1, l'.set k (mkI (x + k)), cur'.setIfInBounds k (.string (mkI (x + k))), by omega, by simp [hl'], by go_num, by go_num, heap_setCell_same _ _ _ _ _ _ ((hb.block _ hgw).trans hr'), fun i s h => ?_, fun j s hj h => ?_, ?_⟩
          · have hkc : k < cur'.size := (Array.getElem?_eq_some_iff.1 (Hc.out k d hd).1).1
            rw [List.getElem?_set] at h
            rw [Array.getElem?_setIfInBounds]
            by_cases he : k = i
            · subst he
              rw [if_pos rfl, if_pos (by omega)] at h
              rw [if_pos rfl, if_pos hkc]
              obtain rfl := Option.some.inj h
              exact ⟨rfl, mkI_size _ (by omega)⟩
            · rw [if_neg he] at h
              rw [if_neg he]
              exact Hc.out i s h
          · rw [List.getElem?_set] at h
            by_cases he : k = j
            · subst he
              rw [if_pos rfl, if_pos (by omega)] at h
              exact (Option.some.inj h).symm
            · rw [if_neg he] at h
              exact Hm.out j s (by omega) h
          · exact Aside.setCell (has.trans (Aside.of_below hb)) hg
        case measure => simp [intOf]; omega
      · obtain rfl : k = l.length := by omega
        go_wp2_with fail
        go_ret
        exact ⟨l', rfl, hl', ⟨_, c, by rw [hl'], by omega, hc, fun _ => ⟨g, cur', rfl, hg, hr', Hc.out⟩⟩, fun i s h => Hm.out i s (by have := (List.getElem?_eq_some_iff.1 h).1; omega) h, has⟩
theorem c_laws_heldStringS (l : List ByteArray) (v : Value) (x : Int) (w : World) (lo : Nat) (hs : Sl_Str lo w.heap.size w l v) (hm : MkSs x l) (h1 : 0 < x) (h2 : x + l.length ≤ 2305843009213693952) :
    Calls Tryz.prog 44 #[v, .int .i64 x] w fun e w' => e = .returned (.int .i64 (x + l.length)) ∧ Below w.heap.size w w' := by
  obtain ⟨A, c, rfl, hlc, hc, hA⟩ := hs
  have Hm := Lib.hid hm
  clear hm
  go_enter Tryz.func44, Tryz.ntmps44
  go_wp2_with fail
  go_loopw [1, 5] (fun y i wr => ∃ k : Nat, k ≤ l.length ∧ i = .int .i64 k ∧ y = .int .i64 (x + k) ∧ Below w.heap.size w wr) (fun _ i _ => l.length - (intOf i).toNat)
  case atStart => exact ⟨0, Nat.zero_le _, rfl, by simp, bel⟩
  case round =>
    obtain ⟨k, hk, rfl, rfl, hbr⟩ := hrel
    by_cases hlt : k < l.length
    · obtain ⟨b, o, rfl, -, hb2, hcell⟩ := hA (by omega)
      obtain ⟨d, hd⟩ := exists_at hlt
      obtain ⟨es, -, hcs, hC⟩ := hcell k d hd
      obtain ⟨rfl, ea0⟩ := hC
      obtain rfl := Hm.out k d hd
      have hc0 := (hbr.cell (p := ⟨b, o + k * 1 + 0, none⟩) (by simp; omega)).trans (hcs 0 (by omega))
      simp at hc0
      have hbl : b < wr.heap.size := Nat.lt_of_lt_of_le hb2 hbr.size
      have hk0 : (0 : Int) ≤ k := by omega
      have hk1 : (k : Int) < l.length := by omega
      clear hcs hcell hA hd
      go_wp2_with fail
      refine wp_region_det 7 (by kernel_rfl) (by kernel_rfl) (by decide) ?_
      apply Exists.intro
      refine And.intro ?_ ?_
      · (intro W hW; (try simp only [Act.put, List.setIfInBounds_toArray, List.set_cons_zero, List.set_cons_succ]); first | (go_wp2_with fail; exact ⟨rfl, rfl, Below.refl _ _⟩))
      apply Exists.intro
      refine And.intro ?_ ?_
      · (intro W hW; (try simp only [Act.put, List.setIfInBounds_toArray, List.set_cons_zero, List.set_cons_succ]); first | (go_wp2_with fail; exact ⟨rfl, rfl, Below.refl _ _⟩))
      apply Exists.intro
      refine And.intro ?_ ?_
      · (intro W hW; (try simp only [Act.put, List.setIfInBounds_toArray, List.set_cons_zero, List.set_cons_succ]); first | (go_wp2_with fail; exact ⟨rfl, rfl, Below.refl _ _⟩))
      apply Exists.intro
      refine And.intro ?_ ?_
      · (intro W hW; (try simp only [Act.put, List.setIfInBounds_toArray, List.set_cons_zero, List.set_cons_succ]); first | (obtain ⟨hcW, hfW⟩ := bcell hW; have hsW := hW.size; (try simp at hsW); (try have hsW0 := lt_of_succ_le hsW); (try (have hsW1 := lt_pred hsW; (try (have hsW2 := lt_pred hsW1)))); go_wp2_with fail; exact ⟨rfl, rfl, Below.refl _ _⟩))
      apply Exists.intro
      refine And.intro ?_ ?_
      · (intro W hW; (try simp only [Act.put, List.setIfInBounds_toArray, List.set_cons_zero, List.set_cons_succ]); first | (go_wp2_with fail; exact ⟨rfl, rfl, Below.refl _ _⟩))
      apply Exists.intro
      refine And.intro ?_ ?_
      · (intro W hW; (try simp only [Act.put, List.setIfInBounds_toArray, List.set_cons_zero, List.set_cons_succ]); first | (obtain ⟨hcW, hfW⟩ := bcell hW; have hsW := hW.size; (try simp at hsW); (try have hsW0 := lt_of_succ_le hsW); (try (have hsW1 := lt_pred hsW; (try (have hsW2 := lt_pred hsW1)))); go_wp2_with (first | (go_at_call 88; refine (c_laws_markText _ _ (by omega) (by omega)).mono ?_; rintro e w9 ⟨rfl, hb9⟩)); exact ⟨rfl, rfl, bel⟩))
      apply Exists.intro
      refine And.intro ?_ ?_
      · (intro W hW; (try simp only [Act.put, List.setIfInBounds_toArray, List.set_cons_zero, List.set_cons_succ]); first | (go_wp2_with fail; exact ⟨rfl, rfl, Below.refl _ _⟩))
      intro w1 hb
      (first | (have hcu2 := Cum.join hcu hb; (try clear hcu); (try clear hc); (try clear hfz); (try clear hsz); (try clear hs0); (try clear hs1); (try clear hs2); (try clear hs3); (try clear hs4); ) | have hcu2 := Cum.mk hb); have hcu := hcu2; clear hcu2; obtain ⟨hc, hfz⟩ := bcell hcu.h; have hsz := hcu.h.size; (try simp at hsz); (try have hs0 := lt_of_succ_le hsz); (try (have hs1 := lt_pred hsz; (try (have hs2 := lt_pred hs1; (try (have hs3 := lt_pred hs2; (try have hs4 := lt_pred hs3)))))))
      (try simp only [Act.put, List.setIfInBounds_toArray, List.set_cons_zero, List.set_cons_succ])
      (try simp only [List.drop_succ_cons, List.drop_nil])
      go_wp2_with fail
      go_roundw
      case rel => exact ⟨k + 1, by omega, by go_num, by go_num, bel⟩
      case measure => simp [intOf]; omega
    · obtain rfl : k = l.length := by omega
      clear hA
      go_wp2_with fail
      go_ret
      exact ⟨rfl, bel⟩
end Go.Proofs.YteecgklmdfockaaGreatDoor
namespace Go.Proofs.YteecgklmdfockaaGreatDoor
open Go.RowKit
def RowAt {D : Type} (C : D → List Value → Prop) (sz : Nat) (cur : Array Value) (l : List D) : Prop := ∀ i d, l[i]? = some d → ∃ es, es.length = sz ∧ (∀ j, j < sz → cur[i * sz + j]? = es[j]?) ∧ C d es
/-- v is a slice of the structs l, in one row of a block of S. -/
def OwnR {D : Type} (C : D → List Value → Prop) (sz ty : Nat) (S : Nat → Prop) (w : World) (l : List D) (v : Value) : Prop :=
  ∃ A c, v = .slice A l.length c ∧ l.length ≤ c ∧ c ≤ 9223372036854775807 ∧ (0 < l.length → ∃ g cur, A = some ⟨g, 0, none⟩ ∧ S g ∧ w.heap[g]? = some (.cells cur ty (0, 0)) ∧ RowAt C sz cur l)
theorem OwnR.form {D : Type} {C : D → List Value → Prop} {sz ty : Nat} {S : Nat → Prop} {w : World} {l : List D} {v : Value} (h : OwnR C sz ty S w l v) : ∃ A c, v = .slice A l.length c := by
  obtain ⟨A, c, hv, _⟩ := h
  exact ⟨A, c, hv⟩
theorem OwnR.carry {D : Type} {C : D → List Value → Prop} {sz ty : Nat} {S S' : Nat → Prop} {w w' : World} {l : List D} {v : Value} (h : OwnR C sz ty S w l v) (hs : ∀ b, S b → w'.heap[b]? = w.heap[b]?) (hS : ∀ b, S b → S' b) : OwnR C sz ty S' w' l v := by
  obtain ⟨A, c, hv, h1, h2, h3⟩ := h
  refine ⟨A, c, hv, h1, h2, fun hp => ?_⟩
  obtain ⟨g, cur, hA, hg, hr, hc⟩ := h3 hp
  exact ⟨g, cur, hA, hS g hg, (hs g hg).trans hr, hc⟩
theorem OwnR.toC {D : Type} {C : D → List Value → Prop} {sz ty lo hi : Nat} {S : Nat → Prop} {w : World} {l : List D} {v : Value} (h : OwnR C sz ty S w l v) (hS : ∀ b, S b → lo ≤ b ∧ b < hi) : SlOf C sz lo hi w l v := by
  obtain ⟨A, c, rfl, h1, h2, h3⟩ := h
  refine ⟨A, c, rfl, h1, h2, fun hp => ?_⟩
  obtain ⟨g, cur, rfl, hg, hr, hc⟩ := h3 hp
  refine ⟨g, 0, rfl, (hS g hg).1, (hS g hg).2, fun i d hd => ?_⟩
  obtain ⟨es, e1, e2, e3⟩ := hc i d hd
  refine ⟨es, e1, fun j hj => ?_, e3⟩
  rw [cell_of_row w g _ cur _ _ hr, Nat.zero_add]
  exact e2 j hj
theorem OwnR.of_part {D : Type} {C : D → List Value → Prop} {sz ty g c : Nat} {S : Nat → Prop} {w : World} {l : List D} {cs : Array Value} (h : Part C sz l l.length cs) (hg : w.heap[g]? = some (.cells cs ty (0, 0))) (hS : S g) (hc : l.length ≤ c) (hc2 : c ≤ 9223372036854775807) : OwnR C sz ty S w l (.slice (some ⟨g, 0, none⟩) l.length c) :=
  ⟨_, c, rfl, hc, hc2, fun _ => ⟨g, cs, rfl, hS, hg, fun i d hd => h.2 i d (List.getElem?_eq_some_iff.1 hd).1 hd⟩⟩
theorem RowAt.set {D : Type} {C : D → List Value → Prop} {sz : Nat} {cur : Array Value} {l : List D} (h : RowAt C sz cur l) {k : Nat} {d' : D} {es' : List Value} (hl : es'.length = sz) (hC : C d' es') (hk : k * sz + sz ≤ cur.size) : RowAt C sz (putAt cur (k * sz) es') (l.set k d') := by
  intro i d hd
  rw [List.getElem?_set] at hd
  by_cases he : k = i
  · subst he
    rw [if_pos rfl] at hd
    by_cases hkl : k < l.length
    · rw [if_pos hkl] at hd
      obtain rfl := Option.some.inj hd
      exact ⟨es', hl, fun j hj => get_putAt _ _ _ j (by omega) (by omega), hC⟩
    · rw [if_neg hkl] at hd; cases hd
  · rw [if_neg he] at hd
    obtain ⟨es, e1, e2, e3⟩ := h i d hd
    refine ⟨es, e1, fun j hj => ?_, e3⟩
    rw [← e2 j hj]
    rcases Nat.lt_or_ge i k with h1 | h1
    · have := Nat.mul_le_mul_right sz h1
      rw [Nat.succ_mul] at this
      rw [get_putAt_lt _ _ _ _ (by omega)]
    · have h2 : k < i := by omega
      have := Nat.mul_le_mul_right sz h2
      rw [Nat.succ_mul] at this
      rw [get_putAt_ge _ _ _ _ (by omega)]
theorem RowAt.size {D : Type} {C : D → List Value → Prop} {sz : Nat} {cur : Array Value} {l : List D} (h : RowAt C sz cur l) {k : Nat} {d : D} (hd : l[k]? = some d) (hz : 0 < sz) : k * sz + sz ≤ cur.size := by
  obtain ⟨es, e1, e2, -⟩ := h k d hd
  have h3 := e2 (sz - 1) (by omega)
  rw [List.getElem?_eq_getElem (by omega)] at h3
  have := (Array.getElem?_eq_some_iff.1 h3).1
  omega
end Go.Proofs.YteecgklmdfockaaGreatDoor
namespace Go.Proofs.YteecgklmdfockaaGreatDoor
open Go.RowKit
abbrev Own_Label (S : Nat → Prop) (w : World) (l : List Label) (v : Value) : Prop := OwnR C_Label 2 111 S w l v
def mkLabel (k : Int) : Label := ⟨mkI (k), mkI (k + 1)⟩
/-- The members of l bear the marks from k on. -/
def MkLabels (k : Int) (l : List Label) : Prop := ∀ (i : Nat) (d : Label), l[i]? = some d → d = mkLabel (k + 2 * i)
theorem c_laws_toLabelSO (l : List Label) (v : Value) (w : World) (lo : Nat) (hs : Sl_Label lo w.heap.size w l v) (hn : l.length ≤ 1048576) :
    Calls Tryz.prog 28 #[v] w fun e w' => ∃ A c, e = .returned (.slice A l.length c) ∧ Own_Label (fun b => w.heap.size ≤ b ∧ b < w'.heap.size) w' l (.slice A l.length c) ∧ Below w.heap.size w w' := by
  obtain ⟨A, c, rfl, hlc, hc, hA⟩ := hs
  have hmk := run_make_slice (P := Tryz.prog) (z := .agg #[.string ⟨#[]⟩, .string ⟨#[]⟩]) (size := 2) (bytes := 32) Tryz.underlying32 (by kernel_rfl) l.length (by omega) (by omega)
  go_enter Tryz.func28, Tryz.ntmps28
  go_wp2_with fail
  go_loopw [4] (fun i wr => ∃ (k : Nat) (cs : Array Value), k ≤ l.length ∧ i = .int .i64 k ∧ Below w.heap.size w wr ∧ wr.heap[w.heap.size]? = some (.cells cs 111 (0, 0)) ∧ Part (C_Label) 2 l k cs) (fun i _ => l.length - (intOf i).toNat)
  case atStart => exact ⟨0, _, Nat.zero_le _, rfl, bel, heap_alloc_new _ _, Part.zero (by simp [size_madeCells])⟩
  case round =>
    obtain ⟨k, cs, hk, rfl, hbr, hg, hp⟩ := hrel
    by_cases hlt : k < l.length
    · obtain ⟨b, o, rfl, -, hb2, hcell⟩ := hA (by omega)
      obtain ⟨d, hd⟩ := exists_at hlt
      obtain ⟨es, -, hcs, hC⟩ := hcell k d hd
      have hC' := hC
      obtain ⟨rfl, ea0, ea1⟩ := hC'
      have hc0 := (hbr.cell (p := ⟨b, o + k * 2 + 0, none⟩) (by simp; omega)).trans (hcs 0 (by omega))
      simp at hc0
      have hc1 := (hbr.cell (p := ⟨b, o + k * 2 + 1, none⟩) (by simp; omega)).trans (hcs 1 (by omega))
      simp at hc1
      obtain ⟨x0, hx0⟩ := row_cell hg (o := k * 2 + 0) (by rw [hp.1]; omega)
      have hf0 := frozen_row hg (k * 2 + 0)
      rw [Nat.add_zero] at hx0 hf0
      obtain ⟨x1, hx1⟩ := row_cell hg (o := k * 2 + 1) (by rw [hp.1]; omega)
      have hf1 := frozen_row hg (k * 2 + 1)
      have hgl := row_lt hg
      clear hcs hcell hA
      go_wp2_with (go_at_call 75; refine (c_laws_toLabel d _ _ hC).mono ?_; rintro e w1 ⟨rfl, hb⟩; (first | (have hcu2 := Cum.join hcu hb; (try clear hcu); (try clear hc); (try clear hfz); (try clear hsz); (try clear hs0); (try clear hs1); (try clear hs2); (try clear hs3); (try clear hs4); ) | have hcu2 := Cum.mk hb); have hcu := hcu2; clear hcu2; obtain ⟨hc, hfz⟩ := bcell hcu.h; have hsz := hcu.h.size; (try simp at hsz); (try have hs0 := lt_of_succ_le hsz); (try (have hs1 := lt_pred hsz; (try (have hs2 := lt_pred hs1; (try (have hs3 := lt_pred hs2; (try have hs4 := lt_pred hs3))))))))
      go_roundw
      case rel => exact ⟨k + 1, putAt cs (k * 2) [.string d.key, .string d.value], by omega, by go_num, bel, heap_putCells [.string d.key, .string d.value] _ _ _ _ _ ((hb.block _ hgl).trans hg), hp.store hd rfl hC⟩
      case measure => simp [intOf]; omega
    · obtain rfl : k = l.length := by omega
      clear hA
      go_wp2_with fail
      go_ret
      exact ⟨_, _, rfl, OwnR.of_part hp hg ⟨Nat.le_refl _, row_lt hg⟩ (Nat.le_refl _) (by omega), bel⟩
set_option maxHeartbeats 1000000 in
theorem c_laws_markLabelS (l : List Label) (v : Value) (x : Int) (w : World) (S : Nat → Prop) (h : Own_Label S w l v) (hSb : ∀ b, S b → b < w.heap.size) (h1 : 0 < x) (h2 : x + 2 * l.length ≤ 1152921504606846976) :
    Calls Tryz.prog 40 #[v, .int .i64 x] w fun e w' => ∃ l', e = .returned (.int .i64 (x + 2 * l.length)) ∧ l'.length = l.length ∧ Own_Label S w' l' v ∧ MkLabels x l' ∧ Aside S w w' := by
  obtain ⟨A, c, rfl, hlc, hc, hA⟩ := h
  by_cases hz : l.length = 0
  · obtain rfl : l = [] := List.eq_nil_of_length_eq_zero hz
    clear hA
    go_enter Tryz.func40, Tryz.ntmps40
    go_wp2_with fail
    go_loopw [1, 5] (fun y i wr => y = .int .i64 x ∧ i = .int .i64 0 ∧ wr = w) (fun _ _ _ => 0)
    case atStart => exact ⟨rfl, rfl, rfl⟩
    case round =>
      obtain ⟨rfl, rfl, rfl⟩ := hrel
      go_wp2_with fail
      go_ret
      exact ⟨[], ret_int (by simp), rfl, ⟨A, c, rfl, by simp, hc, fun h => by simp at h⟩, fun i s h => by simp at h, Aside.refl _ _⟩
  · obtain ⟨g, cur, rfl, hg, hr, hcur⟩ := hA (by omega)
    have hgl := hSb g hg
    go_enter Tryz.func40, Tryz.ntmps40
    go_wp2_with fail
    go_loopw [1, 5] (fun y i wr => ∃ (k : Nat) (l' : List Label) (cur' : Array Value), k ≤ l.length ∧ l'.length = l.length ∧ i = .int .i64 k ∧ y = .int .i64 (x + 2 * k) ∧ wr.heap[g]? = some (.cells cur' 111 (0, 0)) ∧ RowAt C_Label 2 cur' l' ∧ (∀ (j : Nat) (d : Label), j < k → l'[j]? = some d → d = mkLabel (x + 2 * j)) ∧ Aside S w wr) (fun _ i _ => l.length - (intOf i).toNat)
    case atStart => exact ⟨0, l, cur, Nat.zero_le _, rfl, rfl, by simp, hr, hcur, fun j s h => by omega, Aside.refl _ _⟩
    case round =>
      obtain ⟨k, l', cur', hk, hl', rfl, rfl, hr', hcur', hmk, has⟩ := hrel
      have Hm := Lib.hid hmk
      have Hc := Lib.hid hcur'
      clear hmk hcur hA
      by_cases hlt : k < l.length
      · obtain ⟨d, hd⟩ := exists_at (l := l') (k := k) (by omega)
        have hsz := hcur'.size hd (by decide)
        have hC0 := hcur' k d hd
        unfold C_Label at hC0
        obtain ⟨es, -, hes, hC⟩ := hC0
        obtain ⟨rfl, -⟩ := hC
        obtain ⟨y, hy⟩ : ∃ y : Int, y = x + 2 * k := ⟨_, rfl⟩
        have hy0 : 0 < y := by omega
        have hy1 : y + 2 ≤ 1152921504606846976 := by omega
        have Hy := Lib.hid hy
        rw [← hy]
        have hgw := row_lt hr'
        have hk1 : (k : Int) < l.length := by omega
        have hk0 : (0 : Int) ≤ k := by omega
        have Hes := Lib.hid hes
        have Hd := Lib.hid hd
        clear hy hcur' hes hd
        go_wp2_with fail
        refine (c_laws_markText _ _ (by omega) (by omega)).mono ?_
        rintro e w1 ⟨rfl, hb1⟩
        have r1 := (hb1.block g (by first | exact hgw | (simp; omega))).trans (hr')
        have x0 : w1.cell? ⟨g, k * 2, none⟩ = some (.string d.key) := by rw [cell_of_row w1 g _ _ _ _ r1]; exact Hes.out 0 (by decide)
        have f0 := frozen_row r1 (k * 2)
        have x1 : w1.cell? ⟨g, k * 2 + 1, none⟩ = some (.string d.value) := by rw [cell_of_row w1 g _ _ _ _ r1]; exact Hes.out 1 (by decide)
        have f1 := frozen_row r1 (k * 2 + 1)
        have hgw := row_lt r1
        have hs1 := hb1.size
        go_wp2_with fail
        refine (c_laws_markText _ _ (by omega) (by omega)).mono ?_
        rintro e w2 ⟨rfl, hb2⟩
        have r2 := (hb2.block g (by first | exact hgw | (simp; omega))).trans (heap_setCell_same _ g (k * 2) _ _ _ (r1))
        clear x0 f0 x1 f1
        have x1 : w2.cell? ⟨g, k * 2 + 1, none⟩ = some (.string d.value) := by rw [cell_of_row w2 g _ _ _ _ r2, Array.getElem?_setIfInBounds_ne (by omega)]; exact Hes.out 1 (by decide)
        have f1 := frozen_row r2 (k * 2 + 1)
        have hgw := row_lt r2
        have hs2 := hb2.size
        go_wp2_with fail
        go_roundw
        case rel =>
          have hI : ∀ z : Int, 0 < z → z ≤ 4611686018427387904 → I64 z := fun z h h' => ⟨by omega, by omega⟩
          refine ⟨k + 1, l'.set k (mkLabel y), putAt cur' (k * 2) [.string (mkI (y)), .string (mkI (y + 1))], by omega, by simp [hl'], by go_num, ?_, heap_setCell_same _ g (k * 2 + 1) _ _ _ (r2), Hc.out.set rfl ?_ hsz, fun j s hj h => ?_, ?_⟩
          · exact congrArg (Value.int .i64) (by have := Hy.out; omega)
          · exact ⟨rfl, mkI_size _ (by omega), mkI_size _ (by omega)⟩
          · rw [List.getElem?_set] at h
            by_cases he : k = j
            · subst he
              rw [if_pos rfl, if_pos (by omega)] at h
              obtain rfl := Option.some.inj h
              rw [← Hy.out]
            · rw [if_neg he] at h
              exact Hm.out j s (by omega) h
          · refine has.trans ?_
            exact Aside.setCell (Aside.trans (Aside.setCell (Aside.trans (Aside.refl _ _) (Aside.of_below hb1)) hg) (Aside.of_below hb2)) hg
        case measure => simp [intOf]; omega
      · obtain rfl : k = l.length := by omega
        go_wp2_with fail
        go_ret
        exact ⟨l', rfl, hl', ⟨_, c, by rw [hl'], by omega, hc, fun _ => ⟨g, cur', rfl, hg, hr', Hc.out⟩⟩, fun i s h => Hm.out i s (by have := (List.getElem?_eq_some_iff.1 h).1; omega) h, has⟩
end Go.Proofs.YteecgklmdfockaaGreatDoor
namespace Go.Proofs.YteecgklmdfockaaGreatDoor
open Go.RowKit
abbrev Own_Taint (S : Nat → Prop) (w : World) (l : List Taint) (v : Value) : Prop := OwnR C_Taint 3 64 S w l v
def mkTaint (k : Int) : Taint := ⟨mkI (k), mkI (k + 1), k + 1 + 1⟩
/-- The members of l bear the marks from k on. -/
def MkTaints (k : Int) (l : List Taint) : Prop := ∀ (i : Nat) (d : Taint), l[i]? = some d → d = mkTaint (k + 3 * i)
theorem c_laws_toTaintSO (l : List Taint) (v : Value) (w : World) (lo : Nat) (hs : Sl_Taint lo w.heap.size w l v) (hn : l.length ≤ 1048576) :
    Calls Tryz.prog 29 #[v] w fun e w' => ∃ A c, e = .returned (.slice A l.length c) ∧ Own_Taint (fun b => w.heap.size ≤ b ∧ b < w'.heap.size) w' l (.slice A l.length c) ∧ Below w.heap.size w w' := by
  obtain ⟨A, c, rfl, hlc, hc, hA⟩ := hs
  have hmk := run_make_slice (P := Tryz.prog) (z := .agg #[.string ⟨#[]⟩, .string ⟨#[]⟩, .int .i64 0]) (size := 3) (bytes := 40) Tryz.underlying33 (by kernel_rfl) l.length (by omega) (by omega)
  go_enter Tryz.func29, Tryz.ntmps29
  go_wp2_with fail
  go_loopw [4] (fun i wr => ∃ (k : Nat) (cs : Array Value), k ≤ l.length ∧ i = .int .i64 k ∧ Below w.heap.size w wr ∧ wr.heap[w.heap.size]? = some (.cells cs 64 (0, 0)) ∧ Part (C_Taint) 3 l k cs) (fun i _ => l.length - (intOf i).toNat)
  case atStart => exact ⟨0, _, Nat.zero_le _, rfl, bel, heap_alloc_new _ _, Part.zero (by simp [size_madeCells])⟩
  case round =>
    obtain ⟨k, cs, hk, rfl, hbr, hg, hp⟩ := hrel
    by_cases hlt : k < l.length
    · obtain ⟨b, o, rfl, -, hb2, hcell⟩ := hA (by omega)
      obtain ⟨d, hd⟩ := exists_at hlt
      obtain ⟨es, -, hcs, hC⟩ := hcell k d hd
      have hC' := hC
      obtain ⟨rfl, ea0, ea1, ea2⟩ := hC'
      have hc0 := (hbr.cell (p := ⟨b, o + k * 3 + 0, none⟩) (by simp; omega)).trans (hcs 0 (by omega))
      simp at hc0
      have hc1 := (hbr.cell (p := ⟨b, o + k * 3 + 1, none⟩) (by simp; omega)).trans (hcs 1 (by omega))
      simp at hc1
      have hc2 := (hbr.cell (p := ⟨b, o + k * 3 + 2, none⟩) (by simp; omega)).trans (hcs 2 (by omega))
      simp at hc2
      obtain ⟨x0, hx0⟩ := row_cell hg (o := k * 3 + 0) (by rw [hp.1]; omega)
      have hf0 := frozen_row hg (k * 3 + 0)
      rw [Nat.add_zero] at hx0 hf0
      obtain ⟨x1, hx1⟩ := row_cell hg (o := k * 3 + 1) (by rw [hp.1]; omega)
      have hf1 := frozen_row hg (k * 3 + 1)
      obtain ⟨x2, hx2⟩ := row_cell hg (o := k * 3 + 2) (by rw [hp.1]; omega)
      have hf2 := frozen_row hg (k * 3 + 2)
      have hgl := row_lt hg
      clear hcs hcell hA
      go_wp2_with (go_at_call 76; refine (c_laws_toTaint d _ _ hC).mono ?_; rintro e w1 ⟨rfl, hb⟩; (first | (have hcu2 := Cum.join hcu hb; (try clear hcu); (try clear hc); (try clear hfz); (try clear hsz); (try clear hs0); (try clear hs1); (try clear hs2); (try clear hs3); (try clear hs4); ) | have hcu2 := Cum.mk hb); have hcu := hcu2; clear hcu2; obtain ⟨hc, hfz⟩ := bcell hcu.h; have hsz := hcu.h.size; (try simp at hsz); (try have hs0 := lt_of_succ_le hsz); (try (have hs1 := lt_pred hsz; (try (have hs2 := lt_pred hs1; (try (have hs3 := lt_pred hs2; (try have hs4 := lt_pred hs3))))))))
      go_roundw
      case rel => exact ⟨k + 1, putAt cs (k * 3) [.string d.key, .string d.value, .int .i64 d.effect], by omega, by go_num, bel, heap_putCells [.string d.key, .string d.value, .int .i64 d.effect] _ _ _ _ _ ((hb.block _ hgl).trans hg), hp.store hd rfl hC⟩
      case measure => simp [intOf]; omega
    · obtain rfl : k = l.length := by omega
      clear hA
      go_wp2_with fail
      go_ret
      exact ⟨_, _, rfl, OwnR.of_part hp hg ⟨Nat.le_refl _, row_lt hg⟩ (Nat.le_refl _) (by omega), bel⟩
set_option maxHeartbeats 1000000 in
theorem c_laws_markTaintS (l : List Taint) (v : Value) (x : Int) (w : World) (S : Nat → Prop) (h : Own_Taint S w l v) (hSb : ∀ b, S b → b < w.heap.size) (h1 : 0 < x) (h2 : x + 3 * l.length ≤ 1152921504606846976) :
    Calls Tryz.prog 41 #[v, .int .i64 x] w fun e w' => ∃ l', e = .returned (.int .i64 (x + 3 * l.length)) ∧ l'.length = l.length ∧ Own_Taint S w' l' v ∧ MkTaints x l' ∧ Aside S w w' := by
  obtain ⟨A, c, rfl, hlc, hc, hA⟩ := h
  by_cases hz : l.length = 0
  · obtain rfl : l = [] := List.eq_nil_of_length_eq_zero hz
    clear hA
    go_enter Tryz.func41, Tryz.ntmps41
    go_wp2_with fail
    go_loopw [1, 5] (fun y i wr => y = .int .i64 x ∧ i = .int .i64 0 ∧ wr = w) (fun _ _ _ => 0)
    case atStart => exact ⟨rfl, rfl, rfl⟩
    case round =>
      obtain ⟨rfl, rfl, rfl⟩ := hrel
      go_wp2_with fail
      go_ret
      exact ⟨[], ret_int (by simp), rfl, ⟨A, c, rfl, by simp, hc, fun h => by simp at h⟩, fun i s h => by simp at h, Aside.refl _ _⟩
  · obtain ⟨g, cur, rfl, hg, hr, hcur⟩ := hA (by omega)
    have hgl := hSb g hg
    go_enter Tryz.func41, Tryz.ntmps41
    go_wp2_with fail
    go_loopw [1, 5] (fun y i wr => ∃ (k : Nat) (l' : List Taint) (cur' : Array Value), k ≤ l.length ∧ l'.length = l.length ∧ i = .int .i64 k ∧ y = .int .i64 (x + 3 * k) ∧ wr.heap[g]? = some (.cells cur' 64 (0, 0)) ∧ RowAt C_Taint 3 cur' l' ∧ (∀ (j : Nat) (d : Taint), j < k → l'[j]? = some d → d = mkTaint (x + 3 * j)) ∧ Aside S w wr) (fun _ i _ => l.length - (intOf i).toNat)
    case atStart => exact ⟨0, l, cur, Nat.zero_le _, rfl, rfl, by simp, hr, hcur, fun j s h => by omega, Aside.refl _ _⟩
    case round =>
      obtain ⟨k, l', cur', hk, hl', rfl, rfl, hr', hcur', hmk, has⟩ := hrel
      have Hm := Lib.hid hmk
      have Hc := Lib.hid hcur'
      clear hmk hcur hA
      by_cases hlt : k < l.length
      · obtain ⟨d, hd⟩ := exists_at (l := l') (k := k) (by omega)
        have hsz := hcur'.size hd (by decide)
        have hC0 := hcur' k d hd
        unfold C_Taint at hC0
        obtain ⟨es, -, hes, hC⟩ := hC0
        obtain ⟨rfl, -⟩ := hC
        obtain ⟨y, hy⟩ : ∃ y : Int, y = x + 3 * k := ⟨_, rfl⟩
        have hy0 : 0 < y := by omega
        have hy1 : y + 3 ≤ 1152921504606846976 := by omega
        have Hy := Lib.hid hy
        rw [← hy]
        have hgw := row_lt hr'
        have hk1 : (k : Int) < l.length := by omega
        have hk0 : (0 : Int) ≤ k := by omega
        have Hes := Lib.hid hes
        have Hd := Lib.hid hd
        clear hy hcur' hes hd
        go_wp2_with fail
        refine (c_laws_markText _ _ (by omega) (by omega)).mono ?_
        rintro e w1 ⟨rfl, hb1⟩
        have r1 := (hb1.block g (by first | exact hgw | (simp; omega))).trans (hr')
        have x0 : w1.cell? ⟨g, k * 3, none⟩ = some (.string d.key) := by rw [cell_of_row w1 g _ _ _ _ r1]; exact Hes.out 0 (by decide)
        have f0 := frozen_row r1 (k * 3)
        have x1 : w1.cell? ⟨g, k * 3 + 1, none⟩ = some (.string d.value) := by rw [cell_of_row w1 g _ _ _ _ r1]; exact Hes.out 1 (by decide)
        have f1 := frozen_row r1 (k * 3 + 1)
        have x2 : w1.cell? ⟨g, k * 3 + 2, none⟩ = some (.int .i64 d.effect) := by rw [cell_of_row w1 g _ _ _ _ r1]; exact Hes.out 2 (by decide)
        have f2 := frozen_row r1 (k * 3 + 2)
        have hgw := row_lt r1
        have hs1 := hb1.size
        go_wp2_with fail
        refine (c_laws_markText _ _ (by omega) (by omega)).mono ?_
        rintro e w2 ⟨rfl, hb2⟩
        have r2 := (hb2.block g (by first | exact hgw | (simp; omega))).trans (heap_setCell_same _ g (k * 3) _ _ _ (r1))
        clear x0 f0 x1 f1 x2 f2
        have x1 : w2.cell? ⟨g, k * 3 + 1, none⟩ = some (.string d.value) := by rw [cell_of_row w2 g _ _ _ _ r2, Array.getElem?_setIfInBounds_ne (by omega)]; exact Hes.out 1 (by decide)
        have f1 := frozen_row r2 (k * 3 + 1)
        have x2 : w2.cell? ⟨g, k * 3 + 2, none⟩ = some (.int .i64 d.effect) := by rw [cell_of_row w2 g _ _ _ _ r2, Array.getElem?_setIfInBounds_ne (by omega)]; exact Hes.out 2 (by decide)
        have f2 := frozen_row r2 (k * 3 + 2)
        have hgw := row_lt r2
        have hs2 := hb2.size
        go_wp2_with fail
        go_roundw
        case rel =>
          have hI : ∀ z : Int, 0 < z → z ≤ 4611686018427387904 → I64 z := fun z h h' => ⟨by omega, by omega⟩
          refine ⟨k + 1, l'.set k (mkTaint y), putAt cur' (k * 3) [.string (mkI (y)), .string (mkI (y + 1)), .int .i64 (y + 1 + 1)], by omega, by simp [hl'], by go_num, ?_, heap_setCell_same _ g (k * 3 + 2) _ _ _ (heap_setCell_same _ g (k * 3 + 1) _ _ _ (r2)), Hc.out.set rfl ?_ hsz, fun j s hj h => ?_, ?_⟩
          · exact congrArg (Value.int .i64) (by have := Hy.out; omega)
          · exact ⟨rfl, mkI_size _ (by omega), mkI_size _ (by omega), (show I64 (y + 1 + 1) from hI _ (by omega) (by omega))⟩
          · rw [List.getElem?_set] at h
            by_cases he : k = j
            · subst he
              rw [if_pos rfl, if_pos (by omega)] at h
              obtain rfl := Option.some.inj h
              rw [← Hy.out]
            · rw [if_neg he] at h
              exact Hm.out j s (by omega) h
          · refine has.trans ?_
            exact Aside.setCell (Aside.setCell (Aside.trans (Aside.setCell (Aside.trans (Aside.refl _ _) (Aside.of_below hb1)) hg) (Aside.of_below hb2)) hg) hg
        case measure => simp [intOf]; omega
      · obtain rfl : k = l.length := by omega
        go_wp2_with fail
        go_ret
        exact ⟨l', rfl, hl', ⟨_, c, by rw [hl'], by omega, hc, fun _ => ⟨g, cur', rfl, hg, hr', Hc.out⟩⟩, fun i s h => Hm.out i s (by have := (List.getElem?_eq_some_iff.1 h).1; omega) h, has⟩
end Go.Proofs.YteecgklmdfockaaGreatDoor
namespace Go.Proofs.YteecgklmdfockaaGreatDoor
open Go.RowKit
theorem row6x {w : World} {b : Nat} {a0 a1 a2 a3 a4 a5 : Value} {e : TypeId} (hr : w.heap[b]? = some (.cells #[a0, a1, a2, a3, a4, a5] e (0, 0))) :
    w.cell? ⟨b, 0, none⟩ = some a0 ∧ w.cell? ⟨b, 1, none⟩ = some a1 ∧ w.cell? ⟨b, 2, none⟩ = some a2 ∧ w.cell? ⟨b, 3, none⟩ = some a3 ∧ w.cell? ⟨b, 4, none⟩ = some a4 ∧ w.cell? ⟨b, 5, none⟩ = some a5 ∧ ∀ o, w.frozen? ⟨b, o, none⟩ = false :=
  ⟨by rw [cell_of_row _ _ _ _ _ _ hr]; rfl, by rw [cell_of_row _ _ _ _ _ _ hr]; rfl, by rw [cell_of_row _ _ _ _ _ _ hr]; rfl, by rw [cell_of_row _ _ _ _ _ _ hr]; rfl, by rw [cell_of_row _ _ _ _ _ _ hr]; rfl, by rw [cell_of_row _ _ _ _ _ _ hr]; rfl, fun o => frozen_row hr o⟩
theorem set6_0 {w : World} {b : Nat} {a0 a1 a2 a3 a4 a5 v : Value} {e : TypeId} (h : w.heap[b]? = some (.cells #[a0, a1, a2, a3, a4, a5] e (0, 0))) : (w.setCell ⟨b, 0, none⟩ v).heap[b]? = some (.cells #[v, a1, a2, a3, a4, a5] e (0, 0)) := heap_setCell_same w b 0 _ _ v h
theorem set6_1 {w : World} {b : Nat} {a0 a1 a2 a3 a4 a5 v : Value} {e : TypeId} (h : w.heap[b]? = some (.cells #[a0, a1, a2, a3, a4, a5] e (0, 0))) : (w.setCell ⟨b, 1, none⟩ v).heap[b]? = some (.cells #[a0, v, a2, a3, a4, a5] e (0, 0)) := heap_setCell_same w b 1 _ _ v h
theorem set6_2 {w : World} {b : Nat} {a0 a1 a2 a3 a4 a5 v : Value} {e : TypeId} (h : w.heap[b]? = some (.cells #[a0, a1, a2, a3, a4, a5] e (0, 0))) : (w.setCell ⟨b, 2, none⟩ v).heap[b]? = some (.cells #[a0, a1, v, a3, a4, a5] e (0, 0)) := heap_setCell_same w b 2 _ _ v h
theorem set6_3 {w : World} {b : Nat} {a0 a1 a2 a3 a4 a5 v : Value} {e : TypeId} (h : w.heap[b]? = some (.cells #[a0, a1, a2, a3, a4, a5] e (0, 0))) : (w.setCell ⟨b, 3, none⟩ v).heap[b]? = some (.cells #[a0, a1, a2, v, a4, a5] e (0, 0)) := heap_setCell_same w b 3 _ _ v h
theorem set6_4 {w : World} {b : Nat} {a0 a1 a2 a3 a4 a5 v : Value} {e : TypeId} (h : w.heap[b]? = some (.cells #[a0, a1, a2, a3, a4, a5] e (0, 0))) : (w.setCell ⟨b, 4, none⟩ v).heap[b]? = some (.cells #[a0, a1, a2, a3, v, a5] e (0, 0)) := heap_setCell_same w b 4 _ _ v h
theorem set6_5 {w : World} {b : Nat} {a0 a1 a2 a3 a4 a5 v : Value} {e : TypeId} (h : w.heap[b]? = some (.cells #[a0, a1, a2, a3, a4, a5] e (0, 0))) : (w.setCell ⟨b, 5, none⟩ v).heap[b]? = some (.cells #[a0, a1, a2, a3, a4, v] e (0, 0)) := heap_setCell_same w b 5 _ _ v h
/-- cs are the cells of host d, its rows lie in blocks of S, no two in one block. -/
def OwnHost (S : Nat → Prop) (w : World) (d : Host) (cs : List Value) : Prop := ∃ (v1 v5 : Value) (S1 S5 : Nat → Prop), cs = [.string d.name, v1, .int .i64 d.cpu, .int .i64 d.mem, .int .i64 d.slots, v5] ∧ d.name.size ≤ 9223372036854775807 ∧ Own_Label S1 w d.labels v1 ∧ I64 d.cpu ∧ I64 d.mem ∧ I64 d.slots ∧ Own_Taint S5 w d.taints v5 ∧ (∀ b, S1 b → S b ∧ ¬ S5 b) ∧ (∀ b, S5 b → S b)
theorem OwnHost.carry {S S' : Nat → Prop} {w w' : World} {d : Host} {cs : List Value} (h : OwnHost S w d cs) (hs : ∀ b, S b → w'.heap[b]? = w.heap[b]?) (hS : ∀ b, S b → S' b) : OwnHost S' w' d cs := by
  obtain ⟨v1, v5, S1, S5, rfl, a0, a1, a2, a3, a4, a5, s1, s5⟩ := h
  exact ⟨_, _, S1, S5, rfl, a0, a1.carry (fun b hb => hs b (s1 b hb).1) (fun _ h => h), a2, a3, a4, a5.carry (fun b hb => hs b (s5 b hb)) (fun _ h => h), fun b hb => ⟨hS b (s1 b hb).1, (s1 b hb).2⟩, fun b hb => hS b (s5 b hb)⟩
theorem OwnHost.toC {lo hi : Nat} {S : Nat → Prop} {w : World} {d : Host} {cs : List Value} (h : OwnHost S w d cs) (hS : ∀ b, S b → lo ≤ b ∧ b < hi) : C_Host lo hi w d cs := by
  obtain ⟨v1, v5, S1, S5, rfl, a0, a1, a2, a3, a4, a5, s1, s5⟩ := h
  exact ⟨_, _, rfl, a0, a1.toC (fun b hb => hS b (s1 b hb).1), a2, a3, a4, a5.toC (fun b hb => hS b (s5 b hb))⟩
theorem OwnHost.open {S : Nat → Prop} {w : World} {d : Host} {cs : List Value} (h : OwnHost S w d cs) : ∃ A1 c1 A5 c5, cs = [.string d.name, .slice A1 d.labels.length c1, .int .i64 d.cpu, .int .i64 d.mem, .int .i64 d.slots, .slice A5 d.taints.length c5] := by
  obtain ⟨v1, v5, S1, S5, rfl, a0, a1, a2, a3, a4, a5, s1, s5⟩ := h
  obtain ⟨A1, c1, rfl⟩ := a1.form
  obtain ⟨A5, c5, rfl⟩ := a5.form
  exact ⟨A1, c1, A5, c5, rfl⟩
end Go.Proofs.YteecgklmdfockaaGreatDoor
