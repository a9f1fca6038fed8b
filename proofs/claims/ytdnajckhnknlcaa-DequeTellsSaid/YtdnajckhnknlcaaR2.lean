/-
  The contracts of the functions that these laws reach, part 2.
-/
import Derived.Test.YtdnajckhnknlcaaR1
import Derived.MapKept

/-! The reference's step: the place, the access. -/
namespace Go.Proofs.Ytdnajckhnknlcaa
set_option linter.unusedVariables false
set_option linter.unusedSimpArgs false
open Go.RowKit

theorem rmay_any (a : Int) (w : World) : Calls Try.prog 33 #[.int .i64 a] w fun e w' => e = .returned (.bool (may a)) ∧ w = w' := by
  by_cases h : 1 ≤ a
  · have e : may a = decide (a ≤ 1000) := by simp [may, h]
    rw [e]
    go_enter Try.func33, Try.ntmps33
    go_wp2
    go_ret
    exact ⟨rfl, rfl⟩
  · have e : may a = false := by simp [may, h]
    rw [e]
    go_enter Try.func33, Try.ntmps33
    go_wp2
    go_ret
    exact ⟨rfl, rfl⟩

theorem rmay_t (a : Int) (w : World) (h1 : 1 ≤ a) (h2 : a ≤ 1000) : Calls Try.prog 33 #[.int .i64 a] w fun e w' => e = .returned (.bool true) ∧ w = w' := by
  have e : may a = true := by simp [may, h1, h2]
  rw [← e]; exact rmay_any a w

theorem rmay_f (a : Int) (w : World) (h : may a = false) : Calls Try.prog 33 #[.int .i64 a] w fun e w' => e = .returned (.bool false) ∧ w = w' := by
  rw [← h]; exact rmay_any a w

theorem rplace_any (at_ room n : Int) (w : World) (hr1 : 1 ≤ room) (hr2 : room ≤ 1000) (hat : 0 ≤ at_) :
    Calls Try.prog 60 #[.int .i64 at_, .int .i64 room, .int .i64 n] w fun e w' => e = .returned (.int .i64 (placeF at_ room n)) ∧ w = w' := by
  by_cases hn : n < 0
  · have e : placeF at_ room n = -1 := by simp [placeF, hn]
    rw [e]
    go_enter Try.func60, Try.ntmps60
    go_wp2_with fail
    go_ret
    exact ⟨rfl, rfl⟩
  · have e : placeF at_ room n = wrap64 (wrap64 (at_ + 2) + n % room) := by simp [placeF, hn]
    rw [e]
    go_enter Try.func60, Try.ntmps60
    go_wp2_with fail
    go_ret
    exact ⟨rfl, rfl⟩

set_option maxHeartbeats 1000000 in
set_option maxRecDepth 100000 in
theorem acc_5_0 (at_ room : Int) (hr1 : 1 ≤ room) (hr2 : room ≤ 1000) (hat : 0 ≤ at_) (r0 r1 r2 r3 r4 r5 r6 r7 out : Int) (w : World) :
    Calls Try.prog 34 #[.int .i64 at_, .int .i64 room, .agg #[.int .i64 0, .int .i64 5, .int .i64 r0, .int .i64 r1, .int .i64 r2, .int .i64 r3, .int .i64 r4, .int .i64 r5, .int .i64 r6, .int .i64 r7, .bool false, .int .i64 out]] w fun e w' => e = .returned (.tuple #[.agg #[.int .i64 1, .int .i64 at_, .int .i64 0, .int .i64 0], .bool true]) ∧ Below w.heap.size w w' := by
  go_enter Try.func34, Try.ntmps34
  go_wp2_with fail
  all_goals
    refine bodyPost_ret (v := .tuple #[.agg #[.int .i64 1, .int .i64 at_, .int .i64 0, .int .i64 0], .bool true]) (by simp [results, Try.results34, go_sem]) rfl ⟨rfl, ?_⟩
    repeat (first | exact Below.refl _ _ | (refine ext_set ?_ _ _ (by simp <;> omega)) | apply ext_drewN | apply ext_drew | apply ext_alloc)

set_option maxHeartbeats 1000000 in
set_option maxRecDepth 100000 in
theorem acc_5_1 (at_ room : Int) (hr1 : 1 ≤ room) (hr2 : room ≤ 1000) (hat : 0 ≤ at_) (r0 r1 r2 r3 r4 r5 r6 r7 out : Int) (w : World) :
    Calls Try.prog 34 #[.int .i64 at_, .int .i64 room, .agg #[.int .i64 1, .int .i64 5, .int .i64 r0, .int .i64 r1, .int .i64 r2, .int .i64 r3, .int .i64 r4, .int .i64 r5, .int .i64 r6, .int .i64 r7, .bool false, .int .i64 out]] w fun e w' => e = .returned (.tuple #[.agg #[.int .i64 1, .int .i64 (wrap64 (at_ + 1)), .int .i64 0, .int .i64 0], .bool true]) ∧ Below w.heap.size w w' := by
  go_enter Try.func34, Try.ntmps34
  go_wp2_with fail
  all_goals
    refine bodyPost_ret (v := .tuple #[.agg #[.int .i64 1, .int .i64 (wrap64 (at_ + 1)), .int .i64 0, .int .i64 0], .bool true]) (by simp [results, Try.results34, go_sem]) rfl ⟨rfl, ?_⟩
    repeat (first | exact Below.refl _ _ | (refine ext_set ?_ _ _ (by simp <;> omega)) | apply ext_drewN | apply ext_drew | apply ext_alloc)

set_option maxHeartbeats 1000000 in
set_option maxRecDepth 100000 in
theorem acc_5_2 (at_ room : Int) (hr1 : 1 ≤ room) (hr2 : room ≤ 1000) (hat : 0 ≤ at_) (r0 r1 r2 r3 r4 r5 r6 r7 out : Int) (w : World) :
    Calls Try.prog 34 #[.int .i64 at_, .int .i64 room, .agg #[.int .i64 2, .int .i64 5, .int .i64 r0, .int .i64 r1, .int .i64 r2, .int .i64 r3, .int .i64 r4, .int .i64 r5, .int .i64 r6, .int .i64 r7, .bool false, .int .i64 out]] w fun e w' => e = .returned (.tuple #[.agg #[.int .i64 1, .int .i64 (placeF at_ room r1), .int .i64 0, .int .i64 0], .bool true]) ∧ Below w.heap.size w w' := by
  go_enter Try.func34, Try.ntmps34
  go_wp2_with (go_at_call 60; go_must (refine (rplace_any at_ room r1 _ hr1 hr2 hat).mono ?_; rintro e w2 ⟨rfl, rfl⟩))
  all_goals
    refine bodyPost_ret (v := .tuple #[.agg #[.int .i64 1, .int .i64 (placeF at_ room r1), .int .i64 0, .int .i64 0], .bool true]) (by simp [results, Try.results34, go_sem]) rfl ⟨rfl, ?_⟩
    repeat (first | exact Below.refl _ _ | (refine ext_set ?_ _ _ (by simp <;> omega)) | apply ext_drewN | apply ext_drew | apply ext_alloc)

set_option maxHeartbeats 1000000 in
set_option maxRecDepth 100000 in
theorem acc_5_3 (at_ room : Int) (hr1 : 1 ≤ room) (hr2 : room ≤ 1000) (hat : 0 ≤ at_) (r0 r1 r2 r3 r4 r5 r6 r7 out : Int) (w : World) :
    Calls Try.prog 34 #[.int .i64 at_, .int .i64 room, .agg #[.int .i64 3, .int .i64 5, .int .i64 r0, .int .i64 r1, .int .i64 r2, .int .i64 r3, .int .i64 r4, .int .i64 r5, .int .i64 r6, .int .i64 r7, .bool false, .int .i64 out]] w fun e w' => e = .returned (.tuple #[.agg #[.int .i64 3, .int .i64 at_, .int .i64 r1, .int .i64 (wrap64 (r1 + 1))], .bool true]) ∧ Below w.heap.size w w' := by
  go_enter Try.func34, Try.ntmps34
  go_wp2_with fail
  all_goals
    refine bodyPost_ret (v := .tuple #[.agg #[.int .i64 3, .int .i64 at_, .int .i64 r1, .int .i64 (wrap64 (r1 + 1))], .bool true]) (by simp [results, Try.results34, go_sem]) rfl ⟨rfl, ?_⟩
    repeat (first | exact Below.refl _ _ | (refine ext_set ?_ _ _ (by simp <;> omega)) | apply ext_drewN | apply ext_drew | apply ext_alloc)

set_option maxHeartbeats 1000000 in
set_option maxRecDepth 100000 in
theorem acc_6_0 (at_ room : Int) (hr1 : 1 ≤ room) (hr2 : room ≤ 1000) (hat : 0 ≤ at_) (r0 r1 r2 r3 r4 r5 r6 r7 out : Int) (w : World) :
    Calls Try.prog 34 #[.int .i64 at_, .int .i64 room, .agg #[.int .i64 0, .int .i64 6, .int .i64 r0, .int .i64 r1, .int .i64 r2, .int .i64 r3, .int .i64 r4, .int .i64 r5, .int .i64 r6, .int .i64 r7, .bool false, .int .i64 out]] w fun e w' => e = .returned (.tuple #[.agg #[.int .i64 1, .int .i64 (wrap64 (at_ + 1)), .int .i64 0, .int .i64 0], .bool true]) ∧ Below w.heap.size w w' := by
  go_enter Try.func34, Try.ntmps34
  go_wp2_with fail
  all_goals
    refine bodyPost_ret (v := .tuple #[.agg #[.int .i64 1, .int .i64 (wrap64 (at_ + 1)), .int .i64 0, .int .i64 0], .bool true]) (by simp [results, Try.results34, go_sem]) rfl ⟨rfl, ?_⟩
    repeat (first | exact Below.refl _ _ | (refine ext_set ?_ _ _ (by simp <;> omega)) | apply ext_drewN | apply ext_drew | apply ext_alloc)

set_option maxHeartbeats 1000000 in
set_option maxRecDepth 100000 in
theorem acc_6_1 (at_ room : Int) (hr1 : 1 ≤ room) (hr2 : room ≤ 1000) (hat : 0 ≤ at_) (r0 r1 r2 r3 r4 r5 r6 r7 out : Int) (w : World) :
    Calls Try.prog 34 #[.int .i64 at_, .int .i64 room, .agg #[.int .i64 1, .int .i64 6, .int .i64 r0, .int .i64 r1, .int .i64 r2, .int .i64 r3, .int .i64 r4, .int .i64 r5, .int .i64 r6, .int .i64 r7, .bool false, .int .i64 out]] w fun e w' => e = .returned (.tuple #[.agg #[.int .i64 2, .int .i64 (wrap64 (at_ + 1)), .int .i64 0, .int .i64 r1], .bool true]) ∧ Below w.heap.size w w' := by
  go_enter Try.func34, Try.ntmps34
  go_wp2_with fail
  all_goals
    refine bodyPost_ret (v := .tuple #[.agg #[.int .i64 2, .int .i64 (wrap64 (at_ + 1)), .int .i64 0, .int .i64 r1], .bool true]) (by simp [results, Try.results34, go_sem]) rfl ⟨rfl, ?_⟩
    repeat (first | exact Below.refl _ _ | (refine ext_set ?_ _ _ (by simp <;> omega)) | apply ext_drewN | apply ext_drew | apply ext_alloc)

set_option maxHeartbeats 1000000 in
set_option maxRecDepth 100000 in
theorem acc_6_2 (at_ room : Int) (hr1 : 1 ≤ room) (hr2 : room ≤ 1000) (hat : 0 ≤ at_) (r0 r1 r2 r3 r4 r5 r6 r7 out : Int) (w : World) :
    Calls Try.prog 34 #[.int .i64 at_, .int .i64 room, .agg #[.int .i64 2, .int .i64 6, .int .i64 r0, .int .i64 r1, .int .i64 r2, .int .i64 r3, .int .i64 r4, .int .i64 r5, .int .i64 r6, .int .i64 r7, .bool false, .int .i64 out]] w fun e w' => e = .returned (.tuple #[.agg #[.int .i64 1, .int .i64 at_, .int .i64 0, .int .i64 0], .bool true]) ∧ Below w.heap.size w w' := by
  go_enter Try.func34, Try.ntmps34
  go_wp2_with fail
  all_goals
    refine bodyPost_ret (v := .tuple #[.agg #[.int .i64 1, .int .i64 at_, .int .i64 0, .int .i64 0], .bool true]) (by simp [results, Try.results34, go_sem]) rfl ⟨rfl, ?_⟩
    repeat (first | exact Below.refl _ _ | (refine ext_set ?_ _ _ (by simp <;> omega)) | apply ext_drewN | apply ext_drew | apply ext_alloc)

set_option maxHeartbeats 1000000 in
set_option maxRecDepth 100000 in
theorem acc_6_3 (at_ room : Int) (hr1 : 1 ≤ room) (hr2 : room ≤ 1000) (hat : 0 ≤ at_) (r0 r1 r2 r3 r4 r5 r6 r7 out : Int) (w : World) :
    Calls Try.prog 34 #[.int .i64 at_, .int .i64 room, .agg #[.int .i64 3, .int .i64 6, .int .i64 r0, .int .i64 r1, .int .i64 r2, .int .i64 r3, .int .i64 r4, .int .i64 r5, .int .i64 r6, .int .i64 r7, .bool false, .int .i64 out]] w fun e w' => e = .returned (.tuple #[.agg #[.int .i64 1, .int .i64 (placeF at_ room r1), .int .i64 0, .int .i64 0], .bool true]) ∧ Below w.heap.size w w' := by
  go_enter Try.func34, Try.ntmps34
  go_wp2_with (go_at_call 60; go_must (refine (rplace_any at_ room r1 _ hr1 hr2 hat).mono ?_; rintro e w2 ⟨rfl, rfl⟩))
  all_goals
    refine bodyPost_ret (v := .tuple #[.agg #[.int .i64 1, .int .i64 (placeF at_ room r1), .int .i64 0, .int .i64 0], .bool true]) (by simp [results, Try.results34, go_sem]) rfl ⟨rfl, ?_⟩
    repeat (first | exact Below.refl _ _ | (refine ext_set ?_ _ _ (by simp <;> omega)) | apply ext_drewN | apply ext_drew | apply ext_alloc)

set_option maxHeartbeats 1000000 in
set_option maxRecDepth 100000 in
theorem acc_6_4 (at_ room : Int) (hr1 : 1 ≤ room) (hr2 : room ≤ 1000) (hat : 0 ≤ at_) (r0 r1 r2 r3 r4 r5 r6 r7 out : Int) (w : World) :
    Calls Try.prog 34 #[.int .i64 at_, .int .i64 room, .agg #[.int .i64 4, .int .i64 6, .int .i64 r0, .int .i64 r1, .int .i64 r2, .int .i64 r3, .int .i64 r4, .int .i64 r5, .int .i64 r6, .int .i64 r7, .bool false, .int .i64 out]] w fun e w' => e = .returned (.tuple #[.agg #[.int .i64 3, .int .i64 at_, .int .i64 r2, .int .i64 (wrap64 (r2 + 1))], .bool true]) ∧ Below w.heap.size w w' := by
  go_enter Try.func34, Try.ntmps34
  go_wp2_with fail
  all_goals
    refine bodyPost_ret (v := .tuple #[.agg #[.int .i64 3, .int .i64 at_, .int .i64 r2, .int .i64 (wrap64 (r2 + 1))], .bool true]) (by simp [results, Try.results34, go_sem]) rfl ⟨rfl, ?_⟩
    repeat (first | exact Below.refl _ _ | (refine ext_set ?_ _ _ (by simp <;> omega)) | apply ext_drewN | apply ext_drew | apply ext_alloc)

set_option maxHeartbeats 1000000 in
set_option maxRecDepth 100000 in
theorem acc_6_5 (at_ room : Int) (hr1 : 1 ≤ room) (hr2 : room ≤ 1000) (hat : 0 ≤ at_) (r0 r1 r2 r3 r4 r5 r6 r7 out : Int) (w : World) :
    Calls Try.prog 34 #[.int .i64 at_, .int .i64 room, .agg #[.int .i64 5, .int .i64 6, .int .i64 r0, .int .i64 r1, .int .i64 r2, .int .i64 r3, .int .i64 r4, .int .i64 r5, .int .i64 r6, .int .i64 r7, .bool false, .int .i64 out]] w fun e w' => e = .returned (.tuple #[.agg #[.int .i64 2, .int .i64 (wrap64 (at_ + 1)), .int .i64 0, .int .i64 (wrap64 (r1 + 1))], .bool true]) ∧ Below w.heap.size w w' := by
  go_enter Try.func34, Try.ntmps34
  go_wp2_with fail
  all_goals
    refine bodyPost_ret (v := .tuple #[.agg #[.int .i64 2, .int .i64 (wrap64 (at_ + 1)), .int .i64 0, .int .i64 (wrap64 (r1 + 1))], .bool true]) (by simp [results, Try.results34, go_sem]) rfl ⟨rfl, ?_⟩
    repeat (first | exact Below.refl _ _ | (refine ext_set ?_ _ _ (by simp <;> omega)) | apply ext_drewN | apply ext_drew | apply ext_alloc)

set_option maxHeartbeats 1000000 in
set_option maxRecDepth 100000 in
theorem acc_7_0 (at_ room : Int) (hr1 : 1 ≤ room) (hr2 : room ≤ 1000) (hat : 0 ≤ at_) (r0 r1 r2 r3 r4 r5 r6 r7 out : Int) (w : World) :
    Calls Try.prog 34 #[.int .i64 at_, .int .i64 room, .agg #[.int .i64 0, .int .i64 7, .int .i64 r0, .int .i64 r1, .int .i64 r2, .int .i64 r3, .int .i64 r4, .int .i64 r5, .int .i64 r6, .int .i64 r7, .bool false, .int .i64 out]] w fun e w' => e = .returned (.tuple #[.agg #[.int .i64 1, .int .i64 (wrap64 (at_ + 1)), .int .i64 0, .int .i64 0], .bool true]) ∧ Below w.heap.size w w' := by
  go_enter Try.func34, Try.ntmps34
  go_wp2_with fail
  all_goals
    refine bodyPost_ret (v := .tuple #[.agg #[.int .i64 1, .int .i64 (wrap64 (at_ + 1)), .int .i64 0, .int .i64 0], .bool true]) (by simp [results, Try.results34, go_sem]) rfl ⟨rfl, ?_⟩
    repeat (first | exact Below.refl _ _ | (refine ext_set ?_ _ _ (by simp <;> omega)) | apply ext_drewN | apply ext_drew | apply ext_alloc)

set_option maxHeartbeats 1000000 in
set_option maxRecDepth 100000 in
theorem acc_7_1 (at_ room : Int) (hr1 : 1 ≤ room) (hr2 : room ≤ 1000) (hat : 0 ≤ at_) (r0 r1 r2 r3 r4 r5 r6 r7 out : Int) (w : World) :
    Calls Try.prog 34 #[.int .i64 at_, .int .i64 room, .agg #[.int .i64 1, .int .i64 7, .int .i64 r0, .int .i64 r1, .int .i64 r2, .int .i64 r3, .int .i64 r4, .int .i64 r5, .int .i64 r6, .int .i64 r7, .bool false, .int .i64 out]] w fun e w' => e = .returned (.tuple #[.agg #[.int .i64 1, .int .i64 at_, .int .i64 0, .int .i64 0], .bool true]) ∧ Below w.heap.size w w' := by
  go_enter Try.func34, Try.ntmps34
  go_wp2_with fail
  all_goals
    refine bodyPost_ret (v := .tuple #[.agg #[.int .i64 1, .int .i64 at_, .int .i64 0, .int .i64 0], .bool true]) (by simp [results, Try.results34, go_sem]) rfl ⟨rfl, ?_⟩
    repeat (first | exact Below.refl _ _ | (refine ext_set ?_ _ _ (by simp <;> omega)) | apply ext_drewN | apply ext_drew | apply ext_alloc)

set_option maxHeartbeats 1000000 in
set_option maxRecDepth 100000 in
theorem acc_7_2 (at_ room : Int) (hr1 : 1 ≤ room) (hr2 : room ≤ 1000) (hat : 0 ≤ at_) (r0 r1 r2 r3 r4 r5 r6 r7 out : Int) (w : World) :
    Calls Try.prog 34 #[.int .i64 at_, .int .i64 room, .agg #[.int .i64 2, .int .i64 7, .int .i64 r0, .int .i64 r1, .int .i64 r2, .int .i64 r3, .int .i64 r4, .int .i64 r5, .int .i64 r6, .int .i64 r7, .bool false, .int .i64 out]] w fun e w' => e = .returned (.tuple #[.agg #[.int .i64 2, .int .i64 (placeF at_ room r1), .int .i64 0, .int .i64 r0], .bool true]) ∧ Below w.heap.size w w' := by
  go_enter Try.func34, Try.ntmps34
  go_wp2_with fail
  go_region_with (go_at_call 60; go_must (refine (rplace_any at_ room r1 _ hr1 hr2 hat).mono ?_; rintro e w2 ⟨rfl, rfl⟩))
  all_goals go_wp2_with fail
  all_goals
    refine bodyPost_ret (v := .tuple #[.agg #[.int .i64 2, .int .i64 (placeF at_ room r1), .int .i64 0, .int .i64 r0], .bool true]) (by simp [results, Try.results34, go_sem]) rfl ⟨rfl, ?_⟩
    repeat (first | exact Below.refl _ _ | (refine ext_set ?_ _ _ (by simp <;> omega)) | apply ext_drewN | apply ext_drew | apply ext_alloc)

set_option maxHeartbeats 1000000 in
set_option maxRecDepth 100000 in
theorem acc_7_3 (at_ room : Int) (hr1 : 1 ≤ room) (hr2 : room ≤ 1000) (hat : 0 ≤ at_) (r0 r1 r2 r3 r4 r5 r6 r7 out : Int) (w : World) :
    Calls Try.prog 34 #[.int .i64 at_, .int .i64 room, .agg #[.int .i64 3, .int .i64 7, .int .i64 r0, .int .i64 r1, .int .i64 r2, .int .i64 r3, .int .i64 r4, .int .i64 r5, .int .i64 r6, .int .i64 r7, .bool false, .int .i64 out]] w fun e w' => e = .returned (.tuple #[.agg #[.int .i64 2, .int .i64 (wrap64 (at_ + 1)), .int .i64 0, .int .i64 (wrap64 (r1 + 1))], .bool true]) ∧ Below w.heap.size w w' := by
  go_enter Try.func34, Try.ntmps34
  go_wp2_with fail
  all_goals
    refine bodyPost_ret (v := .tuple #[.agg #[.int .i64 2, .int .i64 (wrap64 (at_ + 1)), .int .i64 0, .int .i64 (wrap64 (r1 + 1))], .bool true]) (by simp [results, Try.results34, go_sem]) rfl ⟨rfl, ?_⟩
    repeat (first | exact Below.refl _ _ | (refine ext_set ?_ _ _ (by simp <;> omega)) | apply ext_drewN | apply ext_drew | apply ext_alloc)

end Go.Proofs.Ytdnajckhnknlcaa

/-! The reference's step: where there is no access. -/
namespace Go.Proofs.Ytdnajckhnknlcaa
set_option linter.unusedVariables false
set_option linter.unusedSimpArgs false
open Go.RowKit

set_option maxHeartbeats 1000000 in
set_option maxRecDepth 100000 in
theorem acc_none_job (at_ room : Int) (pc job r0 r1 r2 r3 r4 r5 r6 r7 out : Int) (w : World) (j7 : (job == 7) = false) (j6 : (job == 6) = false) (j5 : (job == 5) = false) :
    Calls Try.prog 34 #[.int .i64 at_, .int .i64 room, .agg #[.int .i64 pc, .int .i64 job, .int .i64 r0, .int .i64 r1, .int .i64 r2, .int .i64 r3, .int .i64 r4, .int .i64 r5, .int .i64 r6, .int .i64 r7, .bool false, .int .i64 out]] w fun e w' => e = .returned (.tuple #[.agg #[.int .i64 0, .int .i64 0, .int .i64 0, .int .i64 0], .bool false]) ∧ Below w.heap.size w w' := by
  go_enter Try.func34, Try.ntmps34
  go_wp2_with fail
  all_goals
    refine bodyPost_ret (v := .tuple #[.agg #[.int .i64 0, .int .i64 0, .int .i64 0, .int .i64 0], .bool false]) (by simp [results, Try.results34, go_sem]) rfl ⟨rfl, ?_⟩
    repeat (first | exact Below.refl _ _ | (refine ext_set ?_ _ _ (by simp <;> omega)) | apply ext_drewN | apply ext_drew | apply ext_alloc)

set_option maxHeartbeats 1000000 in
set_option maxRecDepth 100000 in
theorem acc_none_7 (at_ room : Int) (pc r0 r1 r2 r3 r4 r5 r6 r7 out : Int) (w : World) (p0 : (pc == 0) = false) (p1 : (pc == 1) = false) (p2 : (pc == 2) = false) (p3 : (pc == 3) = false) :
    Calls Try.prog 34 #[.int .i64 at_, .int .i64 room, .agg #[.int .i64 pc, .int .i64 7, .int .i64 r0, .int .i64 r1, .int .i64 r2, .int .i64 r3, .int .i64 r4, .int .i64 r5, .int .i64 r6, .int .i64 r7, .bool false, .int .i64 out]] w fun e w' => e = .returned (.tuple #[.agg #[.int .i64 0, .int .i64 0, .int .i64 0, .int .i64 0], .bool false]) ∧ Below w.heap.size w w' := by
  go_enter Try.func34, Try.ntmps34
  go_wp2_with fail
  all_goals
    refine bodyPost_ret (v := .tuple #[.agg #[.int .i64 0, .int .i64 0, .int .i64 0, .int .i64 0], .bool false]) (by simp [results, Try.results34, go_sem]) rfl ⟨rfl, ?_⟩
    repeat (first | exact Below.refl _ _ | (refine ext_set ?_ _ _ (by simp <;> omega)) | apply ext_drewN | apply ext_drew | apply ext_alloc)

set_option maxHeartbeats 1000000 in
set_option maxRecDepth 100000 in
theorem acc_none_6 (at_ room : Int) (pc r0 r1 r2 r3 r4 r5 r6 r7 out : Int) (w : World) (p0 : (pc == 0) = false) (p1 : (pc == 1) = false) (p2 : (pc == 2) = false) (p3 : (pc == 3) = false) (p4 : (pc == 4) = false) (p5 : (pc == 5) = false) :
    Calls Try.prog 34 #[.int .i64 at_, .int .i64 room, .agg #[.int .i64 pc, .int .i64 6, .int .i64 r0, .int .i64 r1, .int .i64 r2, .int .i64 r3, .int .i64 r4, .int .i64 r5, .int .i64 r6, .int .i64 r7, .bool false, .int .i64 out]] w fun e w' => e = .returned (.tuple #[.agg #[.int .i64 0, .int .i64 0, .int .i64 0, .int .i64 0], .bool false]) ∧ Below w.heap.size w w' := by
  go_enter Try.func34, Try.ntmps34
  go_wp2_with fail
  all_goals
    refine bodyPost_ret (v := .tuple #[.agg #[.int .i64 0, .int .i64 0, .int .i64 0, .int .i64 0], .bool false]) (by simp [results, Try.results34, go_sem]) rfl ⟨rfl, ?_⟩
    repeat (first | exact Below.refl _ _ | (refine ext_set ?_ _ _ (by simp <;> omega)) | apply ext_drewN | apply ext_drew | apply ext_alloc)

set_option maxHeartbeats 1000000 in
set_option maxRecDepth 100000 in
theorem acc_none_5 (at_ room : Int) (pc r0 r1 r2 r3 r4 r5 r6 r7 out : Int) (w : World) (p0 : (pc == 0) = false) (p1 : (pc == 1) = false) (p2 : (pc == 2) = false) (p3 : (pc == 3) = false) :
    Calls Try.prog 34 #[.int .i64 at_, .int .i64 room, .agg #[.int .i64 pc, .int .i64 5, .int .i64 r0, .int .i64 r1, .int .i64 r2, .int .i64 r3, .int .i64 r4, .int .i64 r5, .int .i64 r6, .int .i64 r7, .bool false, .int .i64 out]] w fun e w' => e = .returned (.tuple #[.agg #[.int .i64 0, .int .i64 0, .int .i64 0, .int .i64 0], .bool false]) ∧ Below w.heap.size w w' := by
  go_enter Try.func34, Try.ntmps34
  go_wp2_with fail
  all_goals
    refine bodyPost_ret (v := .tuple #[.agg #[.int .i64 0, .int .i64 0, .int .i64 0, .int .i64 0], .bool false]) (by simp [results, Try.results34, go_sem]) rfl ⟨rfl, ?_⟩
    repeat (first | exact Below.refl _ _ | (refine ext_set ?_ _ _ (by simp <;> omega)) | apply ext_drewN | apply ext_drew | apply ext_alloc)

end Go.Proofs.Ytdnajckhnknlcaa

/-! The reference's step: the worker behind its access. -/
namespace Go.Proofs.Ytdnajckhnknlcaa
set_option linter.unusedVariables false
set_option linter.unusedSimpArgs false
open Go.RowKit

theorem Blk.newR1 (w : World) (o : Obj) (T : Nat) (cs : Array Value) : Blk ((w.alloc o).alloc (.cells cs T)) (w.heap.size + 1) T cs := by
  have t := Blk.new (w.alloc o) T cs
  simpa using t

set_option maxHeartbeats 1000000 in
theorem rend_any (pc job r0 r1 r2 r3 r4 r5 r6 r7 out : Int) (done : Bool) (out' : Int) (w : World) :
    Calls Try.prog 62 #[.agg #[.int .i64 pc, .int .i64 job, .int .i64 r0, .int .i64 r1, .int .i64 r2, .int .i64 r3, .int .i64 r4, .int .i64 r5, .int .i64 r6, .int .i64 r7, .bool done, .int .i64 out], .int .i64 out'] w fun e w' => e = .returned (.agg #[.int .i64 pc, .int .i64 job, .int .i64 r0, .int .i64 r1, .int .i64 r2, .int .i64 r3, .int .i64 r4, .int .i64 r5, .int .i64 r6, .int .i64 r7, .bool true, .int .i64 out']) ∧ Below w.heap.size w w' := by
  go_enter Try.func62, Try.ntmps62
  go_wp2_with fail
  refine bodyPost_ret (v := .agg #[.int .i64 pc, .int .i64 job, .int .i64 r0, .int .i64 r1, .int .i64 r2, .int .i64 r3, .int .i64 r4, .int .i64 r5, .int .i64 r6, .int .i64 r7, .bool true, .int .i64 out']) (by simp [results, Try.results62, go_sem]) rfl ⟨rfl, ?_⟩
  repeat (first | exact Below.refl _ _ | (refine ext_set ?_ _ _ (by simp <;> omega)) | apply ext_drewN | apply ext_drew | apply ext_alloc)

set_option maxHeartbeats 2000000 in
set_option maxRecDepth 100000 in
theorem beh_7_0 (room : Int) (r0 r1 r2 r3 r4 r5 r6 r7 out : Int) (e1 : Int) (ys : List Int) (x1 : Int) (d1 : Bool) (w : World) :
    Calls Try.prog 36 #[.agg #[.int .i64 0, .int .i64 7, .int .i64 r0, .int .i64 r1, .int .i64 r2, .int .i64 r3, .int .i64 r4, .int .i64 r5, .int .i64 r6, .int .i64 r7, .bool false, .int .i64 out], .int .i64 x1, .int .i64 room] w fun e w' => e = .returned (behF ⟨0, 7, r0, r1, r2, r3, r4, r5, r6, r7, false, out⟩ ⟨e1, ys, x1, d1⟩ room).v ∧ Below w.heap.size w w' := by
  · have hbe : behF ⟨0, 7, r0, r1, r2, r3, r4, r5, r6, r7, false, out⟩ ⟨e1, ys, x1, d1⟩ room = ⟨1, 7, r0, x1, r2, r3, r4, r5, r6, r7, false, out⟩ := by simp [behF]
    rw [hbe]
    clear hbe
    simp only [Wk.v, Wk.cells]
    go_enter Try.func36, Try.ntmps36
    go_wp2_with (go_at_call 62; go_must (refine (rend_any _ _ _ _ _ _ _ _ _ _ _ _ _ _).mono ?_; rintro e w5 ⟨rfl, hb5⟩; have q5 := Blk.ext (Blk.newR1 w _ 25 #[.int .i64 0, .int .i64 0, .int .i64 0, .int .i64 0, .int .i64 0, .int .i64 0, .int .i64 0, .int .i64 0, .int .i64 0, .int .i64 0, .bool false, .int .i64 0]) hb5; have q6 := q5.cell; have q7 := q5.frozen; have q8 := q5.lt))
    all_goals
      refine bodyPost_ret (v := .agg #[.int .i64 1, .int .i64 7, .int .i64 r0, .int .i64 x1, .int .i64 r2, .int .i64 r3, .int .i64 r4, .int .i64 r5, .int .i64 r6, .int .i64 r7, .bool false, .int .i64 out]) (by first | (simp [results, Try.results36, go_sem, q6]; done) | simp [results, Try.results36, go_sem]) rfl ⟨rfl, ?_⟩
      repeat (first | (with_reducible exact Below.refl _ _) | (with_reducible refine ext_trans ?_ (by with_reducible assumption)) | (with_reducible refine ext_set ?_ _ _ (by simp <;> omega)) | (with_reducible apply ext_drewN) | (with_reducible apply ext_drew) | (with_reducible apply ext_alloc))

set_option maxHeartbeats 2000000 in
set_option maxRecDepth 100000 in
theorem beh_7_1 (room : Int) (r0 r1 r2 r3 r4 r5 r6 r7 out : Int) (e1 : Int) (ys : List Int) (x1 : Int) (d1 : Bool) (w : World) :
    Calls Try.prog 36 #[.agg #[.int .i64 1, .int .i64 7, .int .i64 r0, .int .i64 r1, .int .i64 r2, .int .i64 r3, .int .i64 r4, .int .i64 r5, .int .i64 r6, .int .i64 r7, .bool false, .int .i64 out], .int .i64 x1, .int .i64 room] w fun e w' => e = .returned (behF ⟨1, 7, r0, r1, r2, r3, r4, r5, r6, r7, false, out⟩ ⟨e1, ys, x1, d1⟩ room).v ∧ Below w.heap.size w w' := by
  by_cases hcd : room ≤ wrap64 (r1 - x1)
  · have hbe : behF ⟨1, 7, r0, r1, r2, r3, r4, r5, r6, r7, false, out⟩ ⟨e1, ys, x1, d1⟩ room = ⟨1, 7, r0, r1, x1, r3, r4, r5, r6, r7, true, (-1)⟩ := by simp only [behF]; simp [hcd]
    rw [hbe]
    clear hbe
    simp only [Wk.v, Wk.cells]
    go_enter Try.func36, Try.ntmps36
    go_wp2_with (go_at_call 62; go_must (refine (rend_any _ _ _ _ _ _ _ _ _ _ _ _ _ _).mono ?_; rintro e w5 ⟨rfl, hb5⟩; have q5 := Blk.ext (Blk.newR1 w _ 25 #[.int .i64 0, .int .i64 0, .int .i64 0, .int .i64 0, .int .i64 0, .int .i64 0, .int .i64 0, .int .i64 0, .int .i64 0, .int .i64 0, .bool false, .int .i64 0]) hb5; have q6 := q5.cell; have q7 := q5.frozen; have q8 := q5.lt))
    all_goals
      refine bodyPost_ret (v := .agg #[.int .i64 1, .int .i64 7, .int .i64 r0, .int .i64 r1, .int .i64 x1, .int .i64 r3, .int .i64 r4, .int .i64 r5, .int .i64 r6, .int .i64 r7, .bool true, .int .i64 (-1)]) (by first | (simp [results, Try.results36, go_sem, q6]; done) | simp [results, Try.results36, go_sem]) rfl ⟨rfl, ?_⟩
      repeat (first | (with_reducible exact Below.refl _ _) | (with_reducible refine ext_trans ?_ (by with_reducible assumption)) | (with_reducible refine ext_set ?_ _ _ (by simp <;> omega)) | (with_reducible apply ext_drewN) | (with_reducible apply ext_drew) | (with_reducible apply ext_alloc))
  · have hbe : behF ⟨1, 7, r0, r1, r2, r3, r4, r5, r6, r7, false, out⟩ ⟨e1, ys, x1, d1⟩ room = ⟨2, 7, r0, r1, x1, r3, r4, r5, r6, r7, false, out⟩ := by simp only [behF]; simp [hcd]
    rw [hbe]
    clear hbe
    simp only [Wk.v, Wk.cells]
    go_enter Try.func36, Try.ntmps36
    go_wp2_with (go_at_call 62; go_must (refine (rend_any _ _ _ _ _ _ _ _ _ _ _ _ _ _).mono ?_; rintro e w5 ⟨rfl, hb5⟩; have q5 := Blk.ext (Blk.newR1 w _ 25 #[.int .i64 0, .int .i64 0, .int .i64 0, .int .i64 0, .int .i64 0, .int .i64 0, .int .i64 0, .int .i64 0, .int .i64 0, .int .i64 0, .bool false, .int .i64 0]) hb5; have q6 := q5.cell; have q7 := q5.frozen; have q8 := q5.lt))
    all_goals
      refine bodyPost_ret (v := .agg #[.int .i64 2, .int .i64 7, .int .i64 r0, .int .i64 r1, .int .i64 x1, .int .i64 r3, .int .i64 r4, .int .i64 r5, .int .i64 r6, .int .i64 r7, .bool false, .int .i64 out]) (by first | (simp [results, Try.results36, go_sem, q6]; done) | simp [results, Try.results36, go_sem]) rfl ⟨rfl, ?_⟩
      repeat (first | (with_reducible exact Below.refl _ _) | (with_reducible refine ext_trans ?_ (by with_reducible assumption)) | (with_reducible refine ext_set ?_ _ _ (by simp <;> omega)) | (with_reducible apply ext_drewN) | (with_reducible apply ext_drew) | (with_reducible apply ext_alloc))

set_option maxHeartbeats 2000000 in
set_option maxRecDepth 100000 in
theorem beh_7_2 (room : Int) (r0 r1 r2 r3 r4 r5 r6 r7 out : Int) (e1 : Int) (ys : List Int) (x1 : Int) (d1 : Bool) (w : World) :
    Calls Try.prog 36 #[.agg #[.int .i64 2, .int .i64 7, .int .i64 r0, .int .i64 r1, .int .i64 r2, .int .i64 r3, .int .i64 r4, .int .i64 r5, .int .i64 r6, .int .i64 r7, .bool false, .int .i64 out], .int .i64 x1, .int .i64 room] w fun e w' => e = .returned (behF ⟨2, 7, r0, r1, r2, r3, r4, r5, r6, r7, false, out⟩ ⟨e1, ys, x1, d1⟩ room).v ∧ Below w.heap.size w w' := by
  · have hbe : behF ⟨2, 7, r0, r1, r2, r3, r4, r5, r6, r7, false, out⟩ ⟨e1, ys, x1, d1⟩ room = ⟨3, 7, r0, r1, r2, r3, r4, r5, r6, r7, false, out⟩ := by simp [behF]
    rw [hbe]
    clear hbe
    simp only [Wk.v, Wk.cells]
    go_enter Try.func36, Try.ntmps36
    go_wp2_with (go_at_call 62; go_must (refine (rend_any _ _ _ _ _ _ _ _ _ _ _ _ _ _).mono ?_; rintro e w5 ⟨rfl, hb5⟩; have q5 := Blk.ext (Blk.newR1 w _ 25 #[.int .i64 0, .int .i64 0, .int .i64 0, .int .i64 0, .int .i64 0, .int .i64 0, .int .i64 0, .int .i64 0, .int .i64 0, .int .i64 0, .bool false, .int .i64 0]) hb5; have q6 := q5.cell; have q7 := q5.frozen; have q8 := q5.lt))
    all_goals
      refine bodyPost_ret (v := .agg #[.int .i64 3, .int .i64 7, .int .i64 r0, .int .i64 r1, .int .i64 r2, .int .i64 r3, .int .i64 r4, .int .i64 r5, .int .i64 r6, .int .i64 r7, .bool false, .int .i64 out]) (by first | (simp [results, Try.results36, go_sem, q6]; done) | simp [results, Try.results36, go_sem]) rfl ⟨rfl, ?_⟩
      repeat (first | (with_reducible exact Below.refl _ _) | (with_reducible refine ext_trans ?_ (by with_reducible assumption)) | (with_reducible refine ext_set ?_ _ _ (by simp <;> omega)) | (with_reducible apply ext_drewN) | (with_reducible apply ext_drew) | (with_reducible apply ext_alloc))

set_option maxHeartbeats 2000000 in
set_option maxRecDepth 100000 in
theorem beh_7_3 (room : Int) (r0 r1 r2 r3 r4 r5 r6 r7 out : Int) (e1 : Int) (ys : List Int) (x1 : Int) (d1 : Bool) (w : World) :
    Calls Try.prog 36 #[.agg #[.int .i64 3, .int .i64 7, .int .i64 r0, .int .i64 r1, .int .i64 r2, .int .i64 r3, .int .i64 r4, .int .i64 r5, .int .i64 r6, .int .i64 r7, .bool false, .int .i64 out], .int .i64 x1, .int .i64 room] w fun e w' => e = .returned (behF ⟨3, 7, r0, r1, r2, r3, r4, r5, r6, r7, false, out⟩ ⟨e1, ys, x1, d1⟩ room).v ∧ Below w.heap.size w w' := by
  · have hbe : behF ⟨3, 7, r0, r1, r2, r3, r4, r5, r6, r7, false, out⟩ ⟨e1, ys, x1, d1⟩ room = ⟨3, 7, r0, r1, r2, r3, r4, r5, r6, r7, true, r0⟩ := by simp [behF]
    rw [hbe]
    clear hbe
    simp only [Wk.v, Wk.cells]
    go_enter Try.func36, Try.ntmps36
    go_wp2_with (go_at_call 62; go_must (refine (rend_any _ _ _ _ _ _ _ _ _ _ _ _ _ _).mono ?_; rintro e w5 ⟨rfl, hb5⟩; have q5 := Blk.ext (Blk.newR1 w _ 25 #[.int .i64 0, .int .i64 0, .int .i64 0, .int .i64 0, .int .i64 0, .int .i64 0, .int .i64 0, .int .i64 0, .int .i64 0, .int .i64 0, .bool false, .int .i64 0]) hb5; have q6 := q5.cell; have q7 := q5.frozen; have q8 := q5.lt))
    all_goals
      refine bodyPost_ret (v := .agg #[.int .i64 3, .int .i64 7, .int .i64 r0, .int .i64 r1, .int .i64 r2, .int .i64 r3, .int .i64 r4, .int .i64 r5, .int .i64 r6, .int .i64 r7, .bool true, .int .i64 r0]) (by first | (simp [results, Try.results36, go_sem, q6]; done) | simp [results, Try.results36, go_sem]) rfl ⟨rfl, ?_⟩
      repeat (first | (with_reducible exact Below.refl _ _) | (with_reducible refine ext_trans ?_ (by with_reducible assumption)) | (with_reducible refine ext_set ?_ _ _ (by simp <;> omega)) | (with_reducible apply ext_drewN) | (with_reducible apply ext_drew) | (with_reducible apply ext_alloc))

end Go.Proofs.Ytdnajckhnknlcaa

/-! The reference's step: the worker behind its access. -/
namespace Go.Proofs.Ytdnajckhnknlcaa
set_option linter.unusedVariables false
set_option linter.unusedSimpArgs false
open Go.RowKit

set_option maxHeartbeats 2000000 in
set_option maxRecDepth 100000 in
theorem beh_6_0 (room : Int) (r0 r1 r2 r3 r4 r5 r6 r7 out : Int) (e1 : Int) (ys : List Int) (x1 : Int) (d1 : Bool) (w : World) :
    Calls Try.prog 37 #[.agg #[.int .i64 0, .int .i64 6, .int .i64 r0, .int .i64 r1, .int .i64 r2, .int .i64 r3, .int .i64 r4, .int .i64 r5, .int .i64 r6, .int .i64 r7, .bool false, .int .i64 out], .int .i64 x1, .bool d1] w fun e w' => e = .returned (behF ⟨0, 6, r0, r1, r2, r3, r4, r5, r6, r7, false, out⟩ ⟨e1, ys, x1, d1⟩ room).v ∧ Below w.heap.size w w' := by
  · have hbe : behF ⟨0, 6, r0, r1, r2, r3, r4, r5, r6, r7, false, out⟩ ⟨e1, ys, x1, d1⟩ room = ⟨1, 6, r0, (wrap64 (x1 - 1)), r2, r3, r4, r5, r6, r7, false, out⟩ := by simp [behF]
    rw [hbe]
    clear hbe
    simp only [Wk.v, Wk.cells]
    go_enter Try.func37, Try.ntmps37
    go_wp2_with (go_at_call 62; go_must (refine (rend_any _ _ _ _ _ _ _ _ _ _ _ _ _ _).mono ?_; rintro e w5 ⟨rfl, hb5⟩; have q5 := Blk.ext (Blk.newR1 w _ 25 #[.int .i64 0, .int .i64 0, .int .i64 0, .int .i64 0, .int .i64 0, .int .i64 0, .int .i64 0, .int .i64 0, .int .i64 0, .int .i64 0, .bool false, .int .i64 0]) hb5; have q6 := q5.cell; have q7 := q5.frozen; have q8 := q5.lt))
    all_goals
      refine bodyPost_ret (v := .agg #[.int .i64 1, .int .i64 6, .int .i64 r0, .int .i64 (wrap64 (x1 - 1)), .int .i64 r2, .int .i64 r3, .int .i64 r4, .int .i64 r5, .int .i64 r6, .int .i64 r7, .bool false, .int .i64 out]) (by first | (simp [results, Try.results37, go_sem, q6]; done) | simp [results, Try.results37, go_sem]) rfl ⟨rfl, ?_⟩
      repeat (first | (with_reducible exact Below.refl _ _) | (with_reducible refine ext_trans ?_ (by with_reducible assumption)) | (with_reducible refine ext_set ?_ _ _ (by simp <;> omega)) | (with_reducible apply ext_drewN) | (with_reducible apply ext_drew) | (with_reducible apply ext_alloc))

set_option maxHeartbeats 2000000 in
set_option maxRecDepth 100000 in
theorem beh_6_1 (room : Int) (r0 r1 r2 r3 r4 r5 r6 r7 out : Int) (e1 : Int) (ys : List Int) (x1 : Int) (d1 : Bool) (w : World) :
    Calls Try.prog 37 #[.agg #[.int .i64 1, .int .i64 6, .int .i64 r0, .int .i64 r1, .int .i64 r2, .int .i64 r3, .int .i64 r4, .int .i64 r5, .int .i64 r6, .int .i64 r7, .bool false, .int .i64 out], .int .i64 x1, .bool d1] w fun e w' => e = .returned (behF ⟨1, 6, r0, r1, r2, r3, r4, r5, r6, r7, false, out⟩ ⟨e1, ys, x1, d1⟩ room).v ∧ Below w.heap.size w w' := by
  · have hbe : behF ⟨1, 6, r0, r1, r2, r3, r4, r5, r6, r7, false, out⟩ ⟨e1, ys, x1, d1⟩ room = ⟨2, 6, r0, r1, r2, r3, r4, r5, r6, r7, false, out⟩ := by simp [behF]
    rw [hbe]
    clear hbe
    simp only [Wk.v, Wk.cells]
    go_enter Try.func37, Try.ntmps37
    go_wp2_with (go_at_call 62; go_must (refine (rend_any _ _ _ _ _ _ _ _ _ _ _ _ _ _).mono ?_; rintro e w5 ⟨rfl, hb5⟩; have q5 := Blk.ext (Blk.newR1 w _ 25 #[.int .i64 0, .int .i64 0, .int .i64 0, .int .i64 0, .int .i64 0, .int .i64 0, .int .i64 0, .int .i64 0, .int .i64 0, .int .i64 0, .bool false, .int .i64 0]) hb5; have q6 := q5.cell; have q7 := q5.frozen; have q8 := q5.lt))
    all_goals
      refine bodyPost_ret (v := .agg #[.int .i64 2, .int .i64 6, .int .i64 r0, .int .i64 r1, .int .i64 r2, .int .i64 r3, .int .i64 r4, .int .i64 r5, .int .i64 r6, .int .i64 r7, .bool false, .int .i64 out]) (by first | (simp [results, Try.results37, go_sem, q6]; done) | simp [results, Try.results37, go_sem]) rfl ⟨rfl, ?_⟩
      repeat (first | (with_reducible exact Below.refl _ _) | (with_reducible refine ext_trans ?_ (by with_reducible assumption)) | (with_reducible refine ext_set ?_ _ _ (by simp <;> omega)) | (with_reducible apply ext_drewN) | (with_reducible apply ext_drew) | (with_reducible apply ext_alloc))

set_option maxHeartbeats 2000000 in
set_option maxRecDepth 100000 in
theorem beh_6_2 (room : Int) (r0 r1 r2 r3 r4 r5 r6 r7 out : Int) (e1 : Int) (ys : List Int) (x1 : Int) (d1 : Bool) (w : World) :
    Calls Try.prog 37 #[.agg #[.int .i64 2, .int .i64 6, .int .i64 r0, .int .i64 r1, .int .i64 r2, .int .i64 r3, .int .i64 r4, .int .i64 r5, .int .i64 r6, .int .i64 r7, .bool false, .int .i64 out], .int .i64 x1, .bool d1] w fun e w' => e = .returned (behF ⟨2, 6, r0, r1, r2, r3, r4, r5, r6, r7, false, out⟩ ⟨e1, ys, x1, d1⟩ room).v ∧ Below w.heap.size w w' := by
  by_cases hcd : r1 < x1
  · have hbe : behF ⟨2, 6, r0, r1, r2, r3, r4, r5, r6, r7, false, out⟩ ⟨e1, ys, x1, d1⟩ room = ⟨5, 6, r0, r1, x1, r3, r4, r5, r6, r7, false, (-1)⟩ := by simp only [behF]; simp [hcd]
    rw [hbe]
    clear hbe
    simp only [Wk.v, Wk.cells]
    go_enter Try.func37, Try.ntmps37
    go_wp2_with (go_at_call 62; go_must (refine (rend_any _ _ _ _ _ _ _ _ _ _ _ _ _ _).mono ?_; rintro e w5 ⟨rfl, hb5⟩; have q5 := Blk.ext (Blk.newR1 w _ 25 #[.int .i64 0, .int .i64 0, .int .i64 0, .int .i64 0, .int .i64 0, .int .i64 0, .int .i64 0, .int .i64 0, .int .i64 0, .int .i64 0, .bool false, .int .i64 0]) hb5; have q6 := q5.cell; have q7 := q5.frozen; have q8 := q5.lt))
    all_goals
      refine bodyPost_ret (v := .agg #[.int .i64 5, .int .i64 6, .int .i64 r0, .int .i64 r1, .int .i64 x1, .int .i64 r3, .int .i64 r4, .int .i64 r5, .int .i64 r6, .int .i64 r7, .bool false, .int .i64 (-1)]) (by first | (simp [results, Try.results37, go_sem, q6]; done) | simp [results, Try.results37, go_sem]) rfl ⟨rfl, ?_⟩
      repeat (first | (with_reducible exact Below.refl _ _) | (with_reducible refine ext_trans ?_ (by with_reducible assumption)) | (with_reducible refine ext_set ?_ _ _ (by simp <;> omega)) | (with_reducible apply ext_drewN) | (with_reducible apply ext_drew) | (with_reducible apply ext_alloc))
  · have hbe : behF ⟨2, 6, r0, r1, r2, r3, r4, r5, r6, r7, false, out⟩ ⟨e1, ys, x1, d1⟩ room = ⟨3, 6, r0, r1, x1, r3, r4, r5, r6, r7, false, out⟩ := by simp only [behF]; simp [hcd]
    rw [hbe]
    clear hbe
    simp only [Wk.v, Wk.cells]
    go_enter Try.func37, Try.ntmps37
    go_wp2_with (go_at_call 62; go_must (refine (rend_any _ _ _ _ _ _ _ _ _ _ _ _ _ _).mono ?_; rintro e w5 ⟨rfl, hb5⟩; have q5 := Blk.ext (Blk.newR1 w _ 25 #[.int .i64 0, .int .i64 0, .int .i64 0, .int .i64 0, .int .i64 0, .int .i64 0, .int .i64 0, .int .i64 0, .int .i64 0, .int .i64 0, .bool false, .int .i64 0]) hb5; have q6 := q5.cell; have q7 := q5.frozen; have q8 := q5.lt))
    all_goals
      refine bodyPost_ret (v := .agg #[.int .i64 3, .int .i64 6, .int .i64 r0, .int .i64 r1, .int .i64 x1, .int .i64 r3, .int .i64 r4, .int .i64 r5, .int .i64 r6, .int .i64 r7, .bool false, .int .i64 out]) (by first | (simp [results, Try.results37, go_sem, q6]; done) | simp [results, Try.results37, go_sem]) rfl ⟨rfl, ?_⟩
      repeat (first | (with_reducible exact Below.refl _ _) | (with_reducible refine ext_trans ?_ (by with_reducible assumption)) | (with_reducible refine ext_set ?_ _ _ (by simp <;> omega)) | (with_reducible apply ext_drewN) | (with_reducible apply ext_drew) | (with_reducible apply ext_alloc))

set_option maxHeartbeats 2000000 in
set_option maxRecDepth 100000 in
theorem beh_6_3 (room : Int) (r0 r1 r2 r3 r4 r5 r6 r7 out : Int) (e1 : Int) (ys : List Int) (x1 : Int) (d1 : Bool) (w : World) :
    Calls Try.prog 37 #[.agg #[.int .i64 3, .int .i64 6, .int .i64 r0, .int .i64 r1, .int .i64 r2, .int .i64 r3, .int .i64 r4, .int .i64 r5, .int .i64 r6, .int .i64 r7, .bool false, .int .i64 out], .int .i64 x1, .bool d1] w fun e w' => e = .returned (behF ⟨3, 6, r0, r1, r2, r3, r4, r5, r6, r7, false, out⟩ ⟨e1, ys, x1, d1⟩ room).v ∧ Below w.heap.size w w' := by
  by_cases hcd : r2 < r1
  · have hbe : behF ⟨3, 6, r0, r1, r2, r3, r4, r5, r6, r7, false, out⟩ ⟨e1, ys, x1, d1⟩ room = ⟨3, 6, r0, r1, r2, x1, r4, r5, r6, r7, true, x1⟩ := by simp only [behF]; simp [hcd]
    rw [hbe]
    clear hbe
    simp only [Wk.v, Wk.cells]
    go_enter Try.func37, Try.ntmps37
    go_wp2_with (go_at_call 62; go_must (refine (rend_any _ _ _ _ _ _ _ _ _ _ _ _ _ _).mono ?_; rintro e w5 ⟨rfl, hb5⟩; have q5 := Blk.ext (Blk.newR1 w _ 25 #[.int .i64 0, .int .i64 0, .int .i64 0, .int .i64 0, .int .i64 0, .int .i64 0, .int .i64 0, .int .i64 0, .int .i64 0, .int .i64 0, .bool false, .int .i64 0]) hb5; have q6 := q5.cell; have q7 := q5.frozen; have q8 := q5.lt))
    all_goals
      refine bodyPost_ret (v := .agg #[.int .i64 3, .int .i64 6, .int .i64 r0, .int .i64 r1, .int .i64 r2, .int .i64 x1, .int .i64 r4, .int .i64 r5, .int .i64 r6, .int .i64 r7, .bool true, .int .i64 x1]) (by first | (simp [results, Try.results37, go_sem, q6]; done) | simp [results, Try.results37, go_sem]) rfl ⟨rfl, ?_⟩
      repeat (first | (with_reducible exact Below.refl _ _) | (with_reducible refine ext_trans ?_ (by with_reducible assumption)) | (with_reducible refine ext_set ?_ _ _ (by simp <;> omega)) | (with_reducible apply ext_drewN) | (with_reducible apply ext_drew) | (with_reducible apply ext_alloc))
  · have hbe : behF ⟨3, 6, r0, r1, r2, r3, r4, r5, r6, r7, false, out⟩ ⟨e1, ys, x1, d1⟩ room = ⟨4, 6, r0, r1, r2, x1, r4, r5, r6, r7, false, out⟩ := by simp only [behF]; simp [hcd]
    rw [hbe]
    clear hbe
    simp only [Wk.v, Wk.cells]
    go_enter Try.func37, Try.ntmps37
    go_wp2_with (go_at_call 62; go_must (refine (rend_any _ _ _ _ _ _ _ _ _ _ _ _ _ _).mono ?_; rintro e w5 ⟨rfl, hb5⟩; have q5 := Blk.ext (Blk.newR1 w _ 25 #[.int .i64 0, .int .i64 0, .int .i64 0, .int .i64 0, .int .i64 0, .int .i64 0, .int .i64 0, .int .i64 0, .int .i64 0, .int .i64 0, .bool false, .int .i64 0]) hb5; have q6 := q5.cell; have q7 := q5.frozen; have q8 := q5.lt))
    all_goals
      refine bodyPost_ret (v := .agg #[.int .i64 4, .int .i64 6, .int .i64 r0, .int .i64 r1, .int .i64 r2, .int .i64 x1, .int .i64 r4, .int .i64 r5, .int .i64 r6, .int .i64 r7, .bool false, .int .i64 out]) (by first | (simp [results, Try.results37, go_sem, q6]; done) | simp [results, Try.results37, go_sem]) rfl ⟨rfl, ?_⟩
      repeat (first | (with_reducible exact Below.refl _ _) | (with_reducible refine ext_trans ?_ (by with_reducible assumption)) | (with_reducible refine ext_set ?_ _ _ (by simp <;> omega)) | (with_reducible apply ext_drewN) | (with_reducible apply ext_drew) | (with_reducible apply ext_alloc))

set_option maxHeartbeats 2000000 in
set_option maxRecDepth 100000 in
theorem beh_6_4 (room : Int) (r0 r1 r2 r3 r4 r5 r6 r7 out : Int) (e1 : Int) (ys : List Int) (x1 : Int) (d1 : Bool) (w : World) :
    Calls Try.prog 37 #[.agg #[.int .i64 4, .int .i64 6, .int .i64 r0, .int .i64 r1, .int .i64 r2, .int .i64 r3, .int .i64 r4, .int .i64 r5, .int .i64 r6, .int .i64 r7, .bool false, .int .i64 out], .int .i64 x1, .bool d1] w fun e w' => e = .returned (behF ⟨4, 6, r0, r1, r2, r3, r4, r5, r6, r7, false, out⟩ ⟨e1, ys, x1, d1⟩ room).v ∧ Below w.heap.size w w' := by
  cases d1
  · have hbe : behF ⟨4, 6, r0, r1, r2, r3, r4, r5, r6, r7, false, out⟩ ⟨e1, ys, x1, false⟩ room = ⟨5, 6, r0, r1, r2, r3, r4, r5, r6, r7, false, (-1)⟩ := by simp [behF]
    rw [hbe]
    clear hbe
    simp only [Wk.v, Wk.cells]
    go_enter Try.func37, Try.ntmps37
    go_wp2_with (go_at_call 62; go_must (refine (rend_any _ _ _ _ _ _ _ _ _ _ _ _ _ _).mono ?_; rintro e w5 ⟨rfl, hb5⟩; have q5 := Blk.ext (Blk.newR1 w _ 25 #[.int .i64 0, .int .i64 0, .int .i64 0, .int .i64 0, .int .i64 0, .int .i64 0, .int .i64 0, .int .i64 0, .int .i64 0, .int .i64 0, .bool false, .int .i64 0]) hb5; have q6 := q5.cell; have q7 := q5.frozen; have q8 := q5.lt))
    all_goals
      refine bodyPost_ret (v := .agg #[.int .i64 5, .int .i64 6, .int .i64 r0, .int .i64 r1, .int .i64 r2, .int .i64 r3, .int .i64 r4, .int .i64 r5, .int .i64 r6, .int .i64 r7, .bool false, .int .i64 (-1)]) (by first | (simp [results, Try.results37, go_sem, q6]; done) | simp [results, Try.results37, go_sem]) rfl ⟨rfl, ?_⟩
      repeat (first | (with_reducible exact Below.refl _ _) | (with_reducible refine ext_trans ?_ (by with_reducible assumption)) | (with_reducible refine ext_set ?_ _ _ (by simp <;> omega)) | (with_reducible apply ext_drewN) | (with_reducible apply ext_drew) | (with_reducible apply ext_alloc))
  · have hbe : behF ⟨4, 6, r0, r1, r2, r3, r4, r5, r6, r7, false, out⟩ ⟨e1, ys, x1, true⟩ room = ⟨5, 6, r0, r1, r2, r3, r4, r5, r6, r7, false, r3⟩ := by simp [behF]
    rw [hbe]
    clear hbe
    simp only [Wk.v, Wk.cells]
    go_enter Try.func37, Try.ntmps37
    go_wp2_with (go_at_call 62; go_must (refine (rend_any _ _ _ _ _ _ _ _ _ _ _ _ _ _).mono ?_; rintro e w5 ⟨rfl, hb5⟩; have q5 := Blk.ext (Blk.newR1 w _ 25 #[.int .i64 0, .int .i64 0, .int .i64 0, .int .i64 0, .int .i64 0, .int .i64 0, .int .i64 0, .int .i64 0, .int .i64 0, .int .i64 0, .bool false, .int .i64 0]) hb5; have q6 := q5.cell; have q7 := q5.frozen; have q8 := q5.lt))
    all_goals
      refine bodyPost_ret (v := .agg #[.int .i64 5, .int .i64 6, .int .i64 r0, .int .i64 r1, .int .i64 r2, .int .i64 r3, .int .i64 r4, .int .i64 r5, .int .i64 r6, .int .i64 r7, .bool false, .int .i64 r3]) (by first | (simp [results, Try.results37, go_sem, q6]; done) | simp [results, Try.results37, go_sem]) rfl ⟨rfl, ?_⟩
      repeat (first | (with_reducible exact Below.refl _ _) | (with_reducible refine ext_trans ?_ (by with_reducible assumption)) | (with_reducible refine ext_set ?_ _ _ (by simp <;> omega)) | (with_reducible apply ext_drewN) | (with_reducible apply ext_drew) | (with_reducible apply ext_alloc))

set_option maxHeartbeats 2000000 in
set_option maxRecDepth 100000 in
theorem beh_6_5 (room : Int) (r0 r1 r2 r3 r4 r5 r6 r7 out : Int) (e1 : Int) (ys : List Int) (x1 : Int) (d1 : Bool) (w : World) :
    Calls Try.prog 37 #[.agg #[.int .i64 5, .int .i64 6, .int .i64 r0, .int .i64 r1, .int .i64 r2, .int .i64 r3, .int .i64 r4, .int .i64 r5, .int .i64 r6, .int .i64 r7, .bool false, .int .i64 out], .int .i64 x1, .bool d1] w fun e w' => e = .returned (behF ⟨5, 6, r0, r1, r2, r3, r4, r5, r6, r7, false, out⟩ ⟨e1, ys, x1, d1⟩ room).v ∧ Below w.heap.size w w' := by
  · have hbe : behF ⟨5, 6, r0, r1, r2, r3, r4, r5, r6, r7, false, out⟩ ⟨e1, ys, x1, d1⟩ room = ⟨5, 6, r0, r1, r2, r3, r4, r5, r6, r7, true, out⟩ := by simp [behF]
    rw [hbe]
    clear hbe
    simp only [Wk.v, Wk.cells]
    go_enter Try.func37, Try.ntmps37
    go_wp2_with (go_at_call 62; go_must (refine (rend_any _ _ _ _ _ _ _ _ _ _ _ _ _ _).mono ?_; rintro e w5 ⟨rfl, hb5⟩; have q5 := Blk.ext (Blk.newR1 w _ 25 #[.int .i64 0, .int .i64 0, .int .i64 0, .int .i64 0, .int .i64 0, .int .i64 0, .int .i64 0, .int .i64 0, .int .i64 0, .int .i64 0, .bool false, .int .i64 0]) hb5; have q6 := q5.cell; have q7 := q5.frozen; have q8 := q5.lt))
    all_goals
      refine bodyPost_ret (v := .agg #[.int .i64 5, .int .i64 6, .int .i64 r0, .int .i64 r1, .int .i64 r2, .int .i64 r3, .int .i64 r4, .int .i64 r5, .int .i64 r6, .int .i64 r7, .bool true, .int .i64 out]) (by first | (simp [results, Try.results37, go_sem, q6]; done) | simp [results, Try.results37, go_sem]) rfl ⟨rfl, ?_⟩
      repeat (first | (with_reducible exact Below.refl _ _) | (with_reducible refine ext_trans ?_ (by with_reducible assumption)) | (with_reducible refine ext_set ?_ _ _ (by simp <;> omega)) | (with_reducible apply ext_drewN) | (with_reducible apply ext_drew) | (with_reducible apply ext_alloc))

end Go.Proofs.Ytdnajckhnknlcaa

/-! The reference's step: the worker behind its access. -/
namespace Go.Proofs.Ytdnajckhnknlcaa
set_option linter.unusedVariables false
set_option linter.unusedSimpArgs false
open Go.RowKit

set_option maxHeartbeats 2000000 in
set_option maxRecDepth 100000 in
theorem beh_5_0 (room : Int) (r0 r1 r2 r3 r4 r5 r6 r7 out : Int) (e1 : Int) (ys : List Int) (x1 : Int) (d1 : Bool) (w : World) :
    Calls Try.prog 38 #[.agg #[.int .i64 0, .int .i64 5, .int .i64 r0, .int .i64 r1, .int .i64 r2, .int .i64 r3, .int .i64 r4, .int .i64 r5, .int .i64 r6, .int .i64 r7, .bool false, .int .i64 out], .int .i64 x1, .bool d1] w fun e w' => e = .returned (behF ⟨0, 5, r0, r1, r2, r3, r4, r5, r6, r7, false, out⟩ ⟨e1, ys, x1, d1⟩ room).v ∧ Below w.heap.size w w' := by
  · have hbe : behF ⟨0, 5, r0, r1, r2, r3, r4, r5, r6, r7, false, out⟩ ⟨e1, ys, x1, d1⟩ room = ⟨1, 5, r0, x1, r2, r3, r4, r5, r6, r7, false, out⟩ := by simp [behF]
    rw [hbe]
    clear hbe
    simp only [Wk.v, Wk.cells]
    go_enter Try.func38, Try.ntmps38
    go_wp2_with (go_at_call 62; go_must (refine (rend_any _ _ _ _ _ _ _ _ _ _ _ _ _ _).mono ?_; rintro e w5 ⟨rfl, hb5⟩; have q5 := Blk.ext (Blk.newR1 w _ 25 #[.int .i64 0, .int .i64 0, .int .i64 0, .int .i64 0, .int .i64 0, .int .i64 0, .int .i64 0, .int .i64 0, .int .i64 0, .int .i64 0, .bool false, .int .i64 0]) hb5; have q6 := q5.cell; have q7 := q5.frozen; have q8 := q5.lt))
    all_goals
      refine bodyPost_ret (v := .agg #[.int .i64 1, .int .i64 5, .int .i64 r0, .int .i64 x1, .int .i64 r2, .int .i64 r3, .int .i64 r4, .int .i64 r5, .int .i64 r6, .int .i64 r7, .bool false, .int .i64 out]) (by first | (simp [results, Try.results38, go_sem, q6]; done) | simp [results, Try.results38, go_sem]) rfl ⟨rfl, ?_⟩
      repeat (first | (with_reducible exact Below.refl _ _) | (with_reducible refine ext_trans ?_ (by with_reducible assumption)) | (with_reducible refine ext_set ?_ _ _ (by simp <;> omega)) | (with_reducible apply ext_drewN) | (with_reducible apply ext_drew) | (with_reducible apply ext_alloc))

set_option maxHeartbeats 2000000 in
set_option maxRecDepth 100000 in
theorem beh_5_1 (room : Int) (r0 r1 r2 r3 r4 r5 r6 r7 out : Int) (e1 : Int) (ys : List Int) (x1 : Int) (d1 : Bool) (w : World) :
    Calls Try.prog 38 #[.agg #[.int .i64 1, .int .i64 5, .int .i64 r0, .int .i64 r1, .int .i64 r2, .int .i64 r3, .int .i64 r4, .int .i64 r5, .int .i64 r6, .int .i64 r7, .bool false, .int .i64 out], .int .i64 x1, .bool d1] w fun e w' => e = .returned (behF ⟨1, 5, r0, r1, r2, r3, r4, r5, r6, r7, false, out⟩ ⟨e1, ys, x1, d1⟩ room).v ∧ Below w.heap.size w w' := by
  by_cases hcd : x1 ≤ r1
  · have hbe : behF ⟨1, 5, r0, r1, r2, r3, r4, r5, r6, r7, false, out⟩ ⟨e1, ys, x1, d1⟩ room = ⟨1, 5, r0, r1, x1, r3, r4, r5, r6, r7, true, (-1)⟩ := by simp only [behF]; simp [hcd]
    rw [hbe]
    clear hbe
    simp only [Wk.v, Wk.cells]
    go_enter Try.func38, Try.ntmps38
    go_wp2_with (go_at_call 62; go_must (refine (rend_any _ _ _ _ _ _ _ _ _ _ _ _ _ _).mono ?_; rintro e w5 ⟨rfl, hb5⟩; have q5 := Blk.ext (Blk.newR1 w _ 25 #[.int .i64 0, .int .i64 0, .int .i64 0, .int .i64 0, .int .i64 0, .int .i64 0, .int .i64 0, .int .i64 0, .int .i64 0, .int .i64 0, .bool false, .int .i64 0]) hb5; have q6 := q5.cell; have q7 := q5.frozen; have q8 := q5.lt))
    all_goals
      refine bodyPost_ret (v := .agg #[.int .i64 1, .int .i64 5, .int .i64 r0, .int .i64 r1, .int .i64 x1, .int .i64 r3, .int .i64 r4, .int .i64 r5, .int .i64 r6, .int .i64 r7, .bool true, .int .i64 (-1)]) (by first | (simp [results, Try.results38, go_sem, q6]; done) | simp [results, Try.results38, go_sem]) rfl ⟨rfl, ?_⟩
      repeat (first | (with_reducible exact Below.refl _ _) | (with_reducible refine ext_trans ?_ (by with_reducible assumption)) | (with_reducible refine ext_set ?_ _ _ (by simp <;> omega)) | (with_reducible apply ext_drewN) | (with_reducible apply ext_drew) | (with_reducible apply ext_alloc))
  · have hbe : behF ⟨1, 5, r0, r1, r2, r3, r4, r5, r6, r7, false, out⟩ ⟨e1, ys, x1, d1⟩ room = ⟨2, 5, r0, r1, x1, r3, r4, r5, r6, r7, false, out⟩ := by simp only [behF]; simp [hcd]
    rw [hbe]
    clear hbe
    simp only [Wk.v, Wk.cells]
    go_enter Try.func38, Try.ntmps38
    go_wp2_with (go_at_call 62; go_must (refine (rend_any _ _ _ _ _ _ _ _ _ _ _ _ _ _).mono ?_; rintro e w5 ⟨rfl, hb5⟩; have q5 := Blk.ext (Blk.newR1 w _ 25 #[.int .i64 0, .int .i64 0, .int .i64 0, .int .i64 0, .int .i64 0, .int .i64 0, .int .i64 0, .int .i64 0, .int .i64 0, .int .i64 0, .bool false, .int .i64 0]) hb5; have q6 := q5.cell; have q7 := q5.frozen; have q8 := q5.lt))
    all_goals
      refine bodyPost_ret (v := .agg #[.int .i64 2, .int .i64 5, .int .i64 r0, .int .i64 r1, .int .i64 x1, .int .i64 r3, .int .i64 r4, .int .i64 r5, .int .i64 r6, .int .i64 r7, .bool false, .int .i64 out]) (by first | (simp [results, Try.results38, go_sem, q6]; done) | simp [results, Try.results38, go_sem]) rfl ⟨rfl, ?_⟩
      repeat (first | (with_reducible exact Below.refl _ _) | (with_reducible refine ext_trans ?_ (by with_reducible assumption)) | (with_reducible refine ext_set ?_ _ _ (by simp <;> omega)) | (with_reducible apply ext_drewN) | (with_reducible apply ext_drew) | (with_reducible apply ext_alloc))

set_option maxHeartbeats 2000000 in
set_option maxRecDepth 100000 in
theorem beh_5_2 (room : Int) (r0 r1 r2 r3 r4 r5 r6 r7 out : Int) (e1 : Int) (ys : List Int) (x1 : Int) (d1 : Bool) (w : World) :
    Calls Try.prog 38 #[.agg #[.int .i64 2, .int .i64 5, .int .i64 r0, .int .i64 r1, .int .i64 r2, .int .i64 r3, .int .i64 r4, .int .i64 r5, .int .i64 r6, .int .i64 r7, .bool false, .int .i64 out], .int .i64 x1, .bool d1] w fun e w' => e = .returned (behF ⟨2, 5, r0, r1, r2, r3, r4, r5, r6, r7, false, out⟩ ⟨e1, ys, x1, d1⟩ room).v ∧ Below w.heap.size w w' := by
  · have hbe : behF ⟨2, 5, r0, r1, r2, r3, r4, r5, r6, r7, false, out⟩ ⟨e1, ys, x1, d1⟩ room = ⟨3, 5, r0, r1, r2, x1, r4, r5, r6, r7, false, out⟩ := by simp [behF]
    rw [hbe]
    clear hbe
    simp only [Wk.v, Wk.cells]
    go_enter Try.func38, Try.ntmps38
    go_wp2_with (go_at_call 62; go_must (refine (rend_any _ _ _ _ _ _ _ _ _ _ _ _ _ _).mono ?_; rintro e w5 ⟨rfl, hb5⟩; have q5 := Blk.ext (Blk.newR1 w _ 25 #[.int .i64 0, .int .i64 0, .int .i64 0, .int .i64 0, .int .i64 0, .int .i64 0, .int .i64 0, .int .i64 0, .int .i64 0, .int .i64 0, .bool false, .int .i64 0]) hb5; have q6 := q5.cell; have q7 := q5.frozen; have q8 := q5.lt))
    all_goals
      refine bodyPost_ret (v := .agg #[.int .i64 3, .int .i64 5, .int .i64 r0, .int .i64 r1, .int .i64 r2, .int .i64 x1, .int .i64 r4, .int .i64 r5, .int .i64 r6, .int .i64 r7, .bool false, .int .i64 out]) (by first | (simp [results, Try.results38, go_sem, q6]; done) | simp [results, Try.results38, go_sem]) rfl ⟨rfl, ?_⟩
      repeat (first | (with_reducible exact Below.refl _ _) | (with_reducible refine ext_trans ?_ (by with_reducible assumption)) | (with_reducible refine ext_set ?_ _ _ (by simp <;> omega)) | (with_reducible apply ext_drewN) | (with_reducible apply ext_drew) | (with_reducible apply ext_alloc))

set_option maxHeartbeats 2000000 in
set_option maxRecDepth 100000 in
theorem beh_5_3 (room : Int) (r0 r1 r2 r3 r4 r5 r6 r7 out : Int) (e1 : Int) (ys : List Int) (x1 : Int) (d1 : Bool) (w : World) :
    Calls Try.prog 38 #[.agg #[.int .i64 3, .int .i64 5, .int .i64 r0, .int .i64 r1, .int .i64 r2, .int .i64 r3, .int .i64 r4, .int .i64 r5, .int .i64 r6, .int .i64 r7, .bool false, .int .i64 out], .int .i64 x1, .bool d1] w fun e w' => e = .returned (behF ⟨3, 5, r0, r1, r2, r3, r4, r5, r6, r7, false, out⟩ ⟨e1, ys, x1, d1⟩ room).v ∧ Below w.heap.size w w' := by
  cases d1
  · have hbe : behF ⟨3, 5, r0, r1, r2, r3, r4, r5, r6, r7, false, out⟩ ⟨e1, ys, x1, false⟩ room = ⟨0, 5, r0, r1, r2, r3, r4, r5, r6, r7, false, out⟩ := by simp [behF]
    rw [hbe]
    clear hbe
    simp only [Wk.v, Wk.cells]
    go_enter Try.func38, Try.ntmps38
    go_wp2_with (go_at_call 62; go_must (refine (rend_any _ _ _ _ _ _ _ _ _ _ _ _ _ _).mono ?_; rintro e w5 ⟨rfl, hb5⟩; have q5 := Blk.ext (Blk.newR1 w _ 25 #[.int .i64 0, .int .i64 0, .int .i64 0, .int .i64 0, .int .i64 0, .int .i64 0, .int .i64 0, .int .i64 0, .int .i64 0, .int .i64 0, .bool false, .int .i64 0]) hb5; have q6 := q5.cell; have q7 := q5.frozen; have q8 := q5.lt))
    all_goals
      refine bodyPost_ret (v := .agg #[.int .i64 0, .int .i64 5, .int .i64 r0, .int .i64 r1, .int .i64 r2, .int .i64 r3, .int .i64 r4, .int .i64 r5, .int .i64 r6, .int .i64 r7, .bool false, .int .i64 out]) (by first | (simp [results, Try.results38, go_sem, q6]; done) | simp [results, Try.results38, go_sem]) rfl ⟨rfl, ?_⟩
      repeat (first | (with_reducible exact Below.refl _ _) | (with_reducible refine ext_trans ?_ (by with_reducible assumption)) | (with_reducible refine ext_set ?_ _ _ (by simp <;> omega)) | (with_reducible apply ext_drewN) | (with_reducible apply ext_drew) | (with_reducible apply ext_alloc))
  · have hbe : behF ⟨3, 5, r0, r1, r2, r3, r4, r5, r6, r7, false, out⟩ ⟨e1, ys, x1, true⟩ room = ⟨3, 5, r0, r1, r2, r3, r4, r5, r6, r7, true, r3⟩ := by simp [behF]
    rw [hbe]
    clear hbe
    simp only [Wk.v, Wk.cells]
    go_enter Try.func38, Try.ntmps38
    go_wp2_with (go_at_call 62; go_must (refine (rend_any _ _ _ _ _ _ _ _ _ _ _ _ _ _).mono ?_; rintro e w5 ⟨rfl, hb5⟩; have q5 := Blk.ext (Blk.newR1 w _ 25 #[.int .i64 0, .int .i64 0, .int .i64 0, .int .i64 0, .int .i64 0, .int .i64 0, .int .i64 0, .int .i64 0, .int .i64 0, .int .i64 0, .bool false, .int .i64 0]) hb5; have q6 := q5.cell; have q7 := q5.frozen; have q8 := q5.lt))
    all_goals
      refine bodyPost_ret (v := .agg #[.int .i64 3, .int .i64 5, .int .i64 r0, .int .i64 r1, .int .i64 r2, .int .i64 r3, .int .i64 r4, .int .i64 r5, .int .i64 r6, .int .i64 r7, .bool true, .int .i64 r3]) (by first | (simp [results, Try.results38, go_sem, q6]; done) | simp [results, Try.results38, go_sem]) rfl ⟨rfl, ?_⟩
      repeat (first | (with_reducible exact Below.refl _ _) | (with_reducible refine ext_trans ?_ (by with_reducible assumption)) | (with_reducible refine ext_set ?_ _ _ (by simp <;> omega)) | (with_reducible apply ext_drewN) | (with_reducible apply ext_drew) | (with_reducible apply ext_alloc))

end Go.Proofs.Ytdnajckhnknlcaa

/-! The map of jobs: made; what it holds of each job. -/
namespace Go.Proofs.Ytdnajckhnknlcaa
set_option linter.unusedVariables false
set_option linter.unusedSimpArgs false
open Go.RowKit

def fnV (f : Nat) : Value := .func (.func f) #[] #[]

def MapAt (w : World) (b : Nat) (es : Array MapEntry) (clock : Nat) : Prop := w.heap[b]? = some (.map es clock)

theorem MapAt.lt {w : World} {b : Nat} {es : Array MapEntry} {c : Nat} (h : MapAt w b es c) : b < w.heap.size := by
  unfold MapAt at h
  rcases Nat.lt_or_ge b w.heap.size with g | g
  · exact g
  · rw [Array.getElem?_eq_none g] at h; cases h
theorem MapAt.new (w : World) (es : Array MapEntry) (c : Nat) : MapAt (w.alloc (.map es c)) w.heap.size es c := heap_alloc_new w _
theorem MapAt.alloc {w : World} {b : Nat} {es : Array MapEntry} {c : Nat} (h : MapAt w b es c) (o : Obj) : MapAt (w.alloc o) b es c := by
  have hl := h.lt
  unfold MapAt at *; rw [Below.heap_alloc _ _ _ hl]; exact h
theorem MapAt.ext {w w' : World} {b : Nat} {es : Array MapEntry} {c : Nat} (h : MapAt w b es c) (hb : Below w.heap.size w w') : MapAt w' b es c := by
  have hl := h.lt
  unfold MapAt at *; rw [hb.block b hl]; exact h

theorem run_insert_new {P : Program} (w : World) (mty kt et : TypeId) (r clock : Nat) (es : Array MapEntry) (k : Int) (val : Value) (hm : P.underlying mty = some (.map kt et)) (hk : P.underlying kt = some (.int .i64))
    (hb : MapAt w r es clock) (hf : Instr.findNow (.int .i64) (.int .i64 k) es.toList 0 = some none) :
    (Instr.mapUpdate mty (.map (some r)) (.int .i64 k) val).run P w = .ok () { w with heap := w.heap.setIfInBounds r (.map (es.push { key := .int .i64 k, val := val, born := clock }) (clock + 1)) } := by
  have hc : (Instr.checkKey false 10000 kt (.int .i64 k)).run P w = .ok () w := MapKept.run_checkKey (k := .int .i64 k) hk (by simp [MapKept.IsKey]) false 9999
  unfold MapAt at hb
  simp [Instr.mapUpdate, run_underlying hm, MapKept.run_getObj_map hb, hc, MapKept.run_findKey hk hf, MapKept.run_setObj_map _ hb, Result.andThen]

theorem wpList_insert_new {P : Program} (w : World) {ops : Array Oper} {rest : List Oper} {o : Oper} {a : Act} {Q : Exit → Act → World → Prop} (hgd : o.guard = none) (m kx vx : Operand) (mty kt et : TypeId)
    (ho : o.op = .insert mty m kx vx) (hm : P.underlying mty = some (.map kt et)) (hk : P.underlying kt = some (.int .i64)) (r clock : Nat) (es : Array MapEntry) (k : Int) (val : Value)
    (e1 : a.eval m = .map (some r)) (e2 : a.eval kx = .int .i64 k) (e3 : a.eval vx = val) (hb : MapAt w r es clock) (hf : Instr.findNow (.int .i64) (.int .i64 k) es.toList 0 = some none)
    (h : ∀ w', w.grownBy w' (some r) → MapAt w' r (es.push { key := .int .i64 k, val := val, born := clock }) (clock + 1) → wpList P ops Q rest (a.put o.dst undef) w') :
    wpList P ops Q (o :: rest) a w := by
  refine wpList_plain hgd fun K hK => ?_
  have hr := run_insert_new (P := P) w mty kt et r clock es k val hm hk hb hf
  have hl := hb.lt
  unfold Oper.wp execOp
  simp only [ho, Sem.run_bind, e1, e2, e3, hr, Result.andThen]
  refine hK _ _ (h _ ⟨rfl, rfl, rfl, by simp, fun k hk hne => ?_⟩ ?_)
  · simp only [Array.getElem?_setIfInBounds]
    rw [if_neg (by intro e; exact hne (by rw [e]))]
  · unfold MapAt
    simp [Array.getElem?_setIfInBounds, hl]

end Go.Proofs.Ytdnajckhnknlcaa
