/-
  The contracts of the functions that these laws reach, part 8.
-/
import Derived.Test.YtdnajckhnknlcaaR7
import Derived.Deep.RegionHeld3

/-! What a worker does at each step: the methods that the map of jobs holds. -/
namespace Go.Proofs.Ytdnajckhnknlcaa
set_option linter.unusedVariables false
set_option linter.unusedSimpArgs false
open Go.RowKit


set_option maxHeartbeats 1000000 in
theorem job_stealTop (b : Nat) (r0 r1 r2 r3 r4 r5 r6 r7 : Int) (out : Int) (p : Option Addr) (c : Nat) (at_ room : Int) (xs : List Int) (w : World) (hr1 : 1 ≤ room) (hr2 : room ≤ 1000) (hat : 0 ≤ at_) (hr : Rd w 1 p xs.length c (ints xs)) (hlen : xs.length ≤ 100000)
    (h : Blk w b 57 #[.int .i64 0, .int .i64 5, .int .i64 r0, .int .i64 r1, .int .i64 r2, .int .i64 r3, .int .i64 r4, .int .i64 r5, .int .i64 r6, .int .i64 r7, .bool false, .int .i64 out, .slice p xs.length c, .int .i64 at_, .int .i64 room, .int .i64 0]) :
    Calls Try.prog 56 #[.pointer (some ⟨b, 0, none⟩)] w fun e w' => e = .returned (.tuple #[]) ∧
      HS w w' b xs.length (fun p c => hdV (behF ⟨0, 5, r0, r1, r2, r3, r4, r5, r6, r7, false, out⟩ (doF xs 1 at_ 0 0) room) p xs.length c at_ room (doF xs 1 at_ 0 0).e) (doF xs 1 at_ 0 0).xs := by
  have hc := h.cell
  have hf := h.frozen
  have HR := Lib.hid hr
  clear hr
  obtain ⟨⟨e1, ys, x1, d1⟩, HQ⟩ : ∃ q, Hid (doF xs 1 at_ 0 0 = q) := ⟨_, rfl⟩
  rw [HQ.out]
  have ht := fun (W : World) (hR : Rd W 1 p xs.length c (ints xs)) (hB : Blk W b 57 #[.int .i64 0, .int .i64 5, .int .i64 r0, .int .i64 r1, .int .i64 r2, .int .i64 r3, .int .i64 r4, .int .i64 r5, .int .i64 r6, .int .i64 r7, .bool false, .int .i64 out, .slice p xs.length c, .int .i64 at_, .int .i64 room, .int .i64 0]) => top_1 b 0 5 r0 r1 r2 r3 r4 r5 r6 r7 false out p c at_ room 0 xs W 1 (by unfold wrap64; omega) hR hlen hB
  rw [HQ.out] at ht
  have HT := Lib.hid ht
  clear ht
  · clear hlen
    have hbe : behF ⟨0, 5, r0, r1, r2, r3, r4, r5, r6, r7, false, out⟩ ⟨e1, ys, x1, d1⟩ room = ⟨1, 5, r0, x1, r2, r3, r4, r5, r6, r7, false, out⟩ := by simp [behF]
    rw [hbe]
    clear hbe
    go_enter Try.func56, Try.ntmps56
    go_wp2_with (go_at_call 71; go_must ((try simp only [IntWalk.i64_left]); refine (HT.out _ ?_ ?_).mono ?_; (· repeat (first | exact HR.out | apply Rd.drew | apply Rd.drewN)); (· exact h); rintro e w1 ⟨rfl, p1, c1, hg, h1, hown⟩; have hc1 := h1.cell; have hf1 := h1.frozen))
    all_goals
     go_end0
     refine ⟨rfl, p1, c1, ?_, ?_, ?_⟩
     · repeat (first | exact grownBy_refl _ _ | apply grownBy_set | apply grownBy_drewN | apply grownBy_drew | refine gb_trans ?_ (by assumption))
     · repeat (first | assumption | apply Blk.set' | apply Blk.drewN | apply Blk.drew)
       all_goals rfl
     · repeat (first | exact hown | (refine hend _ _ _ _ h.lt ?_) | (refine ownsRow_setCell_below ?_ ?_ _; rotate_left; (exact h.lt)) | apply own_drewN | apply own_drew)

set_option maxHeartbeats 1000000 in
theorem job_stealBottom (b : Nat) (r0 r1 r2 r3 r4 r5 r6 r7 : Int) (out : Int) (p : Option Addr) (c : Nat) (at_ room : Int) (xs : List Int) (w : World) (hr1 : 1 ≤ room) (hr2 : room ≤ 1000) (hat : 0 ≤ at_) (hr : Rd w 1 p xs.length c (ints xs)) (hlen : xs.length ≤ 100000)
    (h : Blk w b 57 #[.int .i64 1, .int .i64 5, .int .i64 r0, .int .i64 r1, .int .i64 r2, .int .i64 r3, .int .i64 r4, .int .i64 r5, .int .i64 r6, .int .i64 r7, .bool false, .int .i64 out, .slice p xs.length c, .int .i64 at_, .int .i64 room, .int .i64 0]) :
    Calls Try.prog 57 #[.pointer (some ⟨b, 0, none⟩)] w fun e w' => e = .returned (.tuple #[]) ∧
      HS w w' b xs.length (fun p c => hdV (behF ⟨1, 5, r0, r1, r2, r3, r4, r5, r6, r7, false, out⟩ (doF xs 1 (wrap64 (at_ + 1)) 0 0) room) p xs.length c at_ room (doF xs 1 (wrap64 (at_ + 1)) 0 0).e) (doF xs 1 (wrap64 (at_ + 1)) 0 0).xs := by
  have hc := h.cell
  have hf := h.frozen
  have HR := Lib.hid hr
  clear hr
  obtain ⟨⟨e1, ys, x1, d1⟩, HQ⟩ : ∃ q, Hid (doF xs 1 (wrap64 (at_ + 1)) 0 0 = q) := ⟨_, rfl⟩
  rw [HQ.out]
  have ht := fun (W : World) (hR : Rd W 1 p xs.length c (ints xs)) (hB : Blk W b 57 #[.int .i64 1, .int .i64 5, .int .i64 r0, .int .i64 r1, .int .i64 r2, .int .i64 r3, .int .i64 r4, .int .i64 r5, .int .i64 r6, .int .i64 r7, .bool false, .int .i64 out, .slice p xs.length c, .int .i64 at_, .int .i64 room, .int .i64 0]) => bottom_2 b 1 5 r0 r1 r2 r3 r4 r5 r6 r7 false out p c at_ room 0 xs W 2 (by unfold wrap64; omega) hR hlen hB
  rw [HQ.out] at ht
  have HT := Lib.hid ht
  clear ht
  by_cases hcd : x1 ≤ r1
  · clear hlen
    have hbe : behF ⟨1, 5, r0, r1, r2, r3, r4, r5, r6, r7, false, out⟩ ⟨e1, ys, x1, d1⟩ room = ⟨1, 5, r0, r1, x1, r3, r4, r5, r6, r7, true, (-1)⟩ := by simp only [behF]; simp [hcd]
    rw [hbe]
    clear hbe
    go_enter Try.func57, Try.ntmps57
    go_wp2_with (first | (go_at_call 70; go_must ((try simp only [IntWalk.i64_left]); refine (HT.out _ ?_ ?_).mono ?_; (· repeat (first | exact HR.out | apply Rd.drew | apply Rd.drewN)); (· exact h); rintro e w1 ⟨rfl, p1, c1, hg, h1, hown⟩; have hc1 := h1.cell; have hf1 := h1.frozen)) | (go_at_call 72; go_must (refine (end_any b 2 5 r0 r1 x1 r3 r4 r5 r6 r7 false out (.slice p1 xs.length c1) at_ room e1 _ 1 (-1) (by unfold wrap64; omega) ?_).mono ?_; (· exact h1); rintro e w2 ⟨rfl, hg2, h2, hend⟩)))
    all_goals
     go_end0
     refine ⟨rfl, p1, c1, ?_, ?_, ?_⟩
     · repeat (first | exact grownBy_refl _ _ | apply grownBy_set | apply grownBy_drewN | apply grownBy_drew | refine gb_trans ?_ (by assumption))
     · repeat (first | assumption | apply Blk.set' | apply Blk.drewN | apply Blk.drew)
       all_goals rfl
     · repeat (first | exact hown | (refine hend _ _ _ _ h.lt ?_) | (refine ownsRow_setCell_below ?_ ?_ _; rotate_left; (exact h.lt)) | apply own_drewN | apply own_drew)
  · clear hlen
    have hbe : behF ⟨1, 5, r0, r1, r2, r3, r4, r5, r6, r7, false, out⟩ ⟨e1, ys, x1, d1⟩ room = ⟨2, 5, r0, r1, x1, r3, r4, r5, r6, r7, false, out⟩ := by simp only [behF]; simp [hcd]
    rw [hbe]
    clear hbe
    go_enter Try.func57, Try.ntmps57
    go_wp2_with (go_at_call 70; go_must ((try simp only [IntWalk.i64_left]); refine (HT.out _ ?_ ?_).mono ?_; (· repeat (first | exact HR.out | apply Rd.drew | apply Rd.drewN)); (· exact h); rintro e w1 ⟨rfl, p1, c1, hg, h1, hown⟩; have hc1 := h1.cell; have hf1 := h1.frozen))
    all_goals
     go_end0
     refine ⟨rfl, p1, c1, ?_, ?_, ?_⟩
     · repeat (first | exact grownBy_refl _ _ | apply grownBy_set | apply grownBy_drewN | apply grownBy_drew | refine gb_trans ?_ (by assumption))
     · repeat (first | assumption | apply Blk.set' | apply Blk.drewN | apply Blk.drew)
       all_goals rfl
     · repeat (first | exact hown | (refine hend _ _ _ _ h.lt ?_) | (refine ownsRow_setCell_below ?_ ?_ _; rotate_left; (exact h.lt)) | apply own_drewN | apply own_drew)

set_option maxHeartbeats 1000000 in
theorem job_stealTask (b : Nat) (r0 r1 r2 r3 r4 r5 r6 r7 : Int) (out : Int) (p : Option Addr) (c : Nat) (at_ room : Int) (xs : List Int) (w : World) (hr1 : 1 ≤ room) (hr2 : room ≤ 1000) (hat : 0 ≤ at_) (hr : Rd w 1 p xs.length c (ints xs)) (hlen : xs.length ≤ 100000)
    (h : Blk w b 57 #[.int .i64 2, .int .i64 5, .int .i64 r0, .int .i64 r1, .int .i64 r2, .int .i64 r3, .int .i64 r4, .int .i64 r5, .int .i64 r6, .int .i64 r7, .bool false, .int .i64 out, .slice p xs.length c, .int .i64 at_, .int .i64 room, .int .i64 0]) :
    Calls Try.prog 58 #[.pointer (some ⟨b, 0, none⟩)] w fun e w' => e = .returned (.tuple #[]) ∧
      HS w w' b xs.length (fun p c => hdV (behF ⟨2, 5, r0, r1, r2, r3, r4, r5, r6, r7, false, out⟩ (doF xs 1 (placeF at_ room r1) 0 0) room) p xs.length c at_ room (doF xs 1 (placeF at_ room r1) 0 0).e) (doF xs 1 (placeF at_ room r1) 0 0).xs := by
  have hc := h.cell
  have hf := h.frozen
  have HR := Lib.hid hr
  clear hr
  obtain ⟨⟨e1, ys, x1, d1⟩, HQ⟩ : ∃ q, Hid (doF xs 1 (placeF at_ room r1) 0 0 = q) := ⟨_, rfl⟩
  rw [HQ.out]
  have ht := fun (W : World) (hR : Rd W 1 p xs.length c (ints xs)) (hB : Blk W b 57 #[.int .i64 2, .int .i64 5, .int .i64 r0, .int .i64 r1, .int .i64 r2, .int .i64 r3, .int .i64 r4, .int .i64 r5, .int .i64 r6, .int .i64 r7, .bool false, .int .i64 out, .slice p xs.length c, .int .i64 at_, .int .i64 room, .int .i64 0]) => load_3 b 2 5 r0 r1 r2 r3 r4 r5 r6 r7 false out p c at_ room 0 xs W 3 (placeF at_ room r1) (by unfold wrap64; omega) hR hlen hB
  rw [HQ.out] at ht
  have HT := Lib.hid ht
  clear ht
  · clear hlen
    have hbe : behF ⟨2, 5, r0, r1, r2, r3, r4, r5, r6, r7, false, out⟩ ⟨e1, ys, x1, d1⟩ room = ⟨3, 5, r0, r1, r2, x1, r4, r5, r6, r7, false, out⟩ := by simp [behF]
    rw [hbe]
    clear hbe
    go_enter Try.func58, Try.ntmps58
    go_wp2_with (first | (go_at_call 74; go_must (refine (place_any b 2 5 r0 r1 r2 r3 r4 r5 r6 r7 false out (.slice p xs.length c) at_ room 0 _ r1 hr1 hr2 hat ?_).mono ?_; (· exact h); rintro e w3 ⟨rfl, k3, rfl⟩)) | (go_at_call 75; go_must ((try simp only [IntWalk.i64_left]); refine (HT.out _ ?_ ?_).mono ?_; (· repeat (first | exact HR.out | apply Rd.drew | apply Rd.drewN)); (· exact h); rintro e w1 ⟨rfl, p1, c1, hg, h1, hown⟩; have hc1 := h1.cell; have hf1 := h1.frozen)))
    all_goals
     go_end0
     refine ⟨rfl, p1, c1, ?_, ?_, ?_⟩
     · repeat (first | exact grownBy_refl _ _ | apply grownBy_set | apply grownBy_drewN | apply grownBy_drew | refine gb_trans ?_ (by assumption))
     · repeat (first | assumption | apply Blk.set' | apply Blk.drewN | apply Blk.drew)
       all_goals rfl
     · repeat (first | exact hown | (refine hend _ _ _ _ h.lt ?_) | (refine ownsRow_setCell_below ?_ ?_ _; rotate_left; (exact h.lt)) | apply own_drewN | apply own_drew)

end Go.Proofs.Ytdnajckhnknlcaa

/-! What a worker does at the swaps: stealEnd, takeLast. -/
namespace Go.Proofs.Ytdnajckhnknlcaa
set_option linter.unusedVariables false
set_option linter.unusedSimpArgs false
open Go.RowKit

set_option maxHeartbeats 1000000 in
theorem job_stealEnd (b : Nat) (r0 r1 r2 r3 r4 r5 r6 r7 : Int) (out : Int) (p : Option Addr) (c : Nat) (at_ room : Int) (xs : List Int) (w : World) (hr1 : 1 ≤ room) (hr2 : room ≤ 1000) (hat : 0 ≤ at_) (hr : Rd w 1 p xs.length c (ints xs)) (hlen : xs.length ≤ 100000)
    (h : Blk w b 57 #[.int .i64 3, .int .i64 5, .int .i64 r0, .int .i64 r1, .int .i64 r2, .int .i64 r3, .int .i64 r4, .int .i64 r5, .int .i64 r6, .int .i64 r7, .bool false, .int .i64 out, .slice p xs.length c, .int .i64 at_, .int .i64 room, .int .i64 0]) :
    Calls Try.prog 59 #[.pointer (some ⟨b, 0, none⟩)] w fun e w' => e = .returned (.tuple #[]) ∧
      HS w w' b xs.length (fun p c => hdV (behF ⟨3, 5, r0, r1, r2, r3, r4, r5, r6, r7, false, out⟩ (doF xs 3 at_ r1 (wrap64 (r1 + 1))) room) p xs.length c at_ room (doF xs 3 at_ r1 (wrap64 (r1 + 1))).e) (doF xs 3 at_ r1 (wrap64 (r1 + 1))).xs := by
  have hc := h.cell
  have hf := h.frozen
  have HR := Lib.hid hr
  clear hr
  obtain ⟨⟨e1, ys, x1, d1⟩, HQ⟩ : ∃ q, Hid (doF xs 3 at_ r1 (wrap64 (r1 + 1)) = q) := ⟨_, rfl⟩
  rw [HQ.out]
  have ht := fun (W : World) (hR : Rd W 1 p xs.length c (ints xs)) (hB : Blk W b 57 #[.int .i64 3, .int .i64 5, .int .i64 r0, .int .i64 r1, .int .i64 r2, .int .i64 r3, .int .i64 r4, .int .i64 r5, .int .i64 r6, .int .i64 r7, .bool false, .int .i64 out, .slice p xs.length c, .int .i64 at_, .int .i64 room, .int .i64 0]) => touch_any b 3 5 r0 r1 r2 r3 r4 r5 r6 r7 false out p c at_ room 0 xs W 3 at_ r1 (wrap64 (r1 + 1)) (by omega) hR hlen hB
  rw [HQ.out] at ht
  have HT := Lib.hid ht
  clear ht
  cases d1
  · clear hlen
    have hbe : behF ⟨3, 5, r0, r1, r2, r3, r4, r5, r6, r7, false, out⟩ ⟨e1, ys, x1, false⟩ room = ⟨0, 5, r0, r1, r2, r3, r4, r5, r6, r7, false, out⟩ := by simp [behF]
    rw [hbe]
    clear hbe
    go_enter Try.func59, Try.ntmps59
    go_wp2_with fail
    have g13 : w.drew.cell? ⟨b, 13, none⟩ = some (.int .i64 at_) := (Blk.drew h).cell 13
    have g4 : w.drew.cell? ⟨b, 3, none⟩ = some (.int .i64 r1) := (Blk.drew h).cell 3
    go_region_held3 (fun w' => w'.cell? ⟨b, 13, none⟩ = some (.int .i64 at_) ∧ w'.cell? ⟨b, 3, none⟩ = some (.int .i64 r1)) (first | go_keep | exact ⟨by simp [hc1], by simp [hc1]⟩) ((go_at_call 76; go_must ((try simp only [IntWalk.i64_left]); refine (HT.out _ ?_ ?_).mono ?_; (· repeat (first | exact HR.out | apply Rd.drew | apply Rd.drewN)); (· exact h); rintro e w1 ⟨rfl, p1, c1, hg, h1, hown⟩; have hc1 := h1.cell; have hf1 := h1.frozen)))
    all_goals go_wp2_with fail
    all_goals
     first | go_end0 | refine bodyPost_ret (results_none rfl _ _ _) rfl ?_
     refine ⟨rfl, p1, c1, ?_, ?_, ?_⟩
     · repeat (first | exact grownBy_refl _ _ | apply grownBy_set | apply grownBy_drewN | apply grownBy_drew | refine gb_trans ?_ (by assumption))
     · repeat (first | assumption | apply Blk.set' | apply Blk.drewN | apply Blk.drew)
       all_goals rfl
     · repeat (first | (with_reducible exact hown) | (exact owns_mono hown (by simp [World.setCell])) | (refine ownsRow_setCell_below ?_ ?_ _; rotate_left; (exact h.lt)) | apply own_drewN | apply own_drew)
  · clear hlen
    have hbe : behF ⟨3, 5, r0, r1, r2, r3, r4, r5, r6, r7, false, out⟩ ⟨e1, ys, x1, true⟩ room = ⟨3, 5, r0, r1, r2, r3, r4, r5, r6, r7, true, r3⟩ := by simp [behF]
    rw [hbe]
    clear hbe
    go_enter Try.func59, Try.ntmps59
    go_wp2_with fail
    have g13 : w.drew.cell? ⟨b, 13, none⟩ = some (.int .i64 at_) := (Blk.drew h).cell 13
    have g4 : w.drew.cell? ⟨b, 3, none⟩ = some (.int .i64 r1) := (Blk.drew h).cell 3
    go_region_held3 (fun w' => w'.cell? ⟨b, 13, none⟩ = some (.int .i64 at_) ∧ w'.cell? ⟨b, 3, none⟩ = some (.int .i64 r1)) (first | go_keep | exact ⟨by simp [hc1], by simp [hc1]⟩) ((go_at_call 76; go_must ((try simp only [IntWalk.i64_left]); refine (HT.out _ ?_ ?_).mono ?_; (· repeat (first | exact HR.out | apply Rd.drew | apply Rd.drewN)); (· exact h); rintro e w1 ⟨rfl, p1, c1, hg, h1, hown⟩; have hc1 := h1.cell; have hf1 := h1.frozen)))
    all_goals go_wp2_with fail
    all_goals
     first | go_end0 | refine bodyPost_ret (results_none rfl _ _ _) rfl ?_
     refine ⟨rfl, p1, c1, ?_, ?_, ?_⟩
     · repeat (first | exact grownBy_refl _ _ | apply grownBy_set | apply grownBy_drewN | apply grownBy_drew | refine gb_trans ?_ (by assumption))
     · repeat (first | assumption | apply Blk.set' | apply Blk.drewN | apply Blk.drew)
       all_goals rfl
     · repeat (first | (with_reducible exact hown) | (exact owns_mono hown (by simp [World.setCell])) | (refine ownsRow_setCell_below ?_ ?_ _; rotate_left; (exact h.lt)) | apply own_drewN | apply own_drew)

set_option maxHeartbeats 4000000 in
theorem job_takeLast (b : Nat) (r0 r1 r2 r3 r4 r5 r6 r7 : Int) (out : Int) (p : Option Addr) (c : Nat) (at_ room : Int) (xs : List Int) (w : World) (hr1 : 1 ≤ room) (hr2 : room ≤ 1000) (hat : 0 ≤ at_) (hne : NeN b p xs.length) (hr : Rd w 1 p xs.length c (ints xs)) (hlen : xs.length ≤ 100000)
    (h : Blk w b 57 #[.int .i64 4, .int .i64 6, .int .i64 r0, .int .i64 r1, .int .i64 r2, .int .i64 r3, .int .i64 r4, .int .i64 r5, .int .i64 r6, .int .i64 r7, .bool false, .int .i64 out, .slice p xs.length c, .int .i64 at_, .int .i64 room, .int .i64 0]) :
    Calls Try.prog 54 #[.pointer (some ⟨b, 0, none⟩)] w fun e w' => e = .returned (.tuple #[]) ∧
      HS w w' b xs.length (fun p c => hdV (behF ⟨4, 6, r0, r1, r2, r3, r4, r5, r6, r7, false, out⟩ (doF xs 3 at_ r2 (wrap64 (r2 + 1))) room) p xs.length c at_ room (doF xs 3 at_ r2 (wrap64 (r2 + 1))).e) (doF xs 3 at_ r2 (wrap64 (r2 + 1))).xs := by
  have hc := h.cell
  have hf := h.frozen
  have HR := Lib.hid hr
  have HN := Lib.hid hne
  clear hr hne
  obtain ⟨⟨e1, ys, x1, d1⟩, HQ⟩ : ∃ q, Hid (doF xs 3 at_ r2 (wrap64 (r2 + 1)) = q) := ⟨_, rfl⟩
  rw [HQ.out]
  have ht := fun (W : World) (hR : Rd W 1 p xs.length c (ints xs)) (hB : Blk W b 57 #[.int .i64 4, .int .i64 6, .int .i64 r0, .int .i64 r1, .int .i64 r2, .int .i64 r3, .int .i64 r4, .int .i64 r5, .int .i64 r6, .int .i64 r7, .bool false, .int .i64 (-1), .slice p xs.length c, .int .i64 at_, .int .i64 room, .int .i64 0]) => touch_any b 4 6 r0 r1 r2 r3 r4 r5 r6 r7 false (-1) p c at_ room 0 xs W 3 at_ r2 (wrap64 (r2 + 1)) (by omega) hR hlen hB
  rw [HQ.out] at ht
  have HT := Lib.hid ht
  clear ht
  cases d1
  · clear hlen
    have hbe : behF ⟨4, 6, r0, r1, r2, r3, r4, r5, r6, r7, false, out⟩ ⟨e1, ys, x1, false⟩ room = ⟨5, 6, r0, r1, r2, r3, r4, r5, r6, r7, false, (-1)⟩ := by simp [behF]
    rw [hbe]
    clear hbe
    go_enter Try.func54, Try.ntmps54
    go_wp2_with fail
    have g13 : (w.setCell ⟨b, 11, none⟩ (.int .i64 (-1))).drew.cell? ⟨b, 13, none⟩ = some (.int .i64 at_) := (Blk.drew (h.set 11 (.int .i64 (-1)))).cell 13
    have g4 : (w.setCell ⟨b, 11, none⟩ (.int .i64 (-1))).drew.cell? ⟨b, 4, none⟩ = some (.int .i64 r2) := (Blk.drew (h.set 11 (.int .i64 (-1)))).cell 4
    go_region_held3 (fun w' => w'.cell? ⟨b, 13, none⟩ = some (.int .i64 at_) ∧ w'.cell? ⟨b, 4, none⟩ = some (.int .i64 r2)) (first | go_keep | exact ⟨by simp [hc1], by simp [hc1]⟩) ((go_at_call 76; go_must ((try simp only [IntWalk.i64_left]); refine (HT.out _ ?_ ?_).mono ?_; (· repeat (first | exact HR.out | (with_reducible apply Rd.drew) | (refine Rd.setOtherN ?_ HN.out _ _))); (· refine Blk.drew (Blk.set' (cs := #[.int .i64 4, .int .i64 6, .int .i64 r0, .int .i64 r1, .int .i64 r2, .int .i64 r3, .int .i64 r4, .int .i64 r5, .int .i64 r6, .int .i64 r7, .bool false, .int .i64 out, .slice p xs.length c, .int .i64 at_, .int .i64 room, .int .i64 0]) h rfl)); rintro e w1 ⟨rfl, p1, c1, hg, h1, hown⟩; have hc1 := h1.cell; have hf1 := h1.frozen)))
    all_goals go_wp2_with fail
    all_goals
     first | go_end0 | refine bodyPost_ret (results_none rfl _ _ _) rfl ?_
     refine ⟨rfl, p1, c1, ?_, ?_, ?_⟩
     · repeat (first | exact grownBy_refl _ _ | apply grownBy_set | apply grownBy_drewN | apply grownBy_drew | refine gb_trans ?_ (by assumption))
     · repeat (first | assumption | apply Blk.set' | apply Blk.drewN | apply Blk.drew)
       all_goals rfl
     · repeat (first | (with_reducible exact hown) | (exact owns_mono hown (by simp [World.setCell])) | (refine ownsRow_setCell_below ?_ ?_ _; rotate_left; (exact h.lt)) | apply own_drewN | apply own_drew)
  · clear hlen
    have hbe : behF ⟨4, 6, r0, r1, r2, r3, r4, r5, r6, r7, false, out⟩ ⟨e1, ys, x1, true⟩ room = ⟨5, 6, r0, r1, r2, r3, r4, r5, r6, r7, false, r3⟩ := by simp [behF]
    rw [hbe]
    clear hbe
    go_enter Try.func54, Try.ntmps54
    go_wp2_with fail
    have g13 : (w.setCell ⟨b, 11, none⟩ (.int .i64 (-1))).drew.cell? ⟨b, 13, none⟩ = some (.int .i64 at_) := (Blk.drew (h.set 11 (.int .i64 (-1)))).cell 13
    have g4 : (w.setCell ⟨b, 11, none⟩ (.int .i64 (-1))).drew.cell? ⟨b, 4, none⟩ = some (.int .i64 r2) := (Blk.drew (h.set 11 (.int .i64 (-1)))).cell 4
    go_region_held3 (fun w' => w'.cell? ⟨b, 13, none⟩ = some (.int .i64 at_) ∧ w'.cell? ⟨b, 4, none⟩ = some (.int .i64 r2)) (first | go_keep | exact ⟨by simp [hc1], by simp [hc1]⟩) ((go_at_call 76; go_must ((try simp only [IntWalk.i64_left]); refine (HT.out _ ?_ ?_).mono ?_; (· repeat (first | exact HR.out | (with_reducible apply Rd.drew) | (refine Rd.setOtherN ?_ HN.out _ _))); (· refine Blk.drew (Blk.set' (cs := #[.int .i64 4, .int .i64 6, .int .i64 r0, .int .i64 r1, .int .i64 r2, .int .i64 r3, .int .i64 r4, .int .i64 r5, .int .i64 r6, .int .i64 r7, .bool false, .int .i64 out, .slice p xs.length c, .int .i64 at_, .int .i64 room, .int .i64 0]) h rfl)); rintro e w1 ⟨rfl, p1, c1, hg, h1, hown⟩; have hc1 := h1.cell; have hf1 := h1.frozen)))
    all_goals go_wp2_with fail
    all_goals
     first | go_end0 | refine bodyPost_ret (results_none rfl _ _ _) rfl ?_
     refine ⟨rfl, p1, c1, ?_, ?_, ?_⟩
     · repeat (first | exact grownBy_refl _ _ | apply grownBy_set | apply grownBy_drewN | apply grownBy_drew | refine gb_trans ?_ (by assumption))
     · repeat (first | assumption | apply Blk.set' | apply Blk.drewN | apply Blk.drew)
       all_goals rfl
     · repeat (first | (with_reducible exact hown) | (exact owns_mono hown (by simp [World.setCell])) | (refine ownsRow_setCell_below ?_ ?_ _; rotate_left; (exact h.lt)) | apply own_drewN | apply own_drew)

end Go.Proofs.Ytdnajckhnknlcaa

/-! One step of a worker, in the program: where it is none. -/
namespace Go.Proofs.Ytdnajckhnknlcaa
set_option linter.unusedVariables false
set_option linter.unusedSimpArgs false
open Go.RowKit

set_option maxHeartbeats 4000000 in
set_option maxRecDepth 100000 in
theorem step_bad_at (p : Option Addr) (c : Nat) (xs : List Int) (at_ room : Int) (i job r0 r1 r2 r3 r4 r5 r6 r7 out : Int) (w : World) (hr : Rd w 1 p xs.length c (ints xs)) (hlen : xs.length ≤ 100000) (nf : Nat) (hnf : nf ≤ 10) (hr1 : 1 ≤ room) (hr2 : room ≤ 1000) (hat : at_ < 0) (done : Bool)
    (hlook : ∀ w1 r, JobsAt w1 r → ∃ q, (Instr.lookup 51 (.map (some r)) (.int .i64 job) false).run Try.prog w1 = .ok (.slice q nf nf) w1) :
    Calls Try.prog 12 #[.slice p xs.length c, .int .i64 at_, .int .i64 room, (⟨i, job, r0, r1, r2, r3, r4, r5, r6, r7, done, out⟩ : Wk).v] w fun e w' =>
      ∃ p' c', e = .returned (.tuple #[.slice p' xs.length c', (⟨i, job, r0, r1, r2, r3, r4, r5, r6, r7, done, out⟩ : Wk).v, .int .i64 1]) ∧ Below w.heap.size w w' ∧ Rd w' 1 p' xs.length c' (ints xs) ∧ Fr w.heap.size p' := by
  have HR := Lib.hid hr
  have HL := Lib.hid hlook
  have H1 := Lib.hid (ints_one xs)
  clear hr hlook
  simp only [Wk.v, Wk.cells]
  go_enter Try.func12, Try.ntmps12
  go_wp2_with fail
  go_region_with (go_at_call 30; go_must (refine (jobs_any _).mono ?_; rintro e w1 ⟨r, rfl, hb1, hj⟩; obtain ⟨q, hlk⟩ := HL.out w1 r hj; clear hj; have hc1 := ((Blk.new w 25 #[.int .i64 i, .int .i64 job, .int .i64 r0, .int .i64 r1, .int .i64 r2, .int .i64 r3, .int .i64 r4, .int .i64 r5, .int .i64 r6, .int .i64 r7, .bool done, .int .i64 out]).alloc (.cells #[.int .i64 0, .int .i64 0, .int .i64 0, .int .i64 0, .int .i64 0, .int .i64 0, .int .i64 0, .int .i64 0, .int .i64 0, .int .i64 0, .bool false, .int .i64 0] 25)).drew.ext hb1; have hcc1 := hc1.cell; have hlt0 := hc1.lt; have hd1 := (Blk.new1 w (.cells #[.int .i64 i, .int .i64 job, .int .i64 r0, .int .i64 r1, .int .i64 r2, .int .i64 r3, .int .i64 r4, .int .i64 r5, .int .i64 r6, .int .i64 r7, .bool done, .int .i64 out] 25) 25 #[.int .i64 0, .int .i64 0, .int .i64 0, .int .i64 0, .int .i64 0, .int .i64 0, .int .i64 0, .int .i64 0, .int .i64 0, .int .i64 0, .bool false, .int .i64 0]).drew.ext hb1; have hdc1 := hd1.cell; have hdf1 := hd1.frozen; have hE1 := ext_trans (ext_drew (ext_alloc (ext_alloc (Below.refl _ _) (.cells #[.int .i64 i, .int .i64 job, .int .i64 r0, .int .i64 r1, .int .i64 r2, .int .i64 r3, .int .i64 r4, .int .i64 r5, .int .i64 r6, .int .i64 r7, .bool done, .int .i64 out] 25)) (.cells #[.int .i64 0, .int .i64 0, .int .i64 0, .int .i64 0, .int .i64 0, .int .i64 0, .int .i64 0, .int .i64 0, .int .i64 0, .int .i64 0, .bool false, .int .i64 0] 25))) hb1; have HR1 := Lib.hid ((((HR.out.alloc (.cells #[.int .i64 i, .int .i64 job, .int .i64 r0, .int .i64 r1, .int .i64 r2, .int .i64 r3, .int .i64 r4, .int .i64 r5, .int .i64 r6, .int .i64 r7, .bool done, .int .i64 out] 25)).alloc (.cells #[.int .i64 0, .int .i64 0, .int .i64 0, .int .i64 0, .int .i64 0, .int .i64 0, .int .i64 0, .int .i64 0, .int .i64 0, .int .i64 0, .bool false, .int .i64 0] 25)).drew).ext hb1)))
  all_goals
    go_wp2_with (go_at_call 31; go_must (refine (may_t room _ hr1 hr2).mono ?_; rintro e w2 ⟨rfl, rfl⟩))
    go_region_with (go_at_call 32; go_must (refine (clone_int p xs.length c (ints xs) _ ?_ H1.out (by omega)).mono ?_; (· exact HR1.out.drew); rintro e w4 ⟨p2, c2, rfl, hb4, hown4⟩; have q1 := (hc1.drew.ext hb4).cell; have q2 := (hd1.drew.ext hb4).cell; have q3 := (hd1.drew.ext hb4).frozen))
  all_goals
    go_wp2_with fail
    refine bodyPost_ret (v := .tuple #[.slice p2 xs.length c2, .agg #[.int .i64 i, .int .i64 job, .int .i64 r0, .int .i64 r1, .int .i64 r2, .int .i64 r3, .int .i64 r4, .int .i64 r5, .int .i64 r6, .int .i64 r7, .bool done, .int .i64 out], .int .i64 1]) (by simp [results, Try.results12, go_sem, q2]) rfl ⟨p2, c2, rfl, ?_, ?_⟩
    · iterate 12 (refine ext_set ?_ _ _ (by omega))
      exact ext_trans (ext_drew hE1) hb4
    · refine rd_fr_of_owns (e := 3) (base := w1.heap.size) ?_ (by omega)
      iterate 12 (refine ownsRow_setCell_below ?_ (hd1.lt) _)
      exact owns_mono hown4 (by simp)

end Go.Proofs.Ytdnajckhnknlcaa

/-! One step of a worker, in the program: where it is none. -/
namespace Go.Proofs.Ytdnajckhnknlcaa
set_option linter.unusedVariables false
set_option linter.unusedSimpArgs false
open Go.RowKit

set_option maxHeartbeats 4000000 in
set_option maxRecDepth 100000 in
theorem step_bad_done (p : Option Addr) (c : Nat) (xs : List Int) (at_ room : Int) (i job r0 r1 r2 r3 r4 r5 r6 r7 out : Int) (w : World) (hr : Rd w 1 p xs.length c (ints xs)) (hlen : xs.length ≤ 100000) (nf : Nat) (hnf : nf ≤ 10) (hr1 : 1 ≤ room) (hr2 : room ≤ 1000) (hat : 0 ≤ at_)
    (hlook : ∀ w1 r, JobsAt w1 r → ∃ q, (Instr.lookup 51 (.map (some r)) (.int .i64 job) false).run Try.prog w1 = .ok (.slice q nf nf) w1) :
    Calls Try.prog 12 #[.slice p xs.length c, .int .i64 at_, .int .i64 room, (⟨i, job, r0, r1, r2, r3, r4, r5, r6, r7, true, out⟩ : Wk).v] w fun e w' =>
      ∃ p' c', e = .returned (.tuple #[.slice p' xs.length c', (⟨i, job, r0, r1, r2, r3, r4, r5, r6, r7, true, out⟩ : Wk).v, .int .i64 1]) ∧ Below w.heap.size w w' ∧ Rd w' 1 p' xs.length c' (ints xs) ∧ Fr w.heap.size p' := by
  have HR := Lib.hid hr
  have HL := Lib.hid hlook
  have H1 := Lib.hid (ints_one xs)
  clear hr hlook
  simp only [Wk.v, Wk.cells]
  go_enter Try.func12, Try.ntmps12
  go_wp2_with fail
  go_region_with (go_at_call 30; go_must (refine (jobs_any _).mono ?_; rintro e w1 ⟨r, rfl, hb1, hj⟩; obtain ⟨q, hlk⟩ := HL.out w1 r hj; clear hj; have hc1 := ((Blk.new w 25 #[.int .i64 i, .int .i64 job, .int .i64 r0, .int .i64 r1, .int .i64 r2, .int .i64 r3, .int .i64 r4, .int .i64 r5, .int .i64 r6, .int .i64 r7, .bool true, .int .i64 out]).alloc (.cells #[.int .i64 0, .int .i64 0, .int .i64 0, .int .i64 0, .int .i64 0, .int .i64 0, .int .i64 0, .int .i64 0, .int .i64 0, .int .i64 0, .bool false, .int .i64 0] 25)).drew.ext hb1; have hcc1 := hc1.cell; have hlt0 := hc1.lt; have hd1 := (Blk.new1 w (.cells #[.int .i64 i, .int .i64 job, .int .i64 r0, .int .i64 r1, .int .i64 r2, .int .i64 r3, .int .i64 r4, .int .i64 r5, .int .i64 r6, .int .i64 r7, .bool true, .int .i64 out] 25) 25 #[.int .i64 0, .int .i64 0, .int .i64 0, .int .i64 0, .int .i64 0, .int .i64 0, .int .i64 0, .int .i64 0, .int .i64 0, .int .i64 0, .bool false, .int .i64 0]).drew.ext hb1; have hdc1 := hd1.cell; have hdf1 := hd1.frozen; have hE1 := ext_trans (ext_drew (ext_alloc (ext_alloc (Below.refl _ _) (.cells #[.int .i64 i, .int .i64 job, .int .i64 r0, .int .i64 r1, .int .i64 r2, .int .i64 r3, .int .i64 r4, .int .i64 r5, .int .i64 r6, .int .i64 r7, .bool true, .int .i64 out] 25)) (.cells #[.int .i64 0, .int .i64 0, .int .i64 0, .int .i64 0, .int .i64 0, .int .i64 0, .int .i64 0, .int .i64 0, .int .i64 0, .int .i64 0, .bool false, .int .i64 0] 25))) hb1; have HR1 := Lib.hid ((((HR.out.alloc (.cells #[.int .i64 i, .int .i64 job, .int .i64 r0, .int .i64 r1, .int .i64 r2, .int .i64 r3, .int .i64 r4, .int .i64 r5, .int .i64 r6, .int .i64 r7, .bool true, .int .i64 out] 25)).alloc (.cells #[.int .i64 0, .int .i64 0, .int .i64 0, .int .i64 0, .int .i64 0, .int .i64 0, .int .i64 0, .int .i64 0, .int .i64 0, .int .i64 0, .bool false, .int .i64 0] 25)).drew).ext hb1)))
  all_goals
    go_wp2_with (go_at_call 31; go_must (refine (may_t room _ hr1 hr2).mono ?_; rintro e w2 ⟨rfl, rfl⟩))
    go_region_with (go_at_call 32; go_must (refine (clone_int p xs.length c (ints xs) _ ?_ H1.out (by omega)).mono ?_; (· exact HR1.out.drew); rintro e w4 ⟨p2, c2, rfl, hb4, hown4⟩; have q1 := (hc1.drew.ext hb4).cell; have q2 := (hd1.drew.ext hb4).cell; have q3 := (hd1.drew.ext hb4).frozen))
  all_goals
    go_wp2_with fail
    refine bodyPost_ret (v := .tuple #[.slice p2 xs.length c2, .agg #[.int .i64 i, .int .i64 job, .int .i64 r0, .int .i64 r1, .int .i64 r2, .int .i64 r3, .int .i64 r4, .int .i64 r5, .int .i64 r6, .int .i64 r7, .bool true, .int .i64 out], .int .i64 1]) (by simp [results, Try.results12, go_sem, q2]) rfl ⟨p2, c2, rfl, ?_, ?_⟩
    · iterate 12 (refine ext_set ?_ _ _ (by omega))
      exact ext_trans (ext_drew hE1) hb4
    · refine rd_fr_of_owns (e := 3) (base := w1.heap.size) ?_ (by omega)
      iterate 12 (refine ownsRow_setCell_below ?_ (hd1.lt) _)
      exact owns_mono hown4 (by simp)

end Go.Proofs.Ytdnajckhnknlcaa

/-! One step of a worker, in the program: where it is none. -/
namespace Go.Proofs.Ytdnajckhnknlcaa
set_option linter.unusedVariables false
set_option linter.unusedSimpArgs false
open Go.RowKit

set_option maxHeartbeats 4000000 in
set_option maxRecDepth 100000 in
theorem step_bad_neg (p : Option Addr) (c : Nat) (xs : List Int) (at_ room : Int) (i job r0 r1 r2 r3 r4 r5 r6 r7 out : Int) (w : World) (hr : Rd w 1 p xs.length c (ints xs)) (hlen : xs.length ≤ 100000) (nf : Nat) (hnf : nf ≤ 10) (hr1 : 1 ≤ room) (hr2 : room ≤ 1000) (hat : 0 ≤ at_) (hi : i < 0)
    (hlook : ∀ w1 r, JobsAt w1 r → ∃ q, (Instr.lookup 51 (.map (some r)) (.int .i64 job) false).run Try.prog w1 = .ok (.slice q nf nf) w1) :
    Calls Try.prog 12 #[.slice p xs.length c, .int .i64 at_, .int .i64 room, (⟨i, job, r0, r1, r2, r3, r4, r5, r6, r7, false, out⟩ : Wk).v] w fun e w' =>
      ∃ p' c', e = .returned (.tuple #[.slice p' xs.length c', (⟨i, job, r0, r1, r2, r3, r4, r5, r6, r7, false, out⟩ : Wk).v, .int .i64 1]) ∧ Below w.heap.size w w' ∧ Rd w' 1 p' xs.length c' (ints xs) ∧ Fr w.heap.size p' := by
  have HR := Lib.hid hr
  have HL := Lib.hid hlook
  have H1 := Lib.hid (ints_one xs)
  clear hr hlook
  simp only [Wk.v, Wk.cells]
  go_enter Try.func12, Try.ntmps12
  go_wp2_with fail
  go_region_with (go_at_call 30; go_must (refine (jobs_any _).mono ?_; rintro e w1 ⟨r, rfl, hb1, hj⟩; obtain ⟨q, hlk⟩ := HL.out w1 r hj; clear hj; have hc1 := ((Blk.new w 25 #[.int .i64 i, .int .i64 job, .int .i64 r0, .int .i64 r1, .int .i64 r2, .int .i64 r3, .int .i64 r4, .int .i64 r5, .int .i64 r6, .int .i64 r7, .bool false, .int .i64 out]).alloc (.cells #[.int .i64 0, .int .i64 0, .int .i64 0, .int .i64 0, .int .i64 0, .int .i64 0, .int .i64 0, .int .i64 0, .int .i64 0, .int .i64 0, .bool false, .int .i64 0] 25)).drew.ext hb1; have hcc1 := hc1.cell; have hlt0 := hc1.lt; have hd1 := (Blk.new1 w (.cells #[.int .i64 i, .int .i64 job, .int .i64 r0, .int .i64 r1, .int .i64 r2, .int .i64 r3, .int .i64 r4, .int .i64 r5, .int .i64 r6, .int .i64 r7, .bool false, .int .i64 out] 25) 25 #[.int .i64 0, .int .i64 0, .int .i64 0, .int .i64 0, .int .i64 0, .int .i64 0, .int .i64 0, .int .i64 0, .int .i64 0, .int .i64 0, .bool false, .int .i64 0]).drew.ext hb1; have hdc1 := hd1.cell; have hdf1 := hd1.frozen; have hE1 := ext_trans (ext_drew (ext_alloc (ext_alloc (Below.refl _ _) (.cells #[.int .i64 i, .int .i64 job, .int .i64 r0, .int .i64 r1, .int .i64 r2, .int .i64 r3, .int .i64 r4, .int .i64 r5, .int .i64 r6, .int .i64 r7, .bool false, .int .i64 out] 25)) (.cells #[.int .i64 0, .int .i64 0, .int .i64 0, .int .i64 0, .int .i64 0, .int .i64 0, .int .i64 0, .int .i64 0, .int .i64 0, .int .i64 0, .bool false, .int .i64 0] 25))) hb1; have HR1 := Lib.hid ((((HR.out.alloc (.cells #[.int .i64 i, .int .i64 job, .int .i64 r0, .int .i64 r1, .int .i64 r2, .int .i64 r3, .int .i64 r4, .int .i64 r5, .int .i64 r6, .int .i64 r7, .bool false, .int .i64 out] 25)).alloc (.cells #[.int .i64 0, .int .i64 0, .int .i64 0, .int .i64 0, .int .i64 0, .int .i64 0, .int .i64 0, .int .i64 0, .int .i64 0, .int .i64 0, .bool false, .int .i64 0] 25)).drew).ext hb1)))
  all_goals
    go_wp2_with (go_at_call 31; go_must (refine (may_t room _ hr1 hr2).mono ?_; rintro e w2 ⟨rfl, rfl⟩))
    go_region_with (go_at_call 32; go_must (refine (clone_int p xs.length c (ints xs) _ ?_ H1.out (by omega)).mono ?_; (· exact HR1.out.drew); rintro e w4 ⟨p2, c2, rfl, hb4, hown4⟩; have q1 := (hc1.drew.ext hb4).cell; have q2 := (hd1.drew.ext hb4).cell; have q3 := (hd1.drew.ext hb4).frozen))
  all_goals
    go_wp2_with fail
    refine bodyPost_ret (v := .tuple #[.slice p2 xs.length c2, .agg #[.int .i64 i, .int .i64 job, .int .i64 r0, .int .i64 r1, .int .i64 r2, .int .i64 r3, .int .i64 r4, .int .i64 r5, .int .i64 r6, .int .i64 r7, .bool false, .int .i64 out], .int .i64 1]) (by simp [results, Try.results12, go_sem, q2]) rfl ⟨p2, c2, rfl, ?_, ?_⟩
    · iterate 12 (refine ext_set ?_ _ _ (by omega))
      exact ext_trans (ext_drew hE1) hb4
    · refine rd_fr_of_owns (e := 3) (base := w1.heap.size) ?_ (by omega)
      iterate 12 (refine ownsRow_setCell_below ?_ (hd1.lt) _)
      exact owns_mono hown4 (by simp)

set_option maxHeartbeats 4000000 in
set_option maxRecDepth 100000 in
theorem step_bad_pc (p : Option Addr) (c : Nat) (xs : List Int) (at_ room : Int) (i job r0 r1 r2 r3 r4 r5 r6 r7 out : Int) (w : World) (hr : Rd w 1 p xs.length c (ints xs)) (hlen : xs.length ≤ 100000) (nf : Nat) (hnf : nf ≤ 10) (hr1 : 1 ≤ room) (hr2 : room ≤ 1000) (hat : 0 ≤ at_) (hi0 : 0 ≤ i) (hi : (nf : Int) ≤ i)
    (hlook : ∀ w1 r, JobsAt w1 r → ∃ q, (Instr.lookup 51 (.map (some r)) (.int .i64 job) false).run Try.prog w1 = .ok (.slice q nf nf) w1) :
    Calls Try.prog 12 #[.slice p xs.length c, .int .i64 at_, .int .i64 room, (⟨i, job, r0, r1, r2, r3, r4, r5, r6, r7, false, out⟩ : Wk).v] w fun e w' =>
      ∃ p' c', e = .returned (.tuple #[.slice p' xs.length c', (⟨i, job, r0, r1, r2, r3, r4, r5, r6, r7, false, out⟩ : Wk).v, .int .i64 1]) ∧ Below w.heap.size w w' ∧ Rd w' 1 p' xs.length c' (ints xs) ∧ Fr w.heap.size p' := by
  have HR := Lib.hid hr
  have HL := Lib.hid hlook
  have H1 := Lib.hid (ints_one xs)
  clear hr hlook
  simp only [Wk.v, Wk.cells]
  go_enter Try.func12, Try.ntmps12
  go_wp2_with fail
  go_region_with (go_at_call 30; go_must (refine (jobs_any _).mono ?_; rintro e w1 ⟨r, rfl, hb1, hj⟩; obtain ⟨q, hlk⟩ := HL.out w1 r hj; clear hj; have hc1 := ((Blk.new w 25 #[.int .i64 i, .int .i64 job, .int .i64 r0, .int .i64 r1, .int .i64 r2, .int .i64 r3, .int .i64 r4, .int .i64 r5, .int .i64 r6, .int .i64 r7, .bool false, .int .i64 out]).alloc (.cells #[.int .i64 0, .int .i64 0, .int .i64 0, .int .i64 0, .int .i64 0, .int .i64 0, .int .i64 0, .int .i64 0, .int .i64 0, .int .i64 0, .bool false, .int .i64 0] 25)).drew.ext hb1; have hcc1 := hc1.cell; have hlt0 := hc1.lt; have hd1 := (Blk.new1 w (.cells #[.int .i64 i, .int .i64 job, .int .i64 r0, .int .i64 r1, .int .i64 r2, .int .i64 r3, .int .i64 r4, .int .i64 r5, .int .i64 r6, .int .i64 r7, .bool false, .int .i64 out] 25) 25 #[.int .i64 0, .int .i64 0, .int .i64 0, .int .i64 0, .int .i64 0, .int .i64 0, .int .i64 0, .int .i64 0, .int .i64 0, .int .i64 0, .bool false, .int .i64 0]).drew.ext hb1; have hdc1 := hd1.cell; have hdf1 := hd1.frozen; have hE1 := ext_trans (ext_drew (ext_alloc (ext_alloc (Below.refl _ _) (.cells #[.int .i64 i, .int .i64 job, .int .i64 r0, .int .i64 r1, .int .i64 r2, .int .i64 r3, .int .i64 r4, .int .i64 r5, .int .i64 r6, .int .i64 r7, .bool false, .int .i64 out] 25)) (.cells #[.int .i64 0, .int .i64 0, .int .i64 0, .int .i64 0, .int .i64 0, .int .i64 0, .int .i64 0, .int .i64 0, .int .i64 0, .int .i64 0, .bool false, .int .i64 0] 25))) hb1; have HR1 := Lib.hid ((((HR.out.alloc (.cells #[.int .i64 i, .int .i64 job, .int .i64 r0, .int .i64 r1, .int .i64 r2, .int .i64 r3, .int .i64 r4, .int .i64 r5, .int .i64 r6, .int .i64 r7, .bool false, .int .i64 out] 25)).alloc (.cells #[.int .i64 0, .int .i64 0, .int .i64 0, .int .i64 0, .int .i64 0, .int .i64 0, .int .i64 0, .int .i64 0, .int .i64 0, .int .i64 0, .bool false, .int .i64 0] 25)).drew).ext hb1)))
  all_goals
    go_wp2_with (go_at_call 31; go_must (refine (may_t room _ hr1 hr2).mono ?_; rintro e w2 ⟨rfl, rfl⟩))
    go_region_with (go_at_call 32; go_must (refine (clone_int p xs.length c (ints xs) _ ?_ H1.out (by omega)).mono ?_; (· exact HR1.out.drew); rintro e w4 ⟨p2, c2, rfl, hb4, hown4⟩; have q1 := (hc1.drew.ext hb4).cell; have q2 := (hd1.drew.ext hb4).cell; have q3 := (hd1.drew.ext hb4).frozen))
  all_goals
    go_wp2_with fail
    refine bodyPost_ret (v := .tuple #[.slice p2 xs.length c2, .agg #[.int .i64 i, .int .i64 job, .int .i64 r0, .int .i64 r1, .int .i64 r2, .int .i64 r3, .int .i64 r4, .int .i64 r5, .int .i64 r6, .int .i64 r7, .bool false, .int .i64 out], .int .i64 1]) (by simp [results, Try.results12, go_sem, q2]) rfl ⟨p2, c2, rfl, ?_, ?_⟩
    · iterate 12 (refine ext_set ?_ _ _ (by omega))
      exact ext_trans (ext_drew hE1) hb4
    · refine rd_fr_of_owns (e := 3) (base := w1.heap.size) ?_ (by omega)
      iterate 12 (refine ownsRow_setCell_below ?_ (hd1.lt) _)
      exact owns_mono hown4 (by simp)

end Go.Proofs.Ytdnajckhnknlcaa
