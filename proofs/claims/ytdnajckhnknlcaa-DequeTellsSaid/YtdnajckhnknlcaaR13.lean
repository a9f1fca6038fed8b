/-
  The contracts of the functions that these laws reach, part 13.
-/
import Derived.Test.YtdnajckhnknlcaaR12
import Derived.Deep.RegionHeld3

/-! The first calls of a law, whose answers are fixed. -/
namespace Go.Proofs.Ytdnajckhnknlcaa
set_option linter.unusedVariables false
set_option linter.unusedSimpArgs false
open Go.RowKit

theorem aw_out {w : World} {b off n c : Nat} {ws : List Wk} (h : Rd w 12 (some ⟨b, off, none⟩) n c (wkCells ws)) (k : Nat) (x : Wk) (hx : ws[k]? = some x) : w.cell? ⟨b, off + k * 12 + 11, none⟩ = some (.int .i64 x.out) := (h.wk k x hx).1 11 (by decide)

theorem ints_seven (p q : Option Addr) (c : Nat) (w : World) (h : Rd w 1 p 1 c (ints [7])) (h2 : Rd w 1 q 1 1 (ints [7])) :
    Calls Try.prog 14 #[.slice p 1 c, .slice q 1 1] w fun e w' => e = .returned (.bool true) ∧ Below w.heap.size w w' := by
  refine (ints_any p q 1 1 c 1 [7] [7] _ h h2 (by decide) (by decide)).mono ?_
  rintro e w' ⟨rfl, k, rfl⟩
  exact ⟨rfl, ext_drewN (Below.refl _ _) k⟩

set_option maxRecDepth 20000 in
set_option maxHeartbeats 2000000 in
theorem awake10 (w : World) : Calls Try.prog 10 #[] w fun e w' => e = .returned (.bool true) ∧ Below w.heap.size w w' := by
  go_enter Try.func10, Try.ntmps10
  go_wp2_with (first
    | (go_at_call 17; go_must (refine (new_two _).mono ?_; rintro e w1 ⟨pm, cm, rfl, HB, HM⟩))
    | (go_at_call 19; go_must (refine (give19 _ _).mono ?_; rintro e w2 ⟨rfl, hb⟩; replace HB := ext_trans HB hb; (try replace HM := HM.ext hb); (try replace HM1 := HM1.ext hb); (try replace HA := HA.ext hb); (try replace HO := HO.ext hb); (try replace HT := HT.ext hb); (try replace HN := HN.ext hb); (try replace HK := HK.ext hb); (try replace HS := HS.ext hb); clear hb))
    | (go_at_call 21; go_must (refine (take21 _).mono ?_; rintro e w2 ⟨rfl, hb⟩; replace HB := ext_trans HB hb; (try replace HM := HM.ext hb); (try replace HM1 := HM1.ext hb); (try replace HA := HA.ext hb); (try replace HO := HO.ext hb); (try replace HT := HT.ext hb); (try replace HN := HN.ext hb); (try replace HK := HK.ext hb); (try replace HS := HS.ext hb); clear hb))
    | (go_at_call 23; go_must (refine (steal23 _).mono ?_; rintro e w2 ⟨rfl, hb⟩; replace HB := ext_trans HB hb; (try replace HM := HM.ext hb); (try replace HM1 := HM1.ext hb); (try replace HA := HA.ext hb); (try replace HO := HO.ext hb); (try replace HT := HT.ext hb); (try replace HN := HN.ext hb); (try replace HK := HK.ext hb); (try replace HS := HS.ext hb); clear hb))
    | (refine wpList_ws3 _ rfl (.tmp 14) (.tmp 15) (.tmp 16) rfl (giveF 7) (giveF 8) takeF rfl rfl rfl ?_; intro w5 hb HO; replace HB := ext_trans HB hb; replace HM := HM.ext hb; clear hb)
    | (refine wpList_ws2 _ rfl (.tmp 25) (.tmp 26) rfl takeF takeF rfl rfl ?_; intro w5 hb HO; replace HB := ext_trans HB hb; replace HM1 := HM1.ext hb; replace HA := HA.ext hb; clear hb)
    | (refine wpList_ws1 _ rfl (.tmp 28) rfl stealF rfl ?_; intro w5 hb HT; replace HB := ext_trans HB hb; replace HM1 := HM1.ext hb; replace HA := HA.ext hb; replace HO := HO.ext hb; clear hb)
    | (go_at_call 27; refine (run_one _ _ _ _ _ HM HO).mono ?_; rintro e w2 ⟨p1, c1, p2, c2, p3, c3, rfl, hb, HM1, HA⟩; replace HB := ext_trans HB hb; clear HO HM hb)
    | (go_at_call 27; refine (run_two _ _ _ _ _ _ _ HM1 HO HT).mono ?_; rintro e w2 ⟨p4, c4, p5, c5, p6, c6, rfl, hb, HN, HK, HS⟩; replace HB := ext_trans HB hb; replace HM1 := HM1.ext hb; replace HA := HA.ext hb; clear HO HT hb)
    | (go_at_call 12; refine (step_zero _ _ _ HM1).mono ?_; rintro e w2 ⟨p7, c7, rfl, hb⟩; replace HB := ext_trans HB hb; (try replace HM := HM.ext hb); (try replace HM1 := HM1.ext hb); (try replace HA := HA.ext hb); (try replace HO := HO.ext hb); (try replace HT := HT.ext hb); (try replace HN := HN.ext hb); (try replace HK := HK.ext hb); (try replace HS := HS.ext hb); clear hb))
  obtain ⟨b2, o2, rfl⟩ := HA.addr (by decide) (by decide)
  obtain ⟨b5, o5, rfl⟩ := HK.addr (by decide) (by decide)
  obtain ⟨b6, o6, rfl⟩ := HS.addr (by decide) (by decide)
  replace HB := ext_alloc HB (.cells #[.int .i64 0, .int .i64 0, .int .i64 0, .int .i64 0, .int .i64 0, .int .i64 0, .int .i64 0, .int .i64 0, .int .i64 0, .int .i64 0, .bool false, .int .i64 0] 25)
  replace HM1 := HM1.alloc (.cells #[.int .i64 0, .int .i64 0, .int .i64 0, .int .i64 0, .int .i64 0, .int .i64 0, .int .i64 0, .int .i64 0, .int .i64 0, .int .i64 0, .bool false, .int .i64 0] 25)
  replace HN := HN.alloc (.cells #[.int .i64 0, .int .i64 0, .int .i64 0, .int .i64 0, .int .i64 0, .int .i64 0, .int .i64 0, .int .i64 0, .int .i64 0, .int .i64 0, .bool false, .int .i64 0] 25)
  replace HA := HA.alloc (.cells #[.int .i64 0, .int .i64 0, .int .i64 0, .int .i64 0, .int .i64 0, .int .i64 0, .int .i64 0, .int .i64 0, .int .i64 0, .int .i64 0, .bool false, .int .i64 0] 25)
  replace HK := HK.alloc (.cells #[.int .i64 0, .int .i64 0, .int .i64 0, .int .i64 0, .int .i64 0, .int .i64 0, .int .i64 0, .int .i64 0, .int .i64 0, .int .i64 0, .bool false, .int .i64 0] 25)
  replace HS := HS.alloc (.cells #[.int .i64 0, .int .i64 0, .int .i64 0, .int .i64 0, .int .i64 0, .int .i64 0, .int .i64 0, .int .i64 0, .int .i64 0, .int .i64 0, .bool false, .int .i64 0] 25)
  generalize (w2.alloc (.cells #[.int .i64 0, .int .i64 0, .int .i64 0, .int .i64 0, .int .i64 0, .int .i64 0, .int .i64 0, .int .i64 0, .int .i64 0, .int .i64 0, .bool false, .int .i64 0] 25)) = w3 at *
  have q1 := aw_out HA 2 _ rfl
  have q2 := aw_out HK 0 _ rfl
  have q3 := aw_out HK 1 _ rfl
  have q4 := aw_out HS 0 _ rfl
  simp only [Nat.zero_mul, Nat.add_zero, Nat.one_mul, Nat.reduceMul] at q1 q2 q3 q4
  go_region_held3 (fun w' => w'.cell? ⟨b2, o2 + 24 + 11, none⟩ = some (.int .i64 8) ∧ w'.cell? ⟨b5, o5 + 11, none⟩ = some (.int .i64 7) ∧ w'.cell? ⟨b5, o5 + 12 + 11, none⟩ = some (.int .i64 (-1)) ∧ w'.cell? ⟨b6, o6 + 11, none⟩ = some (.int .i64 (-1)))
    (first | go_keep | exact ⟨q1, q2, q3, q4⟩)
    (first
      | (go_at_call 15; refine (tasks_one _ _ _ ?_).mono ?_; (· (repeat (first | exact HM1 | with_reducible apply Rd.drew | with_reducible apply Rd.drewN | with_reducible apply Rd.alloc))); rintro e w4 ⟨p8, c8, rfl, hb, HT⟩; have hb0 := hb; (have HM1' : Rd w4 1 p1 4 c1 (ints [0, 1, 7, 8]) := Rd.ext (by (repeat (first | exact HM1 | with_reducible apply Rd.drew | with_reducible apply Rd.drewN | with_reducible apply Rd.alloc))) hb); clear HM1; have HM1 := HM1'; clear HM1'; (have HN' : Rd w4 1 p4 4 c4 (ints [1, 1, 7, 8]) := Rd.ext (by (repeat (first | exact HN | with_reducible apply Rd.drew | with_reducible apply Rd.drewN | with_reducible apply Rd.alloc))) hb); clear HN; have HN := HN'; clear HN'; (have HA' : Rd w4 12 (some ⟨b2, o2, none⟩) 3 c2 (wkCells awA) := Rd.ext (by (repeat (first | exact HA | with_reducible apply Rd.drew | with_reducible apply Rd.drewN | with_reducible apply Rd.alloc))) hb); clear HA; have HA := HA'; clear HA'; (have HK' : Rd w4 12 (some ⟨b5, o5, none⟩) 2 c5 (wkCells awB) := Rd.ext (by (repeat (first | exact HK | with_reducible apply Rd.drew | with_reducible apply Rd.drewN | with_reducible apply Rd.alloc))) hb); clear HK; have HK := HK'; clear HK'; (have HS' : Rd w4 12 (some ⟨b6, o6, none⟩) 1 c6 (wkCells awC) := Rd.ext (by (repeat (first | exact HS | with_reducible apply Rd.drew | with_reducible apply Rd.drewN | with_reducible apply Rd.alloc))) hb); clear HS; have HS := HS'; clear HS'; (have HB' := ext_trans (by repeat (first | exact HB | with_reducible apply ext_drew | with_reducible apply ext_drewN | with_reducible apply ext_alloc)) hb); clear HB; have HB := HB'; clear HB'; have q1 := aw_out HA 2 _ rfl; have q2 := aw_out HK 0 _ rfl; have q3 := aw_out HK 1 _ rfl; have q4 := aw_out HS 0 _ rfl; simp only [Nat.zero_mul, Nat.add_zero, Nat.one_mul, Nat.reduceMul] at q1 q2 q3 q4)
      | (go_at_call 15; refine (tasks_none _ _ _ ?_).mono ?_; (· (repeat (first | exact HN | with_reducible apply Rd.drew | with_reducible apply Rd.drewN | with_reducible apply Rd.alloc))); rintro e w4 ⟨p9, c9, rfl, hb⟩; (have HM1' : Rd w4 1 p1 4 c1 (ints [0, 1, 7, 8]) := Rd.ext (by (repeat (first | exact HM1 | with_reducible apply Rd.drew | with_reducible apply Rd.drewN | with_reducible apply Rd.alloc))) hb); clear HM1; have HM1 := HM1'; clear HM1'; (have HN' : Rd w4 1 p4 4 c4 (ints [1, 1, 7, 8]) := Rd.ext (by (repeat (first | exact HN | with_reducible apply Rd.drew | with_reducible apply Rd.drewN | with_reducible apply Rd.alloc))) hb); clear HN; have HN := HN'; clear HN'; (have HA' : Rd w4 12 (some ⟨b2, o2, none⟩) 3 c2 (wkCells awA) := Rd.ext (by (repeat (first | exact HA | with_reducible apply Rd.drew | with_reducible apply Rd.drewN | with_reducible apply Rd.alloc))) hb); clear HA; have HA := HA'; clear HA'; (have HK' : Rd w4 12 (some ⟨b5, o5, none⟩) 2 c5 (wkCells awB) := Rd.ext (by (repeat (first | exact HK | with_reducible apply Rd.drew | with_reducible apply Rd.drewN | with_reducible apply Rd.alloc))) hb); clear HK; have HK := HK'; clear HK'; (have HS' : Rd w4 12 (some ⟨b6, o6, none⟩) 1 c6 (wkCells awC) := Rd.ext (by (repeat (first | exact HS | with_reducible apply Rd.drew | with_reducible apply Rd.drewN | with_reducible apply Rd.alloc))) hb); clear HS; have HS := HS'; clear HS'; (have HB' := ext_trans (by repeat (first | exact HB | with_reducible apply ext_drew | with_reducible apply ext_drewN | with_reducible apply ext_alloc)) hb); clear HB; have HB := HB'; clear HB'; have q1 := aw_out HA 2 _ rfl; have q2 := aw_out HK 0 _ rfl; have q3 := aw_out HK 1 _ rfl; have q4 := aw_out HS 0 _ rfl; simp only [Nat.zero_mul, Nat.add_zero, Nat.one_mul, Nat.reduceMul] at q1 q2 q3 q4)
      | (go_at_call 14; refine (ints_seven _ _ _ _ ?_ ?_).mono ?_; (· (repeat (first | exact HT | with_reducible apply Rd.drew | with_reducible apply Rd.drewN | with_reducible apply Rd.alloc))); (· first | exact rd_one _ 3 _ | exact Rd.drew (rd_one _ 3 _) | exact Rd.ext (rd_one _ 3 (.int .i64 7)) hb0 | exact Rd.ext (Rd.drew (rd_one _ 3 (.int .i64 7))) hb0); rintro e w4 ⟨rfl, hb⟩; clear HT; (have HM1' : Rd w4 1 p1 4 c1 (ints [0, 1, 7, 8]) := Rd.ext (by (repeat (first | exact HM1 | with_reducible apply Rd.drew | with_reducible apply Rd.drewN | with_reducible apply Rd.alloc))) hb); clear HM1; have HM1 := HM1'; clear HM1'; (have HN' : Rd w4 1 p4 4 c4 (ints [1, 1, 7, 8]) := Rd.ext (by (repeat (first | exact HN | with_reducible apply Rd.drew | with_reducible apply Rd.drewN | with_reducible apply Rd.alloc))) hb); clear HN; have HN := HN'; clear HN'; (have HA' : Rd w4 12 (some ⟨b2, o2, none⟩) 3 c2 (wkCells awA) := Rd.ext (by (repeat (first | exact HA | with_reducible apply Rd.drew | with_reducible apply Rd.drewN | with_reducible apply Rd.alloc))) hb); clear HA; have HA := HA'; clear HA'; (have HK' : Rd w4 12 (some ⟨b5, o5, none⟩) 2 c5 (wkCells awB) := Rd.ext (by (repeat (first | exact HK | with_reducible apply Rd.drew | with_reducible apply Rd.drewN | with_reducible apply Rd.alloc))) hb); clear HK; have HK := HK'; clear HK'; (have HS' : Rd w4 12 (some ⟨b6, o6, none⟩) 1 c6 (wkCells awC) := Rd.ext (by (repeat (first | exact HS | with_reducible apply Rd.drew | with_reducible apply Rd.drewN | with_reducible apply Rd.alloc))) hb); clear HS; have HS := HS'; clear HS'; (have HB' := ext_trans (by repeat (first | exact HB | with_reducible apply ext_drew | with_reducible apply ext_drewN | with_reducible apply ext_alloc)) hb); clear HB; have HB := HB'; clear HB'; have q1 := aw_out HA 2 _ rfl; have q2 := aw_out HK 0 _ rfl; have q3 := aw_out HK 1 _ rfl; have q4 := aw_out HS 0 _ rfl; simp only [Nat.zero_mul, Nat.add_zero, Nat.one_mul, Nat.reduceMul] at q1 q2 q3 q4))
  all_goals
    go_wp2_with fail
    first
    | (go_ret; exact ⟨rfl, by repeat (first | exact HB | with_reducible apply ext_drew | with_reducible apply ext_drewN | with_reducible apply ext_alloc)⟩)
end Go.Proofs.Ytdnajckhnknlcaa
