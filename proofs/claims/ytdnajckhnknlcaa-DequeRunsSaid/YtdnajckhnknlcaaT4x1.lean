/-
  What this law needs beside the contracts, part 1.
-/
import Derived.Test.YtdnajckhnknlcaaR14

/-! The walk of the law on runs. -/
namespace Go.Proofs.Ytdnajckhnknlcaa
set_option linter.unusedVariables false
set_option linter.unusedSimpArgs false
open Go.RowKit

theorem ints_same (p q : Option Addr) (n c d : Nat) (xs : List Int) (w : World) (hx : Rd w 1 p n c (ints xs)) (hy : Rd w 1 q n d (ints xs)) (hn : n ≤ 1000000) :
    Calls Try.prog 14 #[.slice p n c, .slice q n d] w fun e w' => e = .returned (.bool true) ∧ Below w.heap.size w w' :=
  (ints_any p q n n c d xs xs w hx hy hn hn).mono fun e w' ⟨h1, h2⟩ => ⟨by rw [h1]; simp, ext_of_drewN h2⟩
theorem wks_same (p q : Option Addr) (n c d : Nat) (xs : List Wk) (w : World) (hx : Rd w 12 p n c (wkCells xs)) (hy : Rd w 12 q n d (wkCells xs)) (hn : n ≤ 1000000) :
    Calls Try.prog 29 #[.slice p n c, .slice q n d] w fun e w' => e = .returned (.bool true) ∧ Below w.heap.size w w' :=
  (same29 p q n n c d xs xs w hx hy hn hn).mono fun e w' ⟨h1, h2⟩ => ⟨by rw [h1]; simp, ext_of_drewN h2⟩

set_option maxHeartbeats 4000000 in
set_option maxRecDepth 100000 in
theorem runs4 (room thieves : Int) (raw picks more : List Int) (pr pk pq : Option Addr) (nr cr np cp nq cq : Nat) (w : World) (h1 : -9223372036854775808 ≤ room) (h2 : room ≤ 9223372036854775807) (h3 : -9223372036854775808 ≤ thieves) (h4 : thieves ≤ 9223372036854775807)
    (hr : Rd w 1 pr nr cr (ints raw)) (hk : Rd w 1 pk np cp (ints picks)) (hq : Rd w 1 pq nq cq (ints more)) (br : Bd raw) (bk : Bd picks) (bq : Bd more) :
    Calls Try.prog 4 #[.int .i64 room, .slice pr nr cr, .int .i64 thieves, .slice pk np cp, .slice pq nq cq] w fun e w' => e = .returned (.bool true) ∧ Below w.heap.size w w' := by
  obtain ⟨r, hrr⟩ : ∃ r : Nat, pickF room 5 = (r : Int) := ⟨(pickF room 5).toNat, by have := pickF_lo room 5 (by decide); omega⟩
  obtain ⟨t, htt⟩ : ∃ t : Nat, pickF thieves 9 = (t : Int) := ⟨(pickF thieves 9).toNat, by have := pickF_lo thieves 9 (by decide); omega⟩
  have hr5 : r < 5 := by have := pickF_hi room 5 (by decide); omega
  have ht9 : t < 9 := by have := pickF_hi thieves 9 (by decide); omega
  have HRR := Lib.hid hrr
  have HTT := Lib.hid htt
  have HR := Lib.hid hr
  have HK := Lib.hid hk
  have HQ := Lib.hid hq
  have BR := Lib.hid br
  have BK := Lib.hid bk
  have BQ := Lib.hid bq
  clear hrr htt hr hk hq br bk bq
  go_enter Try.func4, Try.ntmps4
  go_wp2_with (first
    | (go_at_call 10; go_must (refine (awake10 _).mono ?_; rintro e w1 ⟨rfl, HW1⟩))
    | (go_at_call 11; go_must (refine (pick11 _ _ _ h1 h2 (by decide) (by decide)).mono ?_; rintro e w2 ⟨rfl, rfl⟩; rw [HRR.out])))
  rw [show (1 + (r : Int)) = ((r + 1 : Nat) : Int) by omega]
  refine (new_18 (r + 1) _ (by omega) (by omega)).mono ?_
  rintro e w2 ⟨pm, cm, rfl, hb2, ho2⟩
  have HM0 := Lib.hid (rd_fr_of_owns ho2 (Nat.le_refl _)).1
  have HW0 := Lib.hid (ext_trans HW1 hb2)
  clear ho2 hb2 HW1
  go_wp2_with fail
  go_loopw [13, 14] (fun v13 v14 wr => ∃ (i : Nat) (pm : Option Addr) (cm : Nat) (xs : List Int), i ≤ 2 ∧ v14 = .int .i64 (i : Int) ∧ v13 = .slice pm (r + 1 + 2) cm ∧ Rd wr 1 pm (r + 1 + 2) cm (ints xs) ∧ Below w.heap.size w wr) (fun _ v14 _ => 2 - (intOf v14).toNat)
  case atStart => exact ⟨0, pm, cm, _, by omega, rfl, rfl, HM0.out, HW0.out⟩
  case round =>
    obtain ⟨i, pm, cm, xs, hi, rfl, rfl, hm, HW⟩ := hrel
    have HM := Lib.hid hm
    clear hm
    by_cases h2i : i = 2
    · subst h2i
      go_wp2_with fail
      go_ret
      exact ⟨rfl, HW⟩
    · by_cases h1i : i = 1
      · subst h1i
        go_wp2_with (first
          | (go_at_call_of 25 (Value.int .i64 100); go_must (refine (owner25 pr nr cr raw 100 _ (HR.out.ext HW) BR.out (by decide) (by decide)).mono ?_; rintro e w3 ⟨v3, rfl, hb3, ho3⟩; have hE3 := ext_trans HW hb3))
          | (go_at_call_of 25 (Value.int .i64 200); go_must (refine (owner25 pq nq cq more 200 _ (HQ.out.ext hE3) BQ.out (by decide) (by decide)).mono ?_; rintro e w4 ⟨v4, rfl, hb4, ho4⟩; have hE4 := ext_trans hE3 hb4; have hF4 := ext_trans hb3 hb4; obtain ⟨po, co, rfl, hro, _⟩ := Rd.of_owns ho4))
          | (go_at_call 11; go_must (refine (pick11 _ _ _ h3 h4 (by decide) (by decide)).mono ?_; rintro e w5 ⟨rfl, rfl⟩; rw [HTT.out]))
          | (go_at_call 26; go_must (refine (steals26 t _ (by omega)).mono ?_; rintro e w5 ⟨v5, rfl, hb5, ho5⟩; obtain ⟨pt, ct, rfl, hrt, _⟩ := Rd.of_owns ho5; have hE5 := ext_trans hE4 hb5; have hF5 := ext_trans hF4 hb5))
          | (go_at_call 27; go_must (refine (run27_any pm po pt pk (r + 1 + 2) cm (min nq 14) co t ct np cp 0 ((r + 1 : Nat) : Int) picks xs (ownerF more 200) (List.replicate t stealF) _ (HM.out.ext hF5) (hro.ext hb5) hrt (HK.out.ext hE5) BK.out (by omega) (by omega) (by omega)).mono ?_; rintro e w6 ⟨p1, c1, p2, c2, p3, c3, rfl, hb6, g1, g2, g3⟩))
          | (go_at_call 28; go_must (refine (rrun28_any pm po pt pk (r + 1 + 2) cm (min nq 14) co t ct np cp 0 ((r + 1 : Nat) : Int) picks xs (ownerF more 200) (List.replicate t stealF) _ (HM.out.ext (ext_trans hF5 hb6)) (hro.ext (ext_trans hb5 hb6)) (hrt.ext hb6) (HK.out.ext (ext_trans hE5 hb6)) BK.out (by omega) (by omega) (by omega)).mono ?_; rintro e w7 ⟨p4, c4, p5, c5, p6, c6, rfl, hb7, g4, g5, g6⟩))
          | (go_at_call 14; go_must (refine (ints_same _ _ _ _ _ _ _ (g1.ext hb7) g4 (by omega)).mono ?_; rintro e w8 ⟨rfl, hb8⟩))
          | (go_at_call_of 29 (Value.slice p2 (min nq 14) c2); go_must (refine (wks_same _ _ _ _ _ _ _ (g2.ext (ext_trans hb7 hb8)) (g5.ext hb8) (by omega)).mono ?_; rintro e w9 ⟨rfl, hb9⟩))
          | (go_at_call_of 29 (Value.slice p3 t c3); go_must (refine (wks_same _ _ _ _ _ _ _ (g3.ext (ext_trans hb7 (ext_trans hb8 hb9))) (g6.ext (ext_trans hb8 hb9)) (by omega)).mono ?_; rintro e w10 ⟨rfl, hb10⟩)))
        go_roundw
        case rel => exact ⟨2, p4, c4, _, by omega, by go_num, rfl, g4.ext (ext_trans hb8 (ext_trans hb9 hb10)), ext_trans hE5 (ext_trans hb6 (ext_trans hb7 (ext_trans hb8 (ext_trans hb9 hb10))))⟩
        case measure => simp [intOf]
      · have h0i : i = 0 := by omega
        subst h0i
        go_wp2_with (first
          | (go_at_call_of 25 (Value.int .i64 100); go_must (refine (owner25 pr nr cr raw 100 _ (HR.out.ext HW) BR.out (by decide) (by decide)).mono ?_; rintro e w3 ⟨v3, rfl, hb3, ho3⟩; have hE4 := ext_trans HW hb3; have hF4 := hb3; obtain ⟨po, co, rfl, hro, _⟩ := Rd.of_owns ho3))
          | (go_at_call 11; go_must (refine (pick11 _ _ _ h3 h4 (by decide) (by decide)).mono ?_; rintro e w5 ⟨rfl, rfl⟩; rw [HTT.out]))
          | (go_at_call 26; go_must (refine (steals26 t _ (by omega)).mono ?_; rintro e w5 ⟨v5, rfl, hb5, ho5⟩; obtain ⟨pt, ct, rfl, hrt, _⟩ := Rd.of_owns ho5; have hE5 := ext_trans hE4 hb5; have hF5 := ext_trans hF4 hb5))
          | (go_at_call 27; go_must (refine (run27_any pm po pt pk (r + 1 + 2) cm (min nr 14) co t ct np cp 0 ((r + 1 : Nat) : Int) picks xs (ownerF raw 100) (List.replicate t stealF) _ (HM.out.ext hF5) (hro.ext hb5) hrt (HK.out.ext hE5) BK.out (by omega) (by omega) (by omega)).mono ?_; rintro e w6 ⟨p1, c1, p2, c2, p3, c3, rfl, hb6, g1, g2, g3⟩))
          | (go_at_call 28; go_must (refine (rrun28_any pm po pt pk (r + 1 + 2) cm (min nr 14) co t ct np cp 0 ((r + 1 : Nat) : Int) picks xs (ownerF raw 100) (List.replicate t stealF) _ (HM.out.ext (ext_trans hF5 hb6)) (hro.ext (ext_trans hb5 hb6)) (hrt.ext hb6) (HK.out.ext (ext_trans hE5 hb6)) BK.out (by omega) (by omega) (by omega)).mono ?_; rintro e w7 ⟨p4, c4, p5, c5, p6, c6, rfl, hb7, g4, g5, g6⟩))
          | (go_at_call 14; go_must (refine (ints_same _ _ _ _ _ _ _ (g1.ext hb7) g4 (by omega)).mono ?_; rintro e w8 ⟨rfl, hb8⟩))
          | (go_at_call_of 29 (Value.slice p2 (min nr 14) c2); go_must (refine (wks_same _ _ _ _ _ _ _ (g2.ext (ext_trans hb7 hb8)) (g5.ext hb8) (by omega)).mono ?_; rintro e w9 ⟨rfl, hb9⟩))
          | (go_at_call_of 29 (Value.slice p3 t c3); go_must (refine (wks_same _ _ _ _ _ _ _ (g3.ext (ext_trans hb7 (ext_trans hb8 hb9))) (g6.ext (ext_trans hb8 hb9)) (by omega)).mono ?_; rintro e w10 ⟨rfl, hb10⟩)))
        go_roundw
        case rel => exact ⟨1, p4, c4, _, by omega, by go_num, rfl, g4.ext (ext_trans hb8 (ext_trans hb9 hb10)), ext_trans hE5 (ext_trans hb6 (ext_trans hb7 (ext_trans hb8 (ext_trans hb9 hb10))))⟩
        case measure => simp [intOf]

end Go.Proofs.Ytdnajckhnknlcaa
