/-
  The contracts of the functions that these laws reach, part 10.
-/
import Derived.Test.YtdnajckhnknlcaaR9

/-! Run, of the program. -/
namespace Go.Proofs.Ytdnajckhnknlcaa
set_option linter.unusedVariables false
set_option linter.unusedSimpArgs false
open Go.RowKit

def RunPost27 (L n m : Nat) (R : RunR) (w : World) (e : Ending) (w' : World) : Prop :=
  ∃ p1 c1 p2 c2 p3 c3, e = .returned (.tuple #[.slice p1 L c1, .slice p2 n c2, .slice p3 m c3, .int .i64 R.e]) ∧ Below w.heap.size w w' ∧
    Rd w' 1 p1 L c1 (ints R.xs) ∧ Rd w' 12 p2 n c2 (wkCells R.own) ∧ Rd w' 12 p3 m c3 (wkCells R.all)

set_option maxHeartbeats 4000000 in
theorem run27_odd (pm p q pk : Option Addr) (L cm n c m d np cp : Nat) (at_ room : Int) (xs : List Int) (own all : List Wk) (w : World)
    (hm : Rd w 1 pm L cm (ints xs)) (ho : Rd w 12 p n c (wkCells own)) (ha : Rd w 12 q m d (wkCells all))
    (hn : n ≤ 1000) (hm1 : m ≤ 999) (hL : L ≤ 100000) (hodd : oddF own all = true) :
    Calls Try.prog 27 #[.slice pm L cm, .int .i64 at_, .int .i64 room, .slice pk np cp, .slice p n c, .slice q m d] w (RunPost27 L n m ⟨1, xs, own, all⟩ w) := by
  have HM := Lib.hid hm
  have HO := Lib.hid ho
  have HA := Lib.hid ha
  have HODD := Lib.hid hodd
  have H1 := Lib.hid (ints_one xs)
  have H2 := Lib.hid (wk_one own)
  have H3 := Lib.hid (wk_one all)
  clear hm ho ha hodd
  go_enter Try.func27, Try.ntmps27
  go_wp2_with (go_at_call 39; go_must (refine (own39 p q n m c d own all _ HO.out HA.out hn (by omega)).mono ?_; rintro e w1 ⟨p1, c1, p2, c2, B, rfl, hb1, ho1, ha1, hap, hle⟩))
  refine (odd40 p1 p2 n m c1 c2 own all _ ((rd_fr_of_owns ho1 (Nat.le_refl _)).1.alloc _) ((rd_fr_of_owns ha1 (Nat.le_refl _)).1.alloc _) hn (by omega)).mono ?_
  rintro e w2 ⟨rfl, hb2⟩
  rw [HODD.out]
  go_wp2_with fail
  refine (clone_int pm L cm (ints xs) _ ?_ H1.out (by omega)).mono ?_
  · exact ((HM.out.ext hb1).alloc _).ext hb2
  rintro e w3 ⟨p3, c3, rfl, hb3, ho3⟩
  go_wp2_with fail
  refine (clone_wk p n c (wkCells own) _ ?_ H2.out (by omega)).mono ?_
  · exact (((HO.out.ext hb1).alloc _).ext hb2).ext hb3
  rintro e w4 ⟨p4, c4, rfl, hb4, ho4⟩
  go_wp2_with fail
  refine (clone_wk q m d (wkCells all) _ ?_ H3.out (by omega)).mono ?_
  · exact ((((HA.out.ext hb1).alloc _).ext hb2).ext hb3).ext hb4
  rintro e w5 ⟨p5, c5, rfl, hb5, ho5⟩
  go_wp2_with fail
  refine bodyPost_ret (v := .tuple #[.slice p3 L c3, .slice p4 n c4, .slice p5 m c5, .int .i64 1]) (by simp [results, Try.results27, go_sem]) rfl ⟨p3, c3, p4, c4, p5, c5, rfl, ?_, ?_, ?_, ?_⟩
  · exact ext_trans (ext_trans (ext_trans (ext_trans (ext_alloc hb1 _) hb2) hb3) hb4) hb5
  · exact ((rd_fr_of_owns ho3 (Nat.le_refl _)).1.ext hb4).ext hb5
  · exact (rd_fr_of_owns ho4 (Nat.le_refl _)).1.ext hb5
  · exact (rd_fr_of_owns ho5 (Nat.le_refl _)).1

end Go.Proofs.Ytdnajckhnknlcaa
