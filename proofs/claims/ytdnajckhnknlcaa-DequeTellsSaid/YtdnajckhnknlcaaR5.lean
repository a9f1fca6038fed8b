/-
  The contracts of the functions that these laws reach, part 5.
-/
import Derived.Test.YtdnajckhnknlcaaR4
import Derived.LoopTactic

/-! One step of a worker, in the reference: what stepF says. -/
namespace Go.Proofs.Ytdnajckhnknlcaa
set_option linter.unusedVariables false
set_option linter.unusedSimpArgs false
open Go.RowKit

theorem rdo_any (p : Option Addr) (c : Nat) (xs : List Int) (kind at_ old new : Int) (w : World) (hr : Rd w 1 p xs.length c (ints xs)) (hk : kind = 1 ∨ kind = 2 ∨ kind = 3) (hlen : xs.length ≤ 100000) :
    Calls Try.prog 35 #[.slice p xs.length c, .agg #[.int .i64 kind, .int .i64 at_, .int .i64 old, .int .i64 new]] w fun e w' =>
      ∃ p' c', e = .returned (.tuple #[.slice p' xs.length c', .int .i64 (doF xs kind at_ old new).x, .bool (doF xs kind at_ old new).done, .int .i64 (doF xs kind at_ old new).e]) ∧ Below w.heap.size w w' ∧
        w'.ownsRow w.heap.size 3 1 (.slice p' xs.length c') xs.length (ints (doF xs kind at_ old new).xs) := by
  by_cases h1 : at_ < 0 ∨ (xs.length : Int) ≤ at_
  · have e : doF xs kind at_ old new = ⟨2, xs, 0, false⟩ := by simp only [doF]; rw [if_pos h1]
    rw [e]
    by_cases hn : at_ < 0
    · exact rdo_neg p c xs kind at_ old new (by omega) (by omega) hn w hr hlen
    · exact rdo_far p c xs kind at_ old new (by omega) (by omega) (by omega) (by omega) w hr hlen
  · obtain ⟨i, rfl⟩ := Int.eq_ofNat_of_zero_le (show 0 ≤ at_ by omega)
    have hi : i < xs.length := by omega
    have hx := ints_get xs i hi
    by_cases h2 : kind ≠ 1 ∧ within new = false
    · have e : doF xs kind (i : Int) old new = ⟨2, xs, 0, false⟩ := by simp only [doF]; rw [if_neg h1, if_pos h2]
      rw [e]
      rcases hk with rfl | rfl | rfl
      · exact absurd rfl h2.1
      · exact rdo_unfit2 p c xs i hi _ hx old new h2.2 w hr hlen
      · exact rdo_unfit3 p c xs i hi _ hx old new h2.2 w hr hlen
    · by_cases h3 : kind = 1
      · subst h3
        have e : doF xs 1 (i : Int) old new = ⟨0, xs, xs.getD i 0, true⟩ := by simp only [doF]; rw [if_neg h1, if_neg h2, if_pos trivial]; simp
        rw [e]
        exact rdo_load p c xs i hi _ hx old new w hr hlen
      · have hw : within new = true := by
          cases hw : within new with
          | true => rfl
          | false => exact absurd ⟨h3, hw⟩ h2
        by_cases h4 : kind = 3 ∧ xs.getD i 0 ≠ old
        · have e : doF xs kind (i : Int) old new = ⟨0, xs, xs.getD i 0, false⟩ := by simp only [doF]; rw [if_neg h1, if_neg h2, if_neg h3, if_pos (by simpa using h4)]; simp
          obtain ⟨rfl, h4⟩ := h4
          rw [e]
          exact rdo_swapno p c xs i hi _ hx old new hw (by simpa using h4) w hr hlen
        · have e : doF xs kind (i : Int) old new = ⟨0, xs.set i new, xs.getD i 0, true⟩ := by simp only [doF]; rw [if_neg h1, if_neg h2, if_neg h3, if_neg (by simpa using h4)]; simp
          rcases hk with hk | rfl | rfl
          · exact absurd hk h3
          · rw [e]
            exact rdo_write p c xs i hi _ hx old new hw w hr hlen
          · rw [e]
            exact rdo_swapyes p c xs i hi _ hx old new hw (by have h5 : xs.getD i 0 = old := Classical.byContradiction fun h => h4 ⟨rfl, h⟩; simpa using h5) w hr hlen

def RStepPost (W : World) (xs : List Int) (s : StR) (e : Ending) (w' : World) : Prop :=
  ∃ p' c', e = .returned (.tuple #[.slice p' xs.length c', s.x.v, .int .i64 s.e]) ∧ Below W.heap.size W w' ∧ Rd w' 1 p' xs.length c' (ints s.xs) ∧ (s.e = 0 → Fr W.heap.size p')

theorem rok {args : Array Value} {w : World} {xs : List Int} {s : StR} (he : s.e = 0) (h : Calls Try.prog 13 args w fun e w' => ∃ p' c', e = .returned (.tuple #[.slice p' xs.length c', s.x.v, .int .i64 s.e]) ∧ Below w.heap.size w w' ∧ Rd w' 1 p' xs.length c' (ints s.xs) ∧ Fr w.heap.size p') :
    Calls Try.prog 13 args w (RStepPost w xs s) := h.mono fun _ _ ⟨p', c', h1, h2, h3, h4⟩ => ⟨p', c', h1, h2, h3, fun _ => h4⟩
theorem rbad {args : Array Value} {w : World} {xs : List Int} {s : StR} {E : Int} (he : s.e = E) (hE : E ≠ 0) (h : Calls Try.prog 13 args w fun e w' => ∃ p' c', e = .returned (.tuple #[.slice p' xs.length c', s.x.v, .int .i64 s.e]) ∧ Below w.heap.size w w' ∧ Rd w' 1 p' xs.length c' (ints s.xs)) :
    Calls Try.prog 13 args w (RStepPost w xs s) := h.mono fun _ _ ⟨p', c', h1, h2, h3⟩ => ⟨p', c', h1, h2, h3, fun h0 => absurd (he.symm.trans h0) hE⟩

theorem rstep_7_0 (p : Option Addr) (c : Nat) (xs : List Int) (at_ room : Int) (r0 r1 r2 r3 r4 r5 r6 r7 out : Int) (w : World) (hr : Rd w 1 p xs.length c (ints xs)) (hlen : xs.length ≤ 100000) (hr1 : 1 ≤ room) (hr2 : room ≤ 1000) (hat : 0 ≤ at_) :
    Calls Try.prog 13 #[.slice p xs.length c, .int .i64 at_, .int .i64 room, (⟨0, 7, r0, r1, r2, r3, r4, r5, r6, r7, false, out⟩ : Wk).v] w (RStepPost w xs (stepF xs at_ room ⟨0, 7, r0, r1, r2, r3, r4, r5, r6, r7, false, out⟩)) := by
  have hs := stepF_some xs at_ room ⟨0, 7, r0, r1, r2, r3, r4, r5, r6, r7, false, out⟩ 1 (wrap64 (at_ + 1)) 0 0 hr1 hr2 hat rfl rfl
  have hacc := fun W => acc_7_0 at_ room hr1 hr2 hat r0 r1 r2 r3 r4 r5 r6 r7 out W
  have hdo := fun W hR => rdo_any p c xs 1 (wrap64 (at_ + 1)) 0 0 W hR (by omega) hlen
  rcases doF_e xs 1 (wrap64 (at_ + 1)) 0 0 with h0 | h2
  · rw [hs, if_neg (by rw [h0]; simp)]
    exact rok rfl (rstep_ok_7 p c xs at_ room 0 r0 r1 r2 r3 r4 r5 r6 r7 out w hr hlen hr1 hr2 hat 1 (wrap64 (at_ + 1)) 0 0 hacc (doF xs 1 (wrap64 (at_ + 1)) 0 0) h0 (doF_len _ _ _ _ _) hdo (behF ⟨0, 7, r0, r1, r2, r3, r4, r5, r6, r7, false, out⟩ (doF xs 1 (wrap64 (at_ + 1)) 0 0) room) (fun W => beh_7_0 room r0 r1 r2 r3 r4 r5 r6 r7 out (doF xs 1 (wrap64 (at_ + 1)) 0 0).e (doF xs 1 (wrap64 (at_ + 1)) 0 0).xs (doF xs 1 (wrap64 (at_ + 1)) 0 0).x (doF xs 1 (wrap64 (at_ + 1)) 0 0).done W))
  · rw [hs, if_pos (by rw [h2]; simp), h2]
    exact rbad (E := 2) rfl (by decide) (rstep_err p c xs at_ room 0 7 r0 r1 r2 r3 r4 r5 r6 r7 out w hr hlen hr1 hr2 hat 1 (wrap64 (at_ + 1)) 0 0 hacc (doF xs 1 (wrap64 (at_ + 1)) 0 0) h2 (doF_len _ _ _ _ _) hdo)

theorem rstep_7_1 (p : Option Addr) (c : Nat) (xs : List Int) (at_ room : Int) (r0 r1 r2 r3 r4 r5 r6 r7 out : Int) (w : World) (hr : Rd w 1 p xs.length c (ints xs)) (hlen : xs.length ≤ 100000) (hr1 : 1 ≤ room) (hr2 : room ≤ 1000) (hat : 0 ≤ at_) :
    Calls Try.prog 13 #[.slice p xs.length c, .int .i64 at_, .int .i64 room, (⟨1, 7, r0, r1, r2, r3, r4, r5, r6, r7, false, out⟩ : Wk).v] w (RStepPost w xs (stepF xs at_ room ⟨1, 7, r0, r1, r2, r3, r4, r5, r6, r7, false, out⟩)) := by
  have hs := stepF_some xs at_ room ⟨1, 7, r0, r1, r2, r3, r4, r5, r6, r7, false, out⟩ 1 at_ 0 0 hr1 hr2 hat rfl rfl
  have hacc := fun W => acc_7_1 at_ room hr1 hr2 hat r0 r1 r2 r3 r4 r5 r6 r7 out W
  have hdo := fun W hR => rdo_any p c xs 1 at_ 0 0 W hR (by omega) hlen
  rcases doF_e xs 1 at_ 0 0 with h0 | h2
  · rw [hs, if_neg (by rw [h0]; simp)]
    exact rok rfl (rstep_ok_7 p c xs at_ room 1 r0 r1 r2 r3 r4 r5 r6 r7 out w hr hlen hr1 hr2 hat 1 at_ 0 0 hacc (doF xs 1 at_ 0 0) h0 (doF_len _ _ _ _ _) hdo (behF ⟨1, 7, r0, r1, r2, r3, r4, r5, r6, r7, false, out⟩ (doF xs 1 at_ 0 0) room) (fun W => beh_7_1 room r0 r1 r2 r3 r4 r5 r6 r7 out (doF xs 1 at_ 0 0).e (doF xs 1 at_ 0 0).xs (doF xs 1 at_ 0 0).x (doF xs 1 at_ 0 0).done W))
  · rw [hs, if_pos (by rw [h2]; simp), h2]
    exact rbad (E := 2) rfl (by decide) (rstep_err p c xs at_ room 1 7 r0 r1 r2 r3 r4 r5 r6 r7 out w hr hlen hr1 hr2 hat 1 at_ 0 0 hacc (doF xs 1 at_ 0 0) h2 (doF_len _ _ _ _ _) hdo)

theorem rstep_7_2 (p : Option Addr) (c : Nat) (xs : List Int) (at_ room : Int) (r0 r1 r2 r3 r4 r5 r6 r7 out : Int) (w : World) (hr : Rd w 1 p xs.length c (ints xs)) (hlen : xs.length ≤ 100000) (hr1 : 1 ≤ room) (hr2 : room ≤ 1000) (hat : 0 ≤ at_) :
    Calls Try.prog 13 #[.slice p xs.length c, .int .i64 at_, .int .i64 room, (⟨2, 7, r0, r1, r2, r3, r4, r5, r6, r7, false, out⟩ : Wk).v] w (RStepPost w xs (stepF xs at_ room ⟨2, 7, r0, r1, r2, r3, r4, r5, r6, r7, false, out⟩)) := by
  have hs := stepF_some xs at_ room ⟨2, 7, r0, r1, r2, r3, r4, r5, r6, r7, false, out⟩ 2 (placeF at_ room r1) 0 r0 hr1 hr2 hat rfl rfl
  have hacc := fun W => acc_7_2 at_ room hr1 hr2 hat r0 r1 r2 r3 r4 r5 r6 r7 out W
  have hdo := fun W hR => rdo_any p c xs 2 (placeF at_ room r1) 0 r0 W hR (by omega) hlen
  rcases doF_e xs 2 (placeF at_ room r1) 0 r0 with h0 | h2
  · rw [hs, if_neg (by rw [h0]; simp)]
    exact rok rfl (rstep_ok_7 p c xs at_ room 2 r0 r1 r2 r3 r4 r5 r6 r7 out w hr hlen hr1 hr2 hat 2 (placeF at_ room r1) 0 r0 hacc (doF xs 2 (placeF at_ room r1) 0 r0) h0 (doF_len _ _ _ _ _) hdo (behF ⟨2, 7, r0, r1, r2, r3, r4, r5, r6, r7, false, out⟩ (doF xs 2 (placeF at_ room r1) 0 r0) room) (fun W => beh_7_2 room r0 r1 r2 r3 r4 r5 r6 r7 out (doF xs 2 (placeF at_ room r1) 0 r0).e (doF xs 2 (placeF at_ room r1) 0 r0).xs (doF xs 2 (placeF at_ room r1) 0 r0).x (doF xs 2 (placeF at_ room r1) 0 r0).done W))
  · rw [hs, if_pos (by rw [h2]; simp), h2]
    exact rbad (E := 2) rfl (by decide) (rstep_err p c xs at_ room 2 7 r0 r1 r2 r3 r4 r5 r6 r7 out w hr hlen hr1 hr2 hat 2 (placeF at_ room r1) 0 r0 hacc (doF xs 2 (placeF at_ room r1) 0 r0) h2 (doF_len _ _ _ _ _) hdo)

theorem rstep_7_3 (p : Option Addr) (c : Nat) (xs : List Int) (at_ room : Int) (r0 r1 r2 r3 r4 r5 r6 r7 out : Int) (w : World) (hr : Rd w 1 p xs.length c (ints xs)) (hlen : xs.length ≤ 100000) (hr1 : 1 ≤ room) (hr2 : room ≤ 1000) (hat : 0 ≤ at_) :
    Calls Try.prog 13 #[.slice p xs.length c, .int .i64 at_, .int .i64 room, (⟨3, 7, r0, r1, r2, r3, r4, r5, r6, r7, false, out⟩ : Wk).v] w (RStepPost w xs (stepF xs at_ room ⟨3, 7, r0, r1, r2, r3, r4, r5, r6, r7, false, out⟩)) := by
  have hs := stepF_some xs at_ room ⟨3, 7, r0, r1, r2, r3, r4, r5, r6, r7, false, out⟩ 2 (wrap64 (at_ + 1)) 0 (wrap64 (r1 + 1)) hr1 hr2 hat rfl rfl
  have hacc := fun W => acc_7_3 at_ room hr1 hr2 hat r0 r1 r2 r3 r4 r5 r6 r7 out W
  have hdo := fun W hR => rdo_any p c xs 2 (wrap64 (at_ + 1)) 0 (wrap64 (r1 + 1)) W hR (by omega) hlen
  rcases doF_e xs 2 (wrap64 (at_ + 1)) 0 (wrap64 (r1 + 1)) with h0 | h2
  · rw [hs, if_neg (by rw [h0]; simp)]
    exact rok rfl (rstep_ok_7 p c xs at_ room 3 r0 r1 r2 r3 r4 r5 r6 r7 out w hr hlen hr1 hr2 hat 2 (wrap64 (at_ + 1)) 0 (wrap64 (r1 + 1)) hacc (doF xs 2 (wrap64 (at_ + 1)) 0 (wrap64 (r1 + 1))) h0 (doF_len _ _ _ _ _) hdo (behF ⟨3, 7, r0, r1, r2, r3, r4, r5, r6, r7, false, out⟩ (doF xs 2 (wrap64 (at_ + 1)) 0 (wrap64 (r1 + 1))) room) (fun W => beh_7_3 room r0 r1 r2 r3 r4 r5 r6 r7 out (doF xs 2 (wrap64 (at_ + 1)) 0 (wrap64 (r1 + 1))).e (doF xs 2 (wrap64 (at_ + 1)) 0 (wrap64 (r1 + 1))).xs (doF xs 2 (wrap64 (at_ + 1)) 0 (wrap64 (r1 + 1))).x (doF xs 2 (wrap64 (at_ + 1)) 0 (wrap64 (r1 + 1))).done W))
  · rw [hs, if_pos (by rw [h2]; simp), h2]
    exact rbad (E := 2) rfl (by decide) (rstep_err p c xs at_ room 3 7 r0 r1 r2 r3 r4 r5 r6 r7 out w hr hlen hr1 hr2 hat 2 (wrap64 (at_ + 1)) 0 (wrap64 (r1 + 1)) hacc (doF xs 2 (wrap64 (at_ + 1)) 0 (wrap64 (r1 + 1))) h2 (doF_len _ _ _ _ _) hdo)

theorem rstep_6_0 (p : Option Addr) (c : Nat) (xs : List Int) (at_ room : Int) (r0 r1 r2 r3 r4 r5 r6 r7 out : Int) (w : World) (hr : Rd w 1 p xs.length c (ints xs)) (hlen : xs.length ≤ 100000) (hr1 : 1 ≤ room) (hr2 : room ≤ 1000) (hat : 0 ≤ at_) :
    Calls Try.prog 13 #[.slice p xs.length c, .int .i64 at_, .int .i64 room, (⟨0, 6, r0, r1, r2, r3, r4, r5, r6, r7, false, out⟩ : Wk).v] w (RStepPost w xs (stepF xs at_ room ⟨0, 6, r0, r1, r2, r3, r4, r5, r6, r7, false, out⟩)) := by
  have hs := stepF_some xs at_ room ⟨0, 6, r0, r1, r2, r3, r4, r5, r6, r7, false, out⟩ 1 (wrap64 (at_ + 1)) 0 0 hr1 hr2 hat rfl rfl
  have hacc := fun W => acc_6_0 at_ room hr1 hr2 hat r0 r1 r2 r3 r4 r5 r6 r7 out W
  have hdo := fun W hR => rdo_any p c xs 1 (wrap64 (at_ + 1)) 0 0 W hR (by omega) hlen
  rcases doF_e xs 1 (wrap64 (at_ + 1)) 0 0 with h0 | h2
  · rw [hs, if_neg (by rw [h0]; simp)]
    exact rok rfl (rstep_ok_6 p c xs at_ room 0 r0 r1 r2 r3 r4 r5 r6 r7 out w hr hlen hr1 hr2 hat 1 (wrap64 (at_ + 1)) 0 0 hacc (doF xs 1 (wrap64 (at_ + 1)) 0 0) h0 (doF_len _ _ _ _ _) hdo (behF ⟨0, 6, r0, r1, r2, r3, r4, r5, r6, r7, false, out⟩ (doF xs 1 (wrap64 (at_ + 1)) 0 0) room) (fun W => beh_6_0 room r0 r1 r2 r3 r4 r5 r6 r7 out (doF xs 1 (wrap64 (at_ + 1)) 0 0).e (doF xs 1 (wrap64 (at_ + 1)) 0 0).xs (doF xs 1 (wrap64 (at_ + 1)) 0 0).x (doF xs 1 (wrap64 (at_ + 1)) 0 0).done W))
  · rw [hs, if_pos (by rw [h2]; simp), h2]
    exact rbad (E := 2) rfl (by decide) (rstep_err p c xs at_ room 0 6 r0 r1 r2 r3 r4 r5 r6 r7 out w hr hlen hr1 hr2 hat 1 (wrap64 (at_ + 1)) 0 0 hacc (doF xs 1 (wrap64 (at_ + 1)) 0 0) h2 (doF_len _ _ _ _ _) hdo)

theorem rstep_6_1 (p : Option Addr) (c : Nat) (xs : List Int) (at_ room : Int) (r0 r1 r2 r3 r4 r5 r6 r7 out : Int) (w : World) (hr : Rd w 1 p xs.length c (ints xs)) (hlen : xs.length ≤ 100000) (hr1 : 1 ≤ room) (hr2 : room ≤ 1000) (hat : 0 ≤ at_) :
    Calls Try.prog 13 #[.slice p xs.length c, .int .i64 at_, .int .i64 room, (⟨1, 6, r0, r1, r2, r3, r4, r5, r6, r7, false, out⟩ : Wk).v] w (RStepPost w xs (stepF xs at_ room ⟨1, 6, r0, r1, r2, r3, r4, r5, r6, r7, false, out⟩)) := by
  have hs := stepF_some xs at_ room ⟨1, 6, r0, r1, r2, r3, r4, r5, r6, r7, false, out⟩ 2 (wrap64 (at_ + 1)) 0 r1 hr1 hr2 hat rfl rfl
  have hacc := fun W => acc_6_1 at_ room hr1 hr2 hat r0 r1 r2 r3 r4 r5 r6 r7 out W
  have hdo := fun W hR => rdo_any p c xs 2 (wrap64 (at_ + 1)) 0 r1 W hR (by omega) hlen
  rcases doF_e xs 2 (wrap64 (at_ + 1)) 0 r1 with h0 | h2
  · rw [hs, if_neg (by rw [h0]; simp)]
    exact rok rfl (rstep_ok_6 p c xs at_ room 1 r0 r1 r2 r3 r4 r5 r6 r7 out w hr hlen hr1 hr2 hat 2 (wrap64 (at_ + 1)) 0 r1 hacc (doF xs 2 (wrap64 (at_ + 1)) 0 r1) h0 (doF_len _ _ _ _ _) hdo (behF ⟨1, 6, r0, r1, r2, r3, r4, r5, r6, r7, false, out⟩ (doF xs 2 (wrap64 (at_ + 1)) 0 r1) room) (fun W => beh_6_1 room r0 r1 r2 r3 r4 r5 r6 r7 out (doF xs 2 (wrap64 (at_ + 1)) 0 r1).e (doF xs 2 (wrap64 (at_ + 1)) 0 r1).xs (doF xs 2 (wrap64 (at_ + 1)) 0 r1).x (doF xs 2 (wrap64 (at_ + 1)) 0 r1).done W))
  · rw [hs, if_pos (by rw [h2]; simp), h2]
    exact rbad (E := 2) rfl (by decide) (rstep_err p c xs at_ room 1 6 r0 r1 r2 r3 r4 r5 r6 r7 out w hr hlen hr1 hr2 hat 2 (wrap64 (at_ + 1)) 0 r1 hacc (doF xs 2 (wrap64 (at_ + 1)) 0 r1) h2 (doF_len _ _ _ _ _) hdo)

theorem rstep_6_2 (p : Option Addr) (c : Nat) (xs : List Int) (at_ room : Int) (r0 r1 r2 r3 r4 r5 r6 r7 out : Int) (w : World) (hr : Rd w 1 p xs.length c (ints xs)) (hlen : xs.length ≤ 100000) (hr1 : 1 ≤ room) (hr2 : room ≤ 1000) (hat : 0 ≤ at_) :
    Calls Try.prog 13 #[.slice p xs.length c, .int .i64 at_, .int .i64 room, (⟨2, 6, r0, r1, r2, r3, r4, r5, r6, r7, false, out⟩ : Wk).v] w (RStepPost w xs (stepF xs at_ room ⟨2, 6, r0, r1, r2, r3, r4, r5, r6, r7, false, out⟩)) := by
  have hs := stepF_some xs at_ room ⟨2, 6, r0, r1, r2, r3, r4, r5, r6, r7, false, out⟩ 1 at_ 0 0 hr1 hr2 hat rfl rfl
  have hacc := fun W => acc_6_2 at_ room hr1 hr2 hat r0 r1 r2 r3 r4 r5 r6 r7 out W
  have hdo := fun W hR => rdo_any p c xs 1 at_ 0 0 W hR (by omega) hlen
  rcases doF_e xs 1 at_ 0 0 with h0 | h2
  · rw [hs, if_neg (by rw [h0]; simp)]
    exact rok rfl (rstep_ok_6 p c xs at_ room 2 r0 r1 r2 r3 r4 r5 r6 r7 out w hr hlen hr1 hr2 hat 1 at_ 0 0 hacc (doF xs 1 at_ 0 0) h0 (doF_len _ _ _ _ _) hdo (behF ⟨2, 6, r0, r1, r2, r3, r4, r5, r6, r7, false, out⟩ (doF xs 1 at_ 0 0) room) (fun W => beh_6_2 room r0 r1 r2 r3 r4 r5 r6 r7 out (doF xs 1 at_ 0 0).e (doF xs 1 at_ 0 0).xs (doF xs 1 at_ 0 0).x (doF xs 1 at_ 0 0).done W))
  · rw [hs, if_pos (by rw [h2]; simp), h2]
    exact rbad (E := 2) rfl (by decide) (rstep_err p c xs at_ room 2 6 r0 r1 r2 r3 r4 r5 r6 r7 out w hr hlen hr1 hr2 hat 1 at_ 0 0 hacc (doF xs 1 at_ 0 0) h2 (doF_len _ _ _ _ _) hdo)

theorem rstep_6_3 (p : Option Addr) (c : Nat) (xs : List Int) (at_ room : Int) (r0 r1 r2 r3 r4 r5 r6 r7 out : Int) (w : World) (hr : Rd w 1 p xs.length c (ints xs)) (hlen : xs.length ≤ 100000) (hr1 : 1 ≤ room) (hr2 : room ≤ 1000) (hat : 0 ≤ at_) :
    Calls Try.prog 13 #[.slice p xs.length c, .int .i64 at_, .int .i64 room, (⟨3, 6, r0, r1, r2, r3, r4, r5, r6, r7, false, out⟩ : Wk).v] w (RStepPost w xs (stepF xs at_ room ⟨3, 6, r0, r1, r2, r3, r4, r5, r6, r7, false, out⟩)) := by
  have hs := stepF_some xs at_ room ⟨3, 6, r0, r1, r2, r3, r4, r5, r6, r7, false, out⟩ 1 (placeF at_ room r1) 0 0 hr1 hr2 hat rfl rfl
  have hacc := fun W => acc_6_3 at_ room hr1 hr2 hat r0 r1 r2 r3 r4 r5 r6 r7 out W
  have hdo := fun W hR => rdo_any p c xs 1 (placeF at_ room r1) 0 0 W hR (by omega) hlen
  rcases doF_e xs 1 (placeF at_ room r1) 0 0 with h0 | h2
  · rw [hs, if_neg (by rw [h0]; simp)]
    exact rok rfl (rstep_ok_6 p c xs at_ room 3 r0 r1 r2 r3 r4 r5 r6 r7 out w hr hlen hr1 hr2 hat 1 (placeF at_ room r1) 0 0 hacc (doF xs 1 (placeF at_ room r1) 0 0) h0 (doF_len _ _ _ _ _) hdo (behF ⟨3, 6, r0, r1, r2, r3, r4, r5, r6, r7, false, out⟩ (doF xs 1 (placeF at_ room r1) 0 0) room) (fun W => beh_6_3 room r0 r1 r2 r3 r4 r5 r6 r7 out (doF xs 1 (placeF at_ room r1) 0 0).e (doF xs 1 (placeF at_ room r1) 0 0).xs (doF xs 1 (placeF at_ room r1) 0 0).x (doF xs 1 (placeF at_ room r1) 0 0).done W))
  · rw [hs, if_pos (by rw [h2]; simp), h2]
    exact rbad (E := 2) rfl (by decide) (rstep_err p c xs at_ room 3 6 r0 r1 r2 r3 r4 r5 r6 r7 out w hr hlen hr1 hr2 hat 1 (placeF at_ room r1) 0 0 hacc (doF xs 1 (placeF at_ room r1) 0 0) h2 (doF_len _ _ _ _ _) hdo)

theorem rstep_6_4 (p : Option Addr) (c : Nat) (xs : List Int) (at_ room : Int) (r0 r1 r2 r3 r4 r5 r6 r7 out : Int) (w : World) (hr : Rd w 1 p xs.length c (ints xs)) (hlen : xs.length ≤ 100000) (hr1 : 1 ≤ room) (hr2 : room ≤ 1000) (hat : 0 ≤ at_) :
    Calls Try.prog 13 #[.slice p xs.length c, .int .i64 at_, .int .i64 room, (⟨4, 6, r0, r1, r2, r3, r4, r5, r6, r7, false, out⟩ : Wk).v] w (RStepPost w xs (stepF xs at_ room ⟨4, 6, r0, r1, r2, r3, r4, r5, r6, r7, false, out⟩)) := by
  have hs := stepF_some xs at_ room ⟨4, 6, r0, r1, r2, r3, r4, r5, r6, r7, false, out⟩ 3 at_ r2 (wrap64 (r2 + 1)) hr1 hr2 hat rfl rfl
  have hacc := fun W => acc_6_4 at_ room hr1 hr2 hat r0 r1 r2 r3 r4 r5 r6 r7 out W
  have hdo := fun W hR => rdo_any p c xs 3 at_ r2 (wrap64 (r2 + 1)) W hR (by omega) hlen
  rcases doF_e xs 3 at_ r2 (wrap64 (r2 + 1)) with h0 | h2
  · rw [hs, if_neg (by rw [h0]; simp)]
    exact rok rfl (rstep_ok_6 p c xs at_ room 4 r0 r1 r2 r3 r4 r5 r6 r7 out w hr hlen hr1 hr2 hat 3 at_ r2 (wrap64 (r2 + 1)) hacc (doF xs 3 at_ r2 (wrap64 (r2 + 1))) h0 (doF_len _ _ _ _ _) hdo (behF ⟨4, 6, r0, r1, r2, r3, r4, r5, r6, r7, false, out⟩ (doF xs 3 at_ r2 (wrap64 (r2 + 1))) room) (fun W => beh_6_4 room r0 r1 r2 r3 r4 r5 r6 r7 out (doF xs 3 at_ r2 (wrap64 (r2 + 1))).e (doF xs 3 at_ r2 (wrap64 (r2 + 1))).xs (doF xs 3 at_ r2 (wrap64 (r2 + 1))).x (doF xs 3 at_ r2 (wrap64 (r2 + 1))).done W))
  · rw [hs, if_pos (by rw [h2]; simp), h2]
    exact rbad (E := 2) rfl (by decide) (rstep_err p c xs at_ room 4 6 r0 r1 r2 r3 r4 r5 r6 r7 out w hr hlen hr1 hr2 hat 3 at_ r2 (wrap64 (r2 + 1)) hacc (doF xs 3 at_ r2 (wrap64 (r2 + 1))) h2 (doF_len _ _ _ _ _) hdo)

theorem rstep_6_5 (p : Option Addr) (c : Nat) (xs : List Int) (at_ room : Int) (r0 r1 r2 r3 r4 r5 r6 r7 out : Int) (w : World) (hr : Rd w 1 p xs.length c (ints xs)) (hlen : xs.length ≤ 100000) (hr1 : 1 ≤ room) (hr2 : room ≤ 1000) (hat : 0 ≤ at_) :
    Calls Try.prog 13 #[.slice p xs.length c, .int .i64 at_, .int .i64 room, (⟨5, 6, r0, r1, r2, r3, r4, r5, r6, r7, false, out⟩ : Wk).v] w (RStepPost w xs (stepF xs at_ room ⟨5, 6, r0, r1, r2, r3, r4, r5, r6, r7, false, out⟩)) := by
  have hs := stepF_some xs at_ room ⟨5, 6, r0, r1, r2, r3, r4, r5, r6, r7, false, out⟩ 2 (wrap64 (at_ + 1)) 0 (wrap64 (r1 + 1)) hr1 hr2 hat rfl rfl
  have hacc := fun W => acc_6_5 at_ room hr1 hr2 hat r0 r1 r2 r3 r4 r5 r6 r7 out W
  have hdo := fun W hR => rdo_any p c xs 2 (wrap64 (at_ + 1)) 0 (wrap64 (r1 + 1)) W hR (by omega) hlen
  rcases doF_e xs 2 (wrap64 (at_ + 1)) 0 (wrap64 (r1 + 1)) with h0 | h2
  · rw [hs, if_neg (by rw [h0]; simp)]
    exact rok rfl (rstep_ok_6 p c xs at_ room 5 r0 r1 r2 r3 r4 r5 r6 r7 out w hr hlen hr1 hr2 hat 2 (wrap64 (at_ + 1)) 0 (wrap64 (r1 + 1)) hacc (doF xs 2 (wrap64 (at_ + 1)) 0 (wrap64 (r1 + 1))) h0 (doF_len _ _ _ _ _) hdo (behF ⟨5, 6, r0, r1, r2, r3, r4, r5, r6, r7, false, out⟩ (doF xs 2 (wrap64 (at_ + 1)) 0 (wrap64 (r1 + 1))) room) (fun W => beh_6_5 room r0 r1 r2 r3 r4 r5 r6 r7 out (doF xs 2 (wrap64 (at_ + 1)) 0 (wrap64 (r1 + 1))).e (doF xs 2 (wrap64 (at_ + 1)) 0 (wrap64 (r1 + 1))).xs (doF xs 2 (wrap64 (at_ + 1)) 0 (wrap64 (r1 + 1))).x (doF xs 2 (wrap64 (at_ + 1)) 0 (wrap64 (r1 + 1))).done W))
  · rw [hs, if_pos (by rw [h2]; simp), h2]
    exact rbad (E := 2) rfl (by decide) (rstep_err p c xs at_ room 5 6 r0 r1 r2 r3 r4 r5 r6 r7 out w hr hlen hr1 hr2 hat 2 (wrap64 (at_ + 1)) 0 (wrap64 (r1 + 1)) hacc (doF xs 2 (wrap64 (at_ + 1)) 0 (wrap64 (r1 + 1))) h2 (doF_len _ _ _ _ _) hdo)

theorem rstep_5_0 (p : Option Addr) (c : Nat) (xs : List Int) (at_ room : Int) (r0 r1 r2 r3 r4 r5 r6 r7 out : Int) (w : World) (hr : Rd w 1 p xs.length c (ints xs)) (hlen : xs.length ≤ 100000) (hr1 : 1 ≤ room) (hr2 : room ≤ 1000) (hat : 0 ≤ at_) :
    Calls Try.prog 13 #[.slice p xs.length c, .int .i64 at_, .int .i64 room, (⟨0, 5, r0, r1, r2, r3, r4, r5, r6, r7, false, out⟩ : Wk).v] w (RStepPost w xs (stepF xs at_ room ⟨0, 5, r0, r1, r2, r3, r4, r5, r6, r7, false, out⟩)) := by
  have hs := stepF_some xs at_ room ⟨0, 5, r0, r1, r2, r3, r4, r5, r6, r7, false, out⟩ 1 at_ 0 0 hr1 hr2 hat rfl rfl
  have hacc := fun W => acc_5_0 at_ room hr1 hr2 hat r0 r1 r2 r3 r4 r5 r6 r7 out W
  have hdo := fun W hR => rdo_any p c xs 1 at_ 0 0 W hR (by omega) hlen
  rcases doF_e xs 1 at_ 0 0 with h0 | h2
  · rw [hs, if_neg (by rw [h0]; simp)]
    exact rok rfl (rstep_ok_5 p c xs at_ room 0 r0 r1 r2 r3 r4 r5 r6 r7 out w hr hlen hr1 hr2 hat 1 at_ 0 0 hacc (doF xs 1 at_ 0 0) h0 (doF_len _ _ _ _ _) hdo (behF ⟨0, 5, r0, r1, r2, r3, r4, r5, r6, r7, false, out⟩ (doF xs 1 at_ 0 0) room) (fun W => beh_5_0 room r0 r1 r2 r3 r4 r5 r6 r7 out (doF xs 1 at_ 0 0).e (doF xs 1 at_ 0 0).xs (doF xs 1 at_ 0 0).x (doF xs 1 at_ 0 0).done W))
  · rw [hs, if_pos (by rw [h2]; simp), h2]
    exact rbad (E := 2) rfl (by decide) (rstep_err p c xs at_ room 0 5 r0 r1 r2 r3 r4 r5 r6 r7 out w hr hlen hr1 hr2 hat 1 at_ 0 0 hacc (doF xs 1 at_ 0 0) h2 (doF_len _ _ _ _ _) hdo)

theorem rstep_5_1 (p : Option Addr) (c : Nat) (xs : List Int) (at_ room : Int) (r0 r1 r2 r3 r4 r5 r6 r7 out : Int) (w : World) (hr : Rd w 1 p xs.length c (ints xs)) (hlen : xs.length ≤ 100000) (hr1 : 1 ≤ room) (hr2 : room ≤ 1000) (hat : 0 ≤ at_) :
    Calls Try.prog 13 #[.slice p xs.length c, .int .i64 at_, .int .i64 room, (⟨1, 5, r0, r1, r2, r3, r4, r5, r6, r7, false, out⟩ : Wk).v] w (RStepPost w xs (stepF xs at_ room ⟨1, 5, r0, r1, r2, r3, r4, r5, r6, r7, false, out⟩)) := by
  have hs := stepF_some xs at_ room ⟨1, 5, r0, r1, r2, r3, r4, r5, r6, r7, false, out⟩ 1 (wrap64 (at_ + 1)) 0 0 hr1 hr2 hat rfl rfl
  have hacc := fun W => acc_5_1 at_ room hr1 hr2 hat r0 r1 r2 r3 r4 r5 r6 r7 out W
  have hdo := fun W hR => rdo_any p c xs 1 (wrap64 (at_ + 1)) 0 0 W hR (by omega) hlen
  rcases doF_e xs 1 (wrap64 (at_ + 1)) 0 0 with h0 | h2
  · rw [hs, if_neg (by rw [h0]; simp)]
    exact rok rfl (rstep_ok_5 p c xs at_ room 1 r0 r1 r2 r3 r4 r5 r6 r7 out w hr hlen hr1 hr2 hat 1 (wrap64 (at_ + 1)) 0 0 hacc (doF xs 1 (wrap64 (at_ + 1)) 0 0) h0 (doF_len _ _ _ _ _) hdo (behF ⟨1, 5, r0, r1, r2, r3, r4, r5, r6, r7, false, out⟩ (doF xs 1 (wrap64 (at_ + 1)) 0 0) room) (fun W => beh_5_1 room r0 r1 r2 r3 r4 r5 r6 r7 out (doF xs 1 (wrap64 (at_ + 1)) 0 0).e (doF xs 1 (wrap64 (at_ + 1)) 0 0).xs (doF xs 1 (wrap64 (at_ + 1)) 0 0).x (doF xs 1 (wrap64 (at_ + 1)) 0 0).done W))
  · rw [hs, if_pos (by rw [h2]; simp), h2]
    exact rbad (E := 2) rfl (by decide) (rstep_err p c xs at_ room 1 5 r0 r1 r2 r3 r4 r5 r6 r7 out w hr hlen hr1 hr2 hat 1 (wrap64 (at_ + 1)) 0 0 hacc (doF xs 1 (wrap64 (at_ + 1)) 0 0) h2 (doF_len _ _ _ _ _) hdo)

theorem rstep_5_2 (p : Option Addr) (c : Nat) (xs : List Int) (at_ room : Int) (r0 r1 r2 r3 r4 r5 r6 r7 out : Int) (w : World) (hr : Rd w 1 p xs.length c (ints xs)) (hlen : xs.length ≤ 100000) (hr1 : 1 ≤ room) (hr2 : room ≤ 1000) (hat : 0 ≤ at_) :
    Calls Try.prog 13 #[.slice p xs.length c, .int .i64 at_, .int .i64 room, (⟨2, 5, r0, r1, r2, r3, r4, r5, r6, r7, false, out⟩ : Wk).v] w (RStepPost w xs (stepF xs at_ room ⟨2, 5, r0, r1, r2, r3, r4, r5, r6, r7, false, out⟩)) := by
  have hs := stepF_some xs at_ room ⟨2, 5, r0, r1, r2, r3, r4, r5, r6, r7, false, out⟩ 1 (placeF at_ room r1) 0 0 hr1 hr2 hat rfl rfl
  have hacc := fun W => acc_5_2 at_ room hr1 hr2 hat r0 r1 r2 r3 r4 r5 r6 r7 out W
  have hdo := fun W hR => rdo_any p c xs 1 (placeF at_ room r1) 0 0 W hR (by omega) hlen
  rcases doF_e xs 1 (placeF at_ room r1) 0 0 with h0 | h2
  · rw [hs, if_neg (by rw [h0]; simp)]
    exact rok rfl (rstep_ok_5 p c xs at_ room 2 r0 r1 r2 r3 r4 r5 r6 r7 out w hr hlen hr1 hr2 hat 1 (placeF at_ room r1) 0 0 hacc (doF xs 1 (placeF at_ room r1) 0 0) h0 (doF_len _ _ _ _ _) hdo (behF ⟨2, 5, r0, r1, r2, r3, r4, r5, r6, r7, false, out⟩ (doF xs 1 (placeF at_ room r1) 0 0) room) (fun W => beh_5_2 room r0 r1 r2 r3 r4 r5 r6 r7 out (doF xs 1 (placeF at_ room r1) 0 0).e (doF xs 1 (placeF at_ room r1) 0 0).xs (doF xs 1 (placeF at_ room r1) 0 0).x (doF xs 1 (placeF at_ room r1) 0 0).done W))
  · rw [hs, if_pos (by rw [h2]; simp), h2]
    exact rbad (E := 2) rfl (by decide) (rstep_err p c xs at_ room 2 5 r0 r1 r2 r3 r4 r5 r6 r7 out w hr hlen hr1 hr2 hat 1 (placeF at_ room r1) 0 0 hacc (doF xs 1 (placeF at_ room r1) 0 0) h2 (doF_len _ _ _ _ _) hdo)

theorem rstep_5_3 (p : Option Addr) (c : Nat) (xs : List Int) (at_ room : Int) (r0 r1 r2 r3 r4 r5 r6 r7 out : Int) (w : World) (hr : Rd w 1 p xs.length c (ints xs)) (hlen : xs.length ≤ 100000) (hr1 : 1 ≤ room) (hr2 : room ≤ 1000) (hat : 0 ≤ at_) :
    Calls Try.prog 13 #[.slice p xs.length c, .int .i64 at_, .int .i64 room, (⟨3, 5, r0, r1, r2, r3, r4, r5, r6, r7, false, out⟩ : Wk).v] w (RStepPost w xs (stepF xs at_ room ⟨3, 5, r0, r1, r2, r3, r4, r5, r6, r7, false, out⟩)) := by
  have hs := stepF_some xs at_ room ⟨3, 5, r0, r1, r2, r3, r4, r5, r6, r7, false, out⟩ 3 at_ r1 (wrap64 (r1 + 1)) hr1 hr2 hat rfl rfl
  have hacc := fun W => acc_5_3 at_ room hr1 hr2 hat r0 r1 r2 r3 r4 r5 r6 r7 out W
  have hdo := fun W hR => rdo_any p c xs 3 at_ r1 (wrap64 (r1 + 1)) W hR (by omega) hlen
  rcases doF_e xs 3 at_ r1 (wrap64 (r1 + 1)) with h0 | h2
  · rw [hs, if_neg (by rw [h0]; simp)]
    exact rok rfl (rstep_ok_5 p c xs at_ room 3 r0 r1 r2 r3 r4 r5 r6 r7 out w hr hlen hr1 hr2 hat 3 at_ r1 (wrap64 (r1 + 1)) hacc (doF xs 3 at_ r1 (wrap64 (r1 + 1))) h0 (doF_len _ _ _ _ _) hdo (behF ⟨3, 5, r0, r1, r2, r3, r4, r5, r6, r7, false, out⟩ (doF xs 3 at_ r1 (wrap64 (r1 + 1))) room) (fun W => beh_5_3 room r0 r1 r2 r3 r4 r5 r6 r7 out (doF xs 3 at_ r1 (wrap64 (r1 + 1))).e (doF xs 3 at_ r1 (wrap64 (r1 + 1))).xs (doF xs 3 at_ r1 (wrap64 (r1 + 1))).x (doF xs 3 at_ r1 (wrap64 (r1 + 1))).done W))
  · rw [hs, if_pos (by rw [h2]; simp), h2]
    exact rbad (E := 2) rfl (by decide) (rstep_err p c xs at_ room 3 5 r0 r1 r2 r3 r4 r5 r6 r7 out w hr hlen hr1 hr2 hat 3 at_ r1 (wrap64 (r1 + 1)) hacc (doF xs 3 at_ r1 (wrap64 (r1 + 1))) h2 (doF_len _ _ _ _ _) hdo)

theorem rstep_any (p : Option Addr) (c : Nat) (xs : List Int) (at_ room : Int) (x : Wk) (w : World) (hr : Rd w 1 p xs.length c (ints xs)) (hlen : xs.length ≤ 100000) :
    Calls Try.prog 13 #[.slice p xs.length c, .int .i64 at_, .int .i64 room, x.v] w (RStepPost w xs (stepF xs at_ room x)) := by
  obtain ⟨pc, job, r0, r1, r2, r3, r4, r5, r6, r7, done, out⟩ := x
  by_cases hm : may room = false
  · rw [stepF_bad xs at_ room _ (.inl hm)]
    exact rbad (E := 1) rfl (by decide) (rstep_bad_room p c xs at_ room pc job r0 r1 r2 r3 r4 r5 r6 r7 out w hr hlen done hm)
  · have hmt : may room = true := by simpa using hm
    simp only [may, Bool.and_eq_true, decide_eq_true_eq] at hmt
    obtain ⟨hr1, hr2⟩ := hmt
    by_cases ha : at_ < 0
    · rw [stepF_bad xs at_ room _ (.inr (.inl ha))]
      exact rbad (E := 1) rfl (by decide) (rstep_bad_at p c xs at_ room pc job r0 r1 r2 r3 r4 r5 r6 r7 out w hr hlen hr1 hr2 ha done)
    have hat : 0 ≤ at_ := by omega
    cases done with
    | true =>
      rw [stepF_bad xs at_ room _ (.inr (.inr rfl))]
      exact rbad (E := 1) rfl (by decide) (rstep_bad_done p c xs at_ room pc job r0 r1 r2 r3 r4 r5 r6 r7 out w hr hlen hr1 hr2 hat)
    | false =>
      by_cases j7 : job = 7
      · subst j7
        by_cases p0 : pc = 0
        · subst p0; exact rstep_7_0 p c xs at_ room r0 r1 r2 r3 r4 r5 r6 r7 out w hr hlen hr1 hr2 hat
        by_cases p1 : pc = 1
        · subst p1; exact rstep_7_1 p c xs at_ room r0 r1 r2 r3 r4 r5 r6 r7 out w hr hlen hr1 hr2 hat
        by_cases p2 : pc = 2
        · subst p2; exact rstep_7_2 p c xs at_ room r0 r1 r2 r3 r4 r5 r6 r7 out w hr hlen hr1 hr2 hat
        by_cases p3 : pc = 3
        · subst p3; exact rstep_7_3 p c xs at_ room r0 r1 r2 r3 r4 r5 r6 r7 out w hr hlen hr1 hr2 hat
        exact (by rw [stepF_none xs at_ room _ (by simp [accF, p0, p1, p2, p3])]; exact rbad (E := 1) rfl (by decide) (rstep_none p c xs at_ room pc 7 r0 r1 r2 r3 r4 r5 r6 r7 out w hr hlen hr1 hr2 hat (fun W => acc_none_7 at_ room pc r0 r1 r2 r3 r4 r5 r6 r7 out W (by simpa using p0) (by simpa using p1) (by simpa using p2) (by simpa using p3))))
      by_cases j6 : job = 6
      · subst j6
        by_cases p0 : pc = 0
        · subst p0; exact rstep_6_0 p c xs at_ room r0 r1 r2 r3 r4 r5 r6 r7 out w hr hlen hr1 hr2 hat
        by_cases p1 : pc = 1
        · subst p1; exact rstep_6_1 p c xs at_ room r0 r1 r2 r3 r4 r5 r6 r7 out w hr hlen hr1 hr2 hat
        by_cases p2 : pc = 2
        · subst p2; exact rstep_6_2 p c xs at_ room r0 r1 r2 r3 r4 r5 r6 r7 out w hr hlen hr1 hr2 hat
        by_cases p3 : pc = 3
        · subst p3; exact rstep_6_3 p c xs at_ room r0 r1 r2 r3 r4 r5 r6 r7 out w hr hlen hr1 hr2 hat
        by_cases p4 : pc = 4
        · subst p4; exact rstep_6_4 p c xs at_ room r0 r1 r2 r3 r4 r5 r6 r7 out w hr hlen hr1 hr2 hat
        by_cases p5 : pc = 5
        · subst p5; exact rstep_6_5 p c xs at_ room r0 r1 r2 r3 r4 r5 r6 r7 out w hr hlen hr1 hr2 hat
        exact (by rw [stepF_none xs at_ room _ (by simp [accF, p0, p1, p2, p3, p4, p5])]; exact rbad (E := 1) rfl (by decide) (rstep_none p c xs at_ room pc 6 r0 r1 r2 r3 r4 r5 r6 r7 out w hr hlen hr1 hr2 hat (fun W => acc_none_6 at_ room pc r0 r1 r2 r3 r4 r5 r6 r7 out W (by simpa using p0) (by simpa using p1) (by simpa using p2) (by simpa using p3) (by simpa using p4) (by simpa using p5))))
      by_cases j5 : job = 5
      · subst j5
        by_cases p0 : pc = 0
        · subst p0; exact rstep_5_0 p c xs at_ room r0 r1 r2 r3 r4 r5 r6 r7 out w hr hlen hr1 hr2 hat
        by_cases p1 : pc = 1
        · subst p1; exact rstep_5_1 p c xs at_ room r0 r1 r2 r3 r4 r5 r6 r7 out w hr hlen hr1 hr2 hat
        by_cases p2 : pc = 2
        · subst p2; exact rstep_5_2 p c xs at_ room r0 r1 r2 r3 r4 r5 r6 r7 out w hr hlen hr1 hr2 hat
        by_cases p3 : pc = 3
        · subst p3; exact rstep_5_3 p c xs at_ room r0 r1 r2 r3 r4 r5 r6 r7 out w hr hlen hr1 hr2 hat
        exact (by rw [stepF_none xs at_ room _ (by simp [accF, p0, p1, p2, p3])]; exact rbad (E := 1) rfl (by decide) (rstep_none p c xs at_ room pc 5 r0 r1 r2 r3 r4 r5 r6 r7 out w hr hlen hr1 hr2 hat (fun W => acc_none_5 at_ room pc r0 r1 r2 r3 r4 r5 r6 r7 out W (by simpa using p0) (by simpa using p1) (by simpa using p2) (by simpa using p3))))
      exact (by rw [stepF_none xs at_ room _ (by simp [accF, j7, j6, j5])]; exact rbad (E := 1) rfl (by decide) (rstep_none p c xs at_ room pc job r0 r1 r2 r3 r4 r5 r6 r7 out w hr hlen hr1 hr2 hat (fun W => acc_none_job at_ room pc job r0 r1 r2 r3 r4 r5 r6 r7 out W (by simpa using j7) (by simpa using j6) (by simpa using j5))))

end Go.Proofs.Ytdnajckhnknlcaa

/-! Small ones: lists that are the same; New; the first workers; pick. -/
namespace Go.Proofs.Ytdnajckhnknlcaa
set_option linter.unusedVariables false
set_option linter.unusedSimpArgs false
open Go.RowKit

def EMPTY : Wk := ⟨0, 0, 0, 0, 0, 0, 0, 0, 0, 0, false, 0⟩
def giveF (t : Int) : Wk := ⟨0, 7, t, 0, 0, 0, 0, 0, 0, 0, false, 0⟩
def takeF : Wk := ⟨0, 6, 0, 0, 0, 0, 0, 0, 0, 0, false, 0⟩
def stealF : Wk := ⟨0, 5, 0, 0, 0, 0, 0, 0, 0, 0, false, 0⟩

theorem give19 (a : Int) (w : World) : Calls Try.prog 19 #[.int .i64 a] w fun e w' => e = .returned (giveF a).v ∧ Below w.heap.size w w' := by
  simp only [Wk.v, Wk.cells, giveF]
  go_enter Try.func19, Try.ntmps19
  go_wp2
  refine bodyPost_ret (v := (giveF a).v) (by simp [results, Try.results19, go_sem, Wk.v, Wk.cells, giveF]) rfl ⟨rfl, ext_alloc (Below.refl _ _) _⟩
theorem give20 (a : Int) (w : World) : Calls Try.prog 20 #[.int .i64 a] w fun e w' => e = .returned (giveF a).v ∧ Below w.heap.size w w' := by
  simp only [Wk.v, Wk.cells, giveF]
  go_enter Try.func20, Try.ntmps20
  go_wp2
  refine bodyPost_ret (v := (giveF a).v) (by simp [results, Try.results20, go_sem, Wk.v, Wk.cells, giveF]) rfl ⟨rfl, ext_alloc (Below.refl _ _) _⟩
theorem take21 (w : World) : Calls Try.prog 21 #[] w fun e w' => e = .returned takeF.v ∧ Below w.heap.size w w' := by
  simp only [Wk.v, Wk.cells, takeF]
  go_enter Try.func21, Try.ntmps21
  go_wp2
  refine bodyPost_ret (v := takeF.v) (by simp [results, Try.results21, go_sem, Wk.v, Wk.cells, takeF]) rfl ⟨rfl, ext_alloc (Below.refl _ _) _⟩
theorem take22 (w : World) : Calls Try.prog 22 #[] w fun e w' => e = .returned takeF.v ∧ Below w.heap.size w w' := by
  simp only [Wk.v, Wk.cells, takeF]
  go_enter Try.func22, Try.ntmps22
  go_wp2
  refine bodyPost_ret (v := takeF.v) (by simp [results, Try.results22, go_sem, Wk.v, Wk.cells, takeF]) rfl ⟨rfl, ext_alloc (Below.refl _ _) _⟩
theorem steal23 (w : World) : Calls Try.prog 23 #[] w fun e w' => e = .returned stealF.v ∧ Below w.heap.size w w' := by
  simp only [Wk.v, Wk.cells, stealF]
  go_enter Try.func23, Try.ntmps23
  go_wp2
  refine bodyPost_ret (v := stealF.v) (by simp [results, Try.results23, go_sem, Wk.v, Wk.cells, stealF]) rfl ⟨rfl, ext_alloc (Below.refl _ _) _⟩
theorem steal24 (w : World) : Calls Try.prog 24 #[] w fun e w' => e = .returned stealF.v ∧ Below w.heap.size w w' := by
  simp only [Wk.v, Wk.cells, stealF]
  go_enter Try.func24, Try.ntmps24
  go_wp2
  refine bodyPost_ret (v := stealF.v) (by simp [results, Try.results24, go_sem, Wk.v, Wk.cells, stealF]) rfl ⟨rfl, ext_alloc (Below.refl _ _) _⟩

end Go.Proofs.Ytdnajckhnknlcaa

/-! One step of a worker, in the program: where it is none. -/
namespace Go.Proofs.Ytdnajckhnknlcaa
set_option linter.unusedVariables false
set_option linter.unusedSimpArgs false
open Go.RowKit

theorem may_f (a : Int) (w : World) (h : may a = false) : Calls Try.prog 31 #[.int .i64 a] w fun e w' => e = .returned (.bool false) ∧ w = w' := by
  rw [← h]; exact may_any a w

set_option maxHeartbeats 4000000 in
set_option maxRecDepth 100000 in
theorem step_bad_room (p : Option Addr) (c : Nat) (xs : List Int) (at_ room : Int) (i job r0 r1 r2 r3 r4 r5 r6 r7 out : Int) (w : World) (hr : Rd w 1 p xs.length c (ints xs)) (hlen : xs.length ≤ 100000) (nf : Nat) (hnf : nf ≤ 10) (done : Bool) (hm : Hid (may room = false))
    (hlook : ∀ w1 r, JobsAt w1 r → ∃ q, (Instr.lookup 51 (.map (some r)) (.int .i64 job) false).run Try.prog w1 = .ok (.slice q nf nf) w1) :
    Calls Try.prog 12 #[.slice p xs.length c, .int .i64 at_, .int .i64 room, (⟨i, job, r0, r1, r2, r3, r4, r5, r6, r7, done, out⟩ : Wk).v] w fun e w' =>
      ∃ p' c', e = .returned (.tuple #[.slice p' xs.length c', (⟨i, job, r0, r1, r2, r3, r4, r5, r6, r7, done, out⟩ : Wk).v, .int .i64 1]) ∧ Below w.heap.size w w' ∧ Rd w' 1 p' xs.length c' (ints xs) ∧ Fr w.heap.size p' := by
  have HR := Lib.hid hr
  have HL := Lib.hid hlook
  have H1 := Lib.hid (ints_one xs)
  clear hr hlook
  simp only [Wk.v, Wk.cells]
  go_enter Try.func12, Try.ntmps12
  go_wp2_with fail
  go_region_with (go_at_call 30; go_must (refine (jobs_any _).mono ?_; rintro e w1 ⟨r, rfl, hb1, hj⟩; obtain ⟨q, hlk⟩ := HL.out w1 r hj; clear hj; have hc1 := ((Blk.new w 25 #[.int .i64 i, .int .i64 job, .int .i64 r0, .int .i64 r1, .int .i64 r2, .int .i64 r3, .int .i64 r4, .int .i64 r5, .int .i64 r6, .int .i64 r7, .bool done, .int .i64 out]).alloc (.cells #[.int .i64 0, .int .i64 0, .int .i64 0, .int .i64 0, .int .i64 0, .int .i64 0, .int .i64 0, .int .i64 0, .int .i64 0, .int .i64 0, .bool false, .int .i64 0] 25)).drew.ext hb1; have hcc1 := hc1.cell; have hlt0 := hc1.lt; have hd1 := (Blk.new1 w (.cells #[.int .i64 i, .int .i64 job, .int .i64 r0, .int .i64 r1, .int .i64 r2, .int .i64 r3, .int .i64 r4, .int .i64 r5, .int .i64 r6, .int .i64 r7, .bool done, .int .i64 out] 25) 25 #[.int .i64 0, .int .i64 0, .int .i64 0, .int .i64 0, .int .i64 0, .int .i64 0, .int .i64 0, .int .i64 0, .int .i64 0, .int .i64 0, .bool false, .int .i64 0]).drew.ext hb1; have hdc1 := hd1.cell; have hdf1 := hd1.frozen; have hE1 := ext_trans (ext_drew (ext_alloc (ext_alloc (Below.refl _ _) (.cells #[.int .i64 i, .int .i64 job, .int .i64 r0, .int .i64 r1, .int .i64 r2, .int .i64 r3, .int .i64 r4, .int .i64 r5, .int .i64 r6, .int .i64 r7, .bool done, .int .i64 out] 25)) (.cells #[.int .i64 0, .int .i64 0, .int .i64 0, .int .i64 0, .int .i64 0, .int .i64 0, .int .i64 0, .int .i64 0, .int .i64 0, .int .i64 0, .bool false, .int .i64 0] 25))) hb1; have HR1 := Lib.hid ((((HR.out.alloc (.cells #[.int .i64 i, .int .i64 job, .int .i64 r0, .int .i64 r1, .int .i64 r2, .int .i64 r3, .int .i64 r4, .int .i64 r5, .int .i64 r6, .int .i64 r7, .bool done, .int .i64 out] 25)).alloc (.cells #[.int .i64 0, .int .i64 0, .int .i64 0, .int .i64 0, .int .i64 0, .int .i64 0, .int .i64 0, .int .i64 0, .int .i64 0, .int .i64 0, .bool false, .int .i64 0] 25)).drew).ext hb1)))
  all_goals
    go_wp2_with (go_at_call 31; go_must (refine (may_f room _ hm.out).mono ?_; rintro e w2 ⟨rfl, rfl⟩))
    go_region_with (go_at_call 32; go_must (refine (clone_int p xs.length c (ints xs) _ ?_ H1.out (by omega)).mono ?_; (· exact HR1.out.drew); rintro e w4 ⟨p2, c2, rfl, hb4, hown4⟩; have q1 := (hc1.drew.ext hb4).cell; have q2 := (hd1.drew.ext hb4).cell; have q3 := (hd1.drew.ext hb4).frozen))
  all_goals
    go_wp2_with fail
    refine bodyPost_ret (v := .tuple #[.slice p2 xs.length c2, .agg #[.int .i64 i, .int .i64 job, .int .i64 r0, .int .i64 r1, .int .i64 r2, .int .i64 r3, .int .i64 r4, .int .i64 r5, .int .i64 r6, .int .i64 r7, .bool done, .int .i64 out], .int .i64 1]) (by simp [results, Try.results12, go_sem, q2]) rfl ⟨p2, c2, rfl, ?_, ?_⟩
    · iterate 12 (refine ext_set ?_ _ _ (by omega))
      exact ext_trans (ext_drew hE1) hb4
    · refine rd_fr_of_owns (e := 3) (base := w1.heap.size) ?_ (by omega)
      iterate 12 (refine ownsRow_setCell_below ?_ (hd1.lt) _)
      exact owns_mono hown4 (by simp)

end Go.Proofs.Ytdnajckhnknlcaa

/-! Who is next, and how many steps each has left, in plain Lean. -/
namespace Go.Proofs.Ytdnajckhnknlcaa
set_option linter.unusedVariables false
set_option linter.unusedSimpArgs false
open Go.RowKit

/-- Which of n things a raw number speaks of. -/
def pickF (c n : Int) : Int := (if c < 0 then -(c + 1) else c) % n

theorem pickF_lo (c n : Int) (h : 0 < n) : 0 ≤ pickF c n := by unfold pickF; exact Int.emod_nonneg _ (by omega)
theorem pickF_hi (c n : Int) (h : 0 < n) : pickF c n < n := by unfold pickF; exact Int.emod_lt_of_pos _ h

/-- Of the first k places those that are left. -/
def alive (l : List Int) (k : Nat) : List Nat := (List.range k).filter fun i => decide (0 < l.getD i 0)

theorem alive_zero (l : List Int) : alive l 0 = [] := rfl
theorem alive_yes (l : List Int) (k : Nat) (h : 0 < l.getD k 0) : alive l (k + 1) = alive l k ++ [k] := by
  unfold alive; rw [List.range_succ, List.filter_append]; simp only [List.filter_cons, List.filter_nil]; rw [if_pos (by simpa using h)]
theorem alive_no (l : List Int) (k : Nat) (h : ¬ 0 < l.getD k 0) : alive l (k + 1) = alive l k := by
  unfold alive; rw [List.range_succ, List.filter_append]; simp only [List.filter_cons, List.filter_nil]; rw [if_neg (by simpa using h)]; simp
theorem alive_le (l : List Int) (k : Nat) : (alive l k).length ≤ k := by
  unfold alive; exact Nat.le_trans (List.length_filter_le _ _) (by simp)
theorem alive_lt (l : List Int) (k i : Nat) (h : i ∈ alive l k) : i < k ∧ 0 < l.getD i 0 := by
  unfold alive at h; simpa using h

/-- Who is next: 0 is the owner; below 0: nobody is left. -/
def nextF (picks : List Int) (step : Nat) (left : List Int) (last : Int) : Int :=
  let al := alive left left.length
  if al = [] then -1
  else if step < picks.length then ((al.getD (pickF (picks.getD step 0) al.length).toNat 0 : Nat) : Int)
  else
    let r : Nat := if 0 ≤ last then (al.find? fun (i : Nat) => decide (last < (i : Int))).getD (al.getD 0 0) else al.getD 0 0
    (r : Int)

/-- The first job that is not done. -/
def firstF (ws : List Wk) : Nat := (ws.findIdx? fun x => !x.done).getD 0

/-- How many are not done. -/
def notDone (ws : List Wk) : Nat := (ws.filter fun x => !x.done).length

/-- How many steps each has left. -/
def leftF (own all : List Wk) : List Int := (notDone own : Int) :: all.map fun x => if x.done then 0 else 1

theorem leftF_len (own all : List Wk) : (leftF own all).length = all.length + 1 := by simp [leftF]

end Go.Proofs.Ytdnajckhnknlcaa

/-! pick, place; lists that are the same; New. -/
namespace Go.Proofs.Ytdnajckhnknlcaa
set_option linter.unusedVariables false
set_option linter.unusedSimpArgs false
open Go.RowKit

set_option maxHeartbeats 400000 in
theorem pick11 (c n : Int) (w : World) (h1 : -9223372036854775808 ≤ c) (h2 : c ≤ 9223372036854775807) (h3 : 1 ≤ n) (h4 : n ≤ 100000) :
    Calls Try.prog 11 #[.int .i64 c, .int .i64 n] w fun e w' => e = .returned (.int .i64 (pickF c n)) ∧ w = w' := by
  by_cases hc : c < 0
  · have e : pickF c n = (-(c + 1)) % n := by simp [pickF, hc]
    rw [e]
    have hb1 : 0 ≤ -(c + 1) := by omega
    have hb2 : -(c + 1) ≤ 9223372036854775807 := by omega
    have e2 : -((c + 1).tmod n) = (-(c + 1)) % n := by rw [← Int.neg_tmod]; exact Int.tmod_eq_emod_of_nonneg hb1
    rw [← e2]
    clear e2
    go_enter Try.func11, Try.ntmps11
    go_wp2_with fail
    go_ret
    exact ⟨rfl, rfl⟩
  · have e : pickF c n = c % n := by simp [pickF, hc]
    rw [e]
    go_enter Try.func11, Try.ntmps11
    go_wp2_with fail
    go_ret
    exact ⟨rfl, rfl⟩

set_option maxHeartbeats 400000 in
theorem place78 (c n : Int) (w : World) (h1 : -9223372036854775808 ≤ c) (h2 : c ≤ 9223372036854775807) (h3 : 1 ≤ n) (h4 : n ≤ 100000) :
    Calls Try.prog 78 #[.int .i64 c, .int .i64 n] w fun e w' => e = .returned (.int .i64 (pickF c n)) ∧ w = w' := by
  by_cases hc : c < 0
  · have e : pickF c n = (-(c + 1)) % n := by simp [pickF, hc]
    rw [e]
    have hb1 : 0 ≤ -(c + 1) := by omega
    have hb2 : -(c + 1) ≤ 9223372036854775807 := by omega
    have e2 : -((c + 1).tmod n) = (-(c + 1)) % n := by rw [← Int.neg_tmod]; exact Int.tmod_eq_emod_of_nonneg hb1
    rw [← e2]
    clear e2
    go_enter Try.func78, Try.ntmps78
    go_wp2_with fail
    go_ret
    exact ⟨rfl, rfl⟩
  · have e : pickF c n = c % n := by simp [pickF, hc]
    rw [e]
    go_enter Try.func78, Try.ntmps78
    go_wp2_with fail
    go_ret
    exact ⟨rfl, rfl⟩

theorem madeCells_ints (n : Nat) : (madeCells #[Value.int .i64 0] n).toList = ints (List.replicate n 0) := by
  rw [toList_madeCells_one]; simp [ints]

/-- New. -/
def newF (room : Int) : List Int := if may room = true then List.replicate (room.toNat + 2) 0 else []

theorem new_no (f : Nat) (hf : f = 17 ∨ f = 18) (room : Int) (w : World) (h : may room = false) :
    Calls Try.prog f #[.int .i64 room] w fun e w' => e = .returned (.slice none 0 0) ∧ w = w' := by
  rcases hf with rfl | rfl
  · go_enter Try.func17, Try.ntmps17
    go_wp2_with (go_at_call 31; go_must (refine (may_f room _ h).mono ?_; rintro e w2 ⟨rfl, rfl⟩))
    go_ret
    exact ⟨rfl, rfl⟩
  · go_enter Try.func18, Try.ntmps18
    go_wp2_with (go_at_call 33; go_must (refine (rmay_f room _ h).mono ?_; rintro e w2 ⟨rfl, rfl⟩))
    go_ret
    exact ⟨rfl, rfl⟩

set_option maxHeartbeats 400000 in
theorem new_17 (r : Nat) (w : World) (h1 : 1 ≤ r) (h2 : r ≤ 1000) :
    Calls Try.prog 17 #[.int .i64 r] w fun e w' => ∃ p c, e = .returned (.slice p (r + 2) c) ∧ Below w.heap.size w w' ∧ w'.ownsRow w.heap.size 3 1 (.slice p (r + 2) c) (r + 2) (ints (List.replicate (r + 2) 0)) := by
  obtain ⟨i0, hi, hz0, hz1, hz2⟩ := info_parts info_3
  go_enter Try.func17, Try.ntmps17
  go_wp2_with (first | (go_at_call 31; go_must (refine (may_t r _ (by omega) (by omega)).mono ?_; rintro e w2 ⟨rfl, rfl⟩)) | (at_make; go_must (refine wpList_make_full _ rfl (.tmp 7) (.tmp 7) 22 rfl w.heap.size 3 i0 (.int .i64 0) 1 Try.underlying22 hi hz0 hz1 .i64 .i64 (r + 2) (r + 2) (r + 2) rfl rfl (by omega) (by omega) (by rw [hz2]; omega) (by unfold maxLen; omega) (Nat.le_refl _) ?_)))
  intro w1 hown hg
  go_wp2_with fail
  go_ret
  refine ⟨_, _, rfl, ext_grown (Below.refl _ _) hg (by intro k hk; cases hk), ?_⟩
  rw [← madeCells_ints]
  simpa [Value.cells] using hown

set_option maxHeartbeats 400000 in
theorem new_18 (r : Nat) (w : World) (h1 : 1 ≤ r) (h2 : r ≤ 1000) :
    Calls Try.prog 18 #[.int .i64 r] w fun e w' => ∃ p c, e = .returned (.slice p (r + 2) c) ∧ Below w.heap.size w w' ∧ w'.ownsRow w.heap.size 3 1 (.slice p (r + 2) c) (r + 2) (ints (List.replicate (r + 2) 0)) := by
  obtain ⟨i0, hi, hz0, hz1, hz2⟩ := info_parts info_3
  go_enter Try.func18, Try.ntmps18
  go_wp2_with (first | (go_at_call 33; go_must (refine (rmay_t r _ (by omega) (by omega)).mono ?_; rintro e w2 ⟨rfl, rfl⟩)) | (at_make; go_must (refine wpList_make_full _ rfl (.tmp 7) (.tmp 7) 22 rfl w.heap.size 3 i0 (.int .i64 0) 1 Try.underlying22 hi hz0 hz1 .i64 .i64 (r + 2) (r + 2) (r + 2) rfl rfl (by omega) (by omega) (by rw [hz2]; omega) (by unfold maxLen; omega) (Nat.le_refl _) ?_)))
  intro w1 hown hg
  go_wp2_with fail
  go_ret
  refine ⟨_, _, rfl, ext_grown (Below.refl _ _) hg (by intro k hk; cases hk), ?_⟩
  rw [← madeCells_ints]
  simpa [Value.cells] using hown

end Go.Proofs.Ytdnajckhnknlcaa

/-! Ints: are two lists the same. -/
namespace Go.Proofs.Ytdnajckhnknlcaa
set_option linter.unusedVariables false
set_option linter.unusedSimpArgs false
open Go.RowKit

theorem drewN_zero (w : World) : w.drewN 0 = w := rfl

theorem ext_of_drewN {w w' : World} (h : ∃ k, w.drewN k = w') : Below w.heap.size w w' := by
  obtain ⟨k, rfl⟩ := h; exact ext_drewN (Below.refl _ _) k

set_option maxHeartbeats 1000000 in
theorem ints_any (p q : Option Addr) (n m c d : Nat) (xs ys : List Int) (w : World) (hx : Rd w 1 p n c (ints xs)) (hy : Rd w 1 q m d (ints ys)) (hn : n ≤ 1000000) (hm : m ≤ 1000000) :
    Calls Try.prog 14 #[.slice p n c, .slice q m d] w fun e w' => e = .returned (.bool (decide (xs = ys))) ∧ ∃ k, w.drewN k = w' := by
  have lx : xs.length = n := by have := hx.len; rw [ints_len] at this; omega
  have ly : ys.length = m := by have := hy.len; rw [ints_len] at this; omega
  by_cases hnm : n = m
  · subst hnm
    have HX := Lib.hid hx
    have HY := Lib.hid hy
    have LX := Lib.hid lx
    have LY := Lib.hid ly
    clear hx hy lx ly
    have hb0 : ((n : Int) != (n : Int)) = false := by simp
    go_enter Try.func14, Try.ntmps14
    go_wp2_with fail
    go_loopw [5] (fun i wr => ∃ k : Nat, k ≤ n ∧ i = .int .i64 k ∧ Hid (∀ j, j < k → xs[j]? = ys[j]?) ∧ ∃ t, wr = w.drewN t) (fun i _ => n - (intOf i).toNat)
    case atStart => exact ⟨0, Nat.zero_le _, rfl, fun j hj => absurd hj (by omega), 0, rfl⟩
    case round =>
      obtain ⟨k, hk, rfl, HA, t, rfl⟩ := hrel
      by_cases hlt : k < n
      · obtain ⟨b, off, rfl⟩ := HX.out.addr (by omega) (by decide)
        obtain ⟨b', off', rfl⟩ := HY.out.addr (by omega) (by decide)
        have hcx := HX.out.cell k _ (ints_get xs k (by rw [LX.out]; exact hlt))
        have hcy := HY.out.cell k _ (ints_get ys k (by rw [LY.out]; exact hlt))
        obtain ⟨x, hx⟩ : ∃ x, Hid (xs.getD k 0 = x) := ⟨_, rfl⟩
        obtain ⟨y, hy⟩ : ∃ y, Hid (ys.getD k 0 = y) := ⟨_, rfl⟩
        rw [hx.out] at hcx
        rw [hy.out] at hcy
        have ex : xs[k]? = some x := by rw [← hx.out]; simp [List.getD, LX.out, hlt]
        have ey : ys[k]? = some y := by rw [← hy.out]; simp [List.getD, LY.out, hlt]
        have EX := Lib.hid ex
        have EY := Lib.hid ey
        clear ex ey
        by_cases hxy : x = y
        · have h1 : (x != y) = false := by simp [hxy]
          have HXY := Lib.hid hxy
          clear hxy
          go_wp2_with fail
          go_quiet (fail)
          go_wp2_with fail
          go_roundw
          case rel =>
            refine ⟨k + 1, by omega, by go_num, fun j hj => ?_, _, rfl⟩
            rcases Nat.lt_succ_iff_lt_or_eq.1 hj with h | rfl
            · exact HA.out j h
            · rw [EX.out, EY.out, HXY.out]
          case measure => simp [intOf]; omega
        · have h1 : (x != y) = true := by simp [hxy]
          have hne : decide (xs = ys) = false := by
            rw [decide_eq_false_iff_not]
            intro e
            have := EX.out
            rw [e, EY.out] at this
            exact hxy (Option.some.inj this).symm
          have HE := Lib.hid hne
          clear hxy hne
          go_wp2_with fail
          go_quiet (fail)
          go_wp2_with fail
          go_ret
          exact ⟨by rw [HE.out]; rfl, _, (World.drewN_drewN _ _ _).symm⟩
      · have he : decide (xs = ys) = true := by
          rw [decide_eq_true_eq]
          apply List.ext_getElem?
          intro j
          by_cases hj : j < n
          · exact HA.out j (by omega)
          · rw [List.getElem?_eq_none (by rw [LX.out]; omega), List.getElem?_eq_none (by rw [LY.out]; omega)]
        have HE := Lib.hid he
        clear he
        go_wp2_with fail
        go_ret
        exact ⟨by rw [HE.out]; rfl, _, rfl⟩
  · have hne : decide (xs = ys) = false := by
      rw [decide_eq_false_iff_not]
      rintro rfl
      omega
    have hb0 : ((n : Int) != (m : Int)) = true := by simp; omega
    rw [hne]
    clear hnm lx ly hx hy
    go_enter Try.func14, Try.ntmps14
    go_wp2_with fail
    go_ret
    exact ⟨rfl, 0, rfl⟩

end Go.Proofs.Ytdnajckhnknlcaa

/-! Workers in a row. -/
namespace Go.Proofs.Ytdnajckhnknlcaa
set_option linter.unusedVariables false
set_option linter.unusedSimpArgs false
open Go.RowKit

theorem wkCells_cons (x : Wk) (r : List Wk) : wkCells (x :: r) = x.cells.toList ++ wkCells r := by simp [wkCells]
theorem wkCells_len (ws : List Wk) : (wkCells ws).length = ws.length * 12 := by
  induction ws with
  | nil => rfl
  | cons x r ih => rw [wkCells_cons, List.length_append, ih]; simp [Wk.cells]; omega
theorem wkCells_append (a b : List Wk) : wkCells (a ++ b) = wkCells a ++ wkCells b := by simp [wkCells]
theorem wkCells_one (x : Wk) : wkCells [x] = x.cells.toList := by simp [wkCells]

theorem wkCells_get (ws : List Wk) (k : Nat) (hk : k < ws.length) (j : Nat) (hj : j < 12) : (wkCells ws)[k * 12 + j]? = (ws[k]).cells[j]? := by
  induction ws generalizing k with
  | nil => simp at hk
  | cons x r ih =>
    rw [wkCells_cons]
    cases k with
    | zero => rw [List.getElem?_append_left (by simp [Wk.cells]; omega)]; simp
    | succ k =>
      rw [List.getElem?_append_right (by simp [Wk.cells]; omega)]
      have : (k + 1) * 12 + j - x.cells.toList.length = k * 12 + j := by simp [Wk.cells]; omega
      rw [this, ih k (by simpa using hk)]
      simp

theorem wk_one (ws : List Wk) : ∀ u ∈ wkCells ws, u.oneCell' = true := by
  intro u hu
  simp only [wkCells, List.mem_flatMap] at hu
  obtain ⟨x, _, hx⟩ := hu
  simp [Wk.cells] at hx
  rcases hx with h | h | h | h | h | h | h | h | h | h | h | h <;> subst h <;> rfl

/-- The cells of the worker x at the place k of a row. -/
theorem Rd.wk {w : World} {b off n c : Nat} {ws : List Wk} (h : Rd w 12 (some ⟨b, off, none⟩) n c (wkCells ws)) (k : Nat) (x : Wk) (hx : ws[k]? = some x) :
    (∀ j, j < 12 → w.cell? ⟨b, off + k * 12 + j, none⟩ = x.cells[j]?) ∧ w.cell? ⟨b, off + k * 12, none⟩ = some (.int .i64 x.pc) := by
  have hk : k < ws.length := (List.getElem?_eq_some_iff.1 hx).1
  have he : ws[k] = x := (List.getElem?_eq_some_iff.1 hx).2
  have h1 : ∀ j, j < 12 → w.cell? ⟨b, off + k * 12 + j, none⟩ = x.cells[j]? := by
    intro j hj
    have hg := wkCells_get ws k hk j hj
    rw [he] at hg
    obtain ⟨u, hs⟩ : ∃ u, x.cells[j]? = some u := ⟨_, Array.getElem?_eq_getElem (by simpa [Wk.cells] using hj)⟩
    rw [hs] at hg
    rw [hs, Nat.add_assoc]
    exact h.cell _ _ hg
  exact ⟨h1, by have := h1 0 (by omega); simpa [Wk.cells] using this⟩

theorem Rd.wlen {w : World} {p : Option Addr} {n c : Nat} {ws : List Wk} (h : Rd w 12 p n c (wkCells ws)) : ws.length = n := by
  have := h.len; rw [wkCells_len] at this; omega

theorem findIdx_take (f : Wk → Bool) (ws : List Wk) (k : Nat) (x : Wk) (hx : ws[k]? = some x) (hno : ∀ (j : Nat) (y : Wk), j < k → ws[j]? = some y → f y = false) (hf : f x = true) : ws.findIdx? f = some k := by
  induction ws generalizing k with
  | nil => simp at hx
  | cons a r ih =>
    cases k with
    | zero => simp at hx; subst hx; simp [List.findIdx?_cons, hf]
    | succ k =>
      have h0 := hno 0 a (by omega) (by simp)
      rw [List.findIdx?_cons, h0]
      have := ih k (by simpa using hx) (fun j y hj hy => hno (j + 1) y (by omega) (by simpa using hy))
      simp [this]

theorem findIdx_none (f : Wk → Bool) (ws : List Wk) (hno : ∀ (j : Nat) (y : Wk), ws[j]? = some y → f y = false) : ws.findIdx? f = none := by
  rw [List.findIdx?_eq_none_iff]
  intro x hx
  obtain ⟨j, hj⟩ := List.getElem?_of_mem hx
  exact hno j x hj

set_option maxHeartbeats 1000000 in
theorem first45 (p : Option Addr) (n c : Nat) (ws : List Wk) (w : World) (hx : Rd w 12 p n c (wkCells ws)) (hn : n ≤ 1000000) :
    Calls Try.prog 45 #[.slice p n c] w fun e w' => e = .returned (.int .i64 (firstF ws)) ∧ w = w' := by
  have hl := hx.wlen
  have HX := Lib.hid hx
  have HL := Lib.hid hl
  clear hx hl
  go_enter Try.func45, Try.ntmps45
  go_wp2_with fail
  go_loop [3] (fun i => ∃ k : Nat, k ≤ n ∧ i = .int .i64 k ∧ Hid (∀ j y, j < k → ws[j]? = some y → (!y.done) = false)) (fun i => n - (intOf i).toNat)
  case atStart => exact ⟨0, Nat.zero_le _, rfl, fun j y hj => absurd hj (by omega)⟩
  case round =>
    obtain ⟨k, hk, rfl, HA⟩ := hrel
    by_cases hlt : k < n
    · obtain ⟨b, off, rfl⟩ := HX.out.addr (by omega) (by decide)
      obtain ⟨x, hx⟩ : ∃ x, ws[k]? = some x := ⟨ws[k]'(by rw [HL.out]; exact hlt), by simp [HL.out, hlt]⟩
      have hc := (HX.out.wk k x hx).1 10 (by omega)
      have HX1 := Lib.hid hx
      clear hx
      obtain ⟨pc, job, r0, r1, r2, r3, r4, r5, r6, r7, d, o⟩ := x
      have hc' : w.cell? ⟨b, off + k * 12 + 10, none⟩ = some (.bool d) := hc
      clear hc
      cases d
      · have hf : firstF ws = k := by unfold firstF; rw [findIdx_take (fun x => !x.done) ws k _ HX1.out HA.out rfl]; rfl
        have HF := Lib.hid hf
        clear hf
        go_wp2_with fail
        go_ret
        exact ⟨by rw [HF.out]; rfl, rfl⟩
      · go_wp2_with fail
        go_round
        case rel =>
          refine ⟨k + 1, by omega, by go_num, fun j y hj hy => ?_⟩
          rcases Nat.lt_succ_iff_lt_or_eq.1 hj with h | rfl
          · exact HA.out j y h hy
          · rw [HX1.out] at hy; cases hy; rfl
        case measure => simp [intOf]; omega
    · have hf : firstF ws = 0 := by
        unfold firstF
        rw [findIdx_none _ ws (fun j y hy => HA.out j y (by have := (List.getElem?_eq_some_iff.1 hy).1; rw [HL.out] at this; omega) hy)]; rfl
      have HF := Lib.hid hf
      clear hf
      go_wp2_with fail
      go_ret
      exact ⟨by rw [HF.out]; rfl, rfl⟩

end Go.Proofs.Ytdnajckhnknlcaa
