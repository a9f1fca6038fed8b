/-
  The contracts of the functions that these laws reach, part 9.
-/
import Derived.Test.YtdnajckhnknlcaaR8

/-! One step of a worker, in the program: what stepF says. -/
namespace Go.Proofs.Ytdnajckhnknlcaa
set_option linter.unusedVariables false
set_option linter.unusedSimpArgs false
open Go.RowKit

theorem lookup_give (w : World) (r : Nat) (h : JobsAt w r) : ∃ g, (Instr.lookup 51 (.map (some r)) (.int .i64 7) false).run Try.prog w = .ok (.slice (some ⟨g, 0, none⟩) giveFs.size giveFs.size) w ∧ Blk w g 58 giveFs := by
  obtain ⟨g1, g2, g3, hm, h1, h2, h3⟩ := h
  exact ⟨g1, run_lookup_jobs w r _ 3 7 hm _ (.inl ⟨0, rfl⟩), h1⟩
theorem lookup_take (w : World) (r : Nat) (h : JobsAt w r) : ∃ g, (Instr.lookup 51 (.map (some r)) (.int .i64 6) false).run Try.prog w = .ok (.slice (some ⟨g, 0, none⟩) takeFs.size takeFs.size) w ∧ Blk w g 58 takeFs := by
  obtain ⟨g1, g2, g3, hm, h1, h2, h3⟩ := h
  exact ⟨g2, run_lookup_jobs w r _ 3 6 hm _ (.inl ⟨1, rfl⟩), h2⟩
theorem lookup_steal (w : World) (r : Nat) (h : JobsAt w r) : ∃ g, (Instr.lookup 51 (.map (some r)) (.int .i64 5) false).run Try.prog w = .ok (.slice (some ⟨g, 0, none⟩) stealFs.size stealFs.size) w ∧ Blk w g 58 stealFs := by
  obtain ⟨g1, g2, g3, hm, h1, h2, h3⟩ := h
  exact ⟨g3, run_lookup_jobs w r _ 3 5 hm _ (.inl ⟨2, rfl⟩), h3⟩
theorem lookup_any (job : Int) (w : World) (r : Nat) (h : JobsAt w r) : ∃ q, (Instr.lookup 51 (.map (some r)) (.int .i64 job) false).run Try.prog w = .ok (.slice q (nfF job) (nfF job)) w := by
  by_cases h7 : job = 7
  · subst h7; obtain ⟨g, hg, _⟩ := lookup_give w r h; exact ⟨_, hg⟩
  · by_cases h6 : job = 6
    · subst h6; obtain ⟨g, hg, _⟩ := lookup_take w r h; exact ⟨_, hg⟩
    · by_cases h5 : job = 5
      · subst h5; obtain ⟨g, hg, _⟩ := lookup_steal w r h; exact ⟨_, hg⟩
      · obtain ⟨g1, g2, g3, hm, h1, h2, h3⟩ := h
        have e : nfF job = 0 := by simp [nfF, h7, h6, h5]
        rw [e]
        have b7 : (job == 7) = false := by simpa using h7
        have b6 : (job == 6) = false := by simpa using h6
        have b5 : (job == 5) = false := by simpa using h5
        exact ⟨none, run_lookup_jobs w r _ 3 job hm _ (.inr ⟨by simp [jobEntries, Instr.findNow, Instr.sameNow, b7, b6, b5], rfl⟩)⟩

def StepPost (W : World) (xs : List Int) (s : StR) (e : Ending) (w' : World) : Prop :=
  ∃ p' c', e = .returned (.tuple #[.slice p' xs.length c', s.x.v, .int .i64 s.e]) ∧ Below W.heap.size W w' ∧ Rd w' 1 p' xs.length c' (ints s.xs) ∧ Fr W.heap.size p'

theorem cf46 (w : World) (args : Array Value) : (callFunc 46 args).run Try.prog w = .ok (.enter 46 args) w := by kernel_rfl
theorem dstep_7_0 (p : Option Addr) (c : Nat) (xs : List Int) (at_ room : Int) (r0 r1 r2 r3 r4 r5 r6 r7 out : Int) (w : World) (hr : Rd w 1 p xs.length c (ints xs)) (hlen : xs.length ≤ 100000) (hr1 : 1 ≤ room) (hr2 : room ≤ 1000) (hat : 0 ≤ at_) :
    Calls Try.prog 12 #[.slice p xs.length c, .int .i64 at_, .int .i64 room, (⟨0, 7, r0, r1, r2, r3, r4, r5, r6, r7, false, out⟩ : Wk).v] w (StepPost w xs (stepF xs at_ room ⟨0, 7, r0, r1, r2, r3, r4, r5, r6, r7, false, out⟩)) := by
  have hs := stepF_some xs at_ room ⟨0, 7, r0, r1, r2, r3, r4, r5, r6, r7, false, out⟩ 1 (wrap64 (at_ + 1)) 0 0 hr1 hr2 hat rfl rfl
  have hmeth : ∀ W b p c, Rd W 1 p xs.length c (ints xs) → NeN b p xs.length → _ → _ := fun W b p c hR HN hB => job_giveBottom b r0 r1 r2 r3 r4 r5 r6 r7 out p c at_ room xs W hr1 hr2 hat hR hlen hB
  rcases doF_e xs 1 (wrap64 (at_ + 1)) 0 0 with h0 | h2
  · rw [hs, if_neg (by rw [h0]; simp)]
    exact step_go p c xs at_ room 0 7 r0 r1 r2 r3 r4 r5 r6 r7 out w hr hlen hr1 hr2 hat giveFs (by decide) 46 (by decide) rfl (doF xs 1 (wrap64 (at_ + 1)) 0 0) (behF ⟨0, 7, r0, r1, r2, r3, r4, r5, r6, r7, false, out⟩ (doF xs 1 (wrap64 (at_ + 1)) 0 0) room) h0 (doF_len _ _ _ _ _) cf46 lookup_give hmeth
  · rw [hs, if_pos (by rw [h2]; simp), h2]
    exact step_err p c xs at_ room 0 7 r0 r1 r2 r3 r4 r5 r6 r7 out w hr hlen hr1 hr2 hat giveFs (by decide) 46 (by decide) rfl (doF xs 1 (wrap64 (at_ + 1)) 0 0) (behF ⟨0, 7, r0, r1, r2, r3, r4, r5, r6, r7, false, out⟩ (doF xs 1 (wrap64 (at_ + 1)) 0 0) room) h2 (doF_len _ _ _ _ _) cf46 lookup_give hmeth

theorem cf47 (w : World) (args : Array Value) : (callFunc 47 args).run Try.prog w = .ok (.enter 47 args) w := by kernel_rfl
theorem dstep_7_1 (p : Option Addr) (c : Nat) (xs : List Int) (at_ room : Int) (r0 r1 r2 r3 r4 r5 r6 r7 out : Int) (w : World) (hr : Rd w 1 p xs.length c (ints xs)) (hlen : xs.length ≤ 100000) (hr1 : 1 ≤ room) (hr2 : room ≤ 1000) (hat : 0 ≤ at_) :
    Calls Try.prog 12 #[.slice p xs.length c, .int .i64 at_, .int .i64 room, (⟨1, 7, r0, r1, r2, r3, r4, r5, r6, r7, false, out⟩ : Wk).v] w (StepPost w xs (stepF xs at_ room ⟨1, 7, r0, r1, r2, r3, r4, r5, r6, r7, false, out⟩)) := by
  have hs := stepF_some xs at_ room ⟨1, 7, r0, r1, r2, r3, r4, r5, r6, r7, false, out⟩ 1 at_ 0 0 hr1 hr2 hat rfl rfl
  have hmeth : ∀ W b p c, Rd W 1 p xs.length c (ints xs) → NeN b p xs.length → _ → _ := fun W b p c hR HN hB => job_giveTop b r0 r1 r2 r3 r4 r5 r6 r7 out p c at_ room xs W hr1 hr2 hat hR hlen hB
  rcases doF_e xs 1 at_ 0 0 with h0 | h2
  · rw [hs, if_neg (by rw [h0]; simp)]
    exact step_go p c xs at_ room 1 7 r0 r1 r2 r3 r4 r5 r6 r7 out w hr hlen hr1 hr2 hat giveFs (by decide) 47 (by decide) rfl (doF xs 1 at_ 0 0) (behF ⟨1, 7, r0, r1, r2, r3, r4, r5, r6, r7, false, out⟩ (doF xs 1 at_ 0 0) room) h0 (doF_len _ _ _ _ _) cf47 lookup_give hmeth
  · rw [hs, if_pos (by rw [h2]; simp), h2]
    exact step_err p c xs at_ room 1 7 r0 r1 r2 r3 r4 r5 r6 r7 out w hr hlen hr1 hr2 hat giveFs (by decide) 47 (by decide) rfl (doF xs 1 at_ 0 0) (behF ⟨1, 7, r0, r1, r2, r3, r4, r5, r6, r7, false, out⟩ (doF xs 1 at_ 0 0) room) h2 (doF_len _ _ _ _ _) cf47 lookup_give hmeth

theorem cf48 (w : World) (args : Array Value) : (callFunc 48 args).run Try.prog w = .ok (.enter 48 args) w := by kernel_rfl
theorem dstep_7_2 (p : Option Addr) (c : Nat) (xs : List Int) (at_ room : Int) (r0 r1 r2 r3 r4 r5 r6 r7 out : Int) (w : World) (hr : Rd w 1 p xs.length c (ints xs)) (hlen : xs.length ≤ 100000) (hr1 : 1 ≤ room) (hr2 : room ≤ 1000) (hat : 0 ≤ at_) :
    Calls Try.prog 12 #[.slice p xs.length c, .int .i64 at_, .int .i64 room, (⟨2, 7, r0, r1, r2, r3, r4, r5, r6, r7, false, out⟩ : Wk).v] w (StepPost w xs (stepF xs at_ room ⟨2, 7, r0, r1, r2, r3, r4, r5, r6, r7, false, out⟩)) := by
  have hs := stepF_some xs at_ room ⟨2, 7, r0, r1, r2, r3, r4, r5, r6, r7, false, out⟩ 2 (placeF at_ room r1) 0 r0 hr1 hr2 hat rfl rfl
  have hmeth : ∀ W b p c, Rd W 1 p xs.length c (ints xs) → NeN b p xs.length → _ → _ := fun W b p c hR HN hB => job_giveTask b r0 r1 r2 r3 r4 r5 r6 r7 out p c at_ room xs W hr1 hr2 hat hR hlen hB
  rcases doF_e xs 2 (placeF at_ room r1) 0 r0 with h0 | h2
  · rw [hs, if_neg (by rw [h0]; simp)]
    exact step_go p c xs at_ room 2 7 r0 r1 r2 r3 r4 r5 r6 r7 out w hr hlen hr1 hr2 hat giveFs (by decide) 48 (by decide) rfl (doF xs 2 (placeF at_ room r1) 0 r0) (behF ⟨2, 7, r0, r1, r2, r3, r4, r5, r6, r7, false, out⟩ (doF xs 2 (placeF at_ room r1) 0 r0) room) h0 (doF_len _ _ _ _ _) cf48 lookup_give hmeth
  · rw [hs, if_pos (by rw [h2]; simp), h2]
    exact step_err p c xs at_ room 2 7 r0 r1 r2 r3 r4 r5 r6 r7 out w hr hlen hr1 hr2 hat giveFs (by decide) 48 (by decide) rfl (doF xs 2 (placeF at_ room r1) 0 r0) (behF ⟨2, 7, r0, r1, r2, r3, r4, r5, r6, r7, false, out⟩ (doF xs 2 (placeF at_ room r1) 0 r0) room) h2 (doF_len _ _ _ _ _) cf48 lookup_give hmeth

theorem cf49 (w : World) (args : Array Value) : (callFunc 49 args).run Try.prog w = .ok (.enter 49 args) w := by kernel_rfl
theorem dstep_7_3 (p : Option Addr) (c : Nat) (xs : List Int) (at_ room : Int) (r0 r1 r2 r3 r4 r5 r6 r7 out : Int) (w : World) (hr : Rd w 1 p xs.length c (ints xs)) (hlen : xs.length ≤ 100000) (hr1 : 1 ≤ room) (hr2 : room ≤ 1000) (hat : 0 ≤ at_) :
    Calls Try.prog 12 #[.slice p xs.length c, .int .i64 at_, .int .i64 room, (⟨3, 7, r0, r1, r2, r3, r4, r5, r6, r7, false, out⟩ : Wk).v] w (StepPost w xs (stepF xs at_ room ⟨3, 7, r0, r1, r2, r3, r4, r5, r6, r7, false, out⟩)) := by
  have hs := stepF_some xs at_ room ⟨3, 7, r0, r1, r2, r3, r4, r5, r6, r7, false, out⟩ 2 (wrap64 (at_ + 1)) 0 (wrap64 (r1 + 1)) hr1 hr2 hat rfl rfl
  have hmeth : ∀ W b p c, Rd W 1 p xs.length c (ints xs) → NeN b p xs.length → _ → _ := fun W b p c hR HN hB => job_giveEnd b r0 r1 r2 r3 r4 r5 r6 r7 out p c at_ room xs W hr1 hr2 hat hR hlen hB
  rcases doF_e xs 2 (wrap64 (at_ + 1)) 0 (wrap64 (r1 + 1)) with h0 | h2
  · rw [hs, if_neg (by rw [h0]; simp)]
    exact step_go p c xs at_ room 3 7 r0 r1 r2 r3 r4 r5 r6 r7 out w hr hlen hr1 hr2 hat giveFs (by decide) 49 (by decide) rfl (doF xs 2 (wrap64 (at_ + 1)) 0 (wrap64 (r1 + 1))) (behF ⟨3, 7, r0, r1, r2, r3, r4, r5, r6, r7, false, out⟩ (doF xs 2 (wrap64 (at_ + 1)) 0 (wrap64 (r1 + 1))) room) h0 (doF_len _ _ _ _ _) cf49 lookup_give hmeth
  · rw [hs, if_pos (by rw [h2]; simp), h2]
    exact step_err p c xs at_ room 3 7 r0 r1 r2 r3 r4 r5 r6 r7 out w hr hlen hr1 hr2 hat giveFs (by decide) 49 (by decide) rfl (doF xs 2 (wrap64 (at_ + 1)) 0 (wrap64 (r1 + 1))) (behF ⟨3, 7, r0, r1, r2, r3, r4, r5, r6, r7, false, out⟩ (doF xs 2 (wrap64 (at_ + 1)) 0 (wrap64 (r1 + 1))) room) h2 (doF_len _ _ _ _ _) cf49 lookup_give hmeth

theorem cf50 (w : World) (args : Array Value) : (callFunc 50 args).run Try.prog w = .ok (.enter 50 args) w := by kernel_rfl
theorem dstep_6_0 (p : Option Addr) (c : Nat) (xs : List Int) (at_ room : Int) (r0 r1 r2 r3 r4 r5 r6 r7 out : Int) (w : World) (hr : Rd w 1 p xs.length c (ints xs)) (hlen : xs.length ≤ 100000) (hr1 : 1 ≤ room) (hr2 : room ≤ 1000) (hat : 0 ≤ at_) :
    Calls Try.prog 12 #[.slice p xs.length c, .int .i64 at_, .int .i64 room, (⟨0, 6, r0, r1, r2, r3, r4, r5, r6, r7, false, out⟩ : Wk).v] w (StepPost w xs (stepF xs at_ room ⟨0, 6, r0, r1, r2, r3, r4, r5, r6, r7, false, out⟩)) := by
  have hs := stepF_some xs at_ room ⟨0, 6, r0, r1, r2, r3, r4, r5, r6, r7, false, out⟩ 1 (wrap64 (at_ + 1)) 0 0 hr1 hr2 hat rfl rfl
  have hmeth : ∀ W b p c, Rd W 1 p xs.length c (ints xs) → NeN b p xs.length → _ → _ := fun W b p c hR HN hB => job_takeBottom b r0 r1 r2 r3 r4 r5 r6 r7 out p c at_ room xs W hr1 hr2 hat hR hlen hB
  rcases doF_e xs 1 (wrap64 (at_ + 1)) 0 0 with h0 | h2
  · rw [hs, if_neg (by rw [h0]; simp)]
    exact step_go p c xs at_ room 0 6 r0 r1 r2 r3 r4 r5 r6 r7 out w hr hlen hr1 hr2 hat takeFs (by decide) 50 (by decide) rfl (doF xs 1 (wrap64 (at_ + 1)) 0 0) (behF ⟨0, 6, r0, r1, r2, r3, r4, r5, r6, r7, false, out⟩ (doF xs 1 (wrap64 (at_ + 1)) 0 0) room) h0 (doF_len _ _ _ _ _) cf50 lookup_take hmeth
  · rw [hs, if_pos (by rw [h2]; simp), h2]
    exact step_err p c xs at_ room 0 6 r0 r1 r2 r3 r4 r5 r6 r7 out w hr hlen hr1 hr2 hat takeFs (by decide) 50 (by decide) rfl (doF xs 1 (wrap64 (at_ + 1)) 0 0) (behF ⟨0, 6, r0, r1, r2, r3, r4, r5, r6, r7, false, out⟩ (doF xs 1 (wrap64 (at_ + 1)) 0 0) room) h2 (doF_len _ _ _ _ _) cf50 lookup_take hmeth

theorem cf51 (w : World) (args : Array Value) : (callFunc 51 args).run Try.prog w = .ok (.enter 51 args) w := by kernel_rfl
theorem dstep_6_1 (p : Option Addr) (c : Nat) (xs : List Int) (at_ room : Int) (r0 r1 r2 r3 r4 r5 r6 r7 out : Int) (w : World) (hr : Rd w 1 p xs.length c (ints xs)) (hlen : xs.length ≤ 100000) (hr1 : 1 ≤ room) (hr2 : room ≤ 1000) (hat : 0 ≤ at_) :
    Calls Try.prog 12 #[.slice p xs.length c, .int .i64 at_, .int .i64 room, (⟨1, 6, r0, r1, r2, r3, r4, r5, r6, r7, false, out⟩ : Wk).v] w (StepPost w xs (stepF xs at_ room ⟨1, 6, r0, r1, r2, r3, r4, r5, r6, r7, false, out⟩)) := by
  have hs := stepF_some xs at_ room ⟨1, 6, r0, r1, r2, r3, r4, r5, r6, r7, false, out⟩ 2 (wrap64 (at_ + 1)) 0 r1 hr1 hr2 hat rfl rfl
  have hmeth : ∀ W b p c, Rd W 1 p xs.length c (ints xs) → NeN b p xs.length → _ → _ := fun W b p c hR HN hB => job_takeMark b r0 r1 r2 r3 r4 r5 r6 r7 out p c at_ room xs W hr1 hr2 hat hR hlen hB
  rcases doF_e xs 2 (wrap64 (at_ + 1)) 0 r1 with h0 | h2
  · rw [hs, if_neg (by rw [h0]; simp)]
    exact step_go p c xs at_ room 1 6 r0 r1 r2 r3 r4 r5 r6 r7 out w hr hlen hr1 hr2 hat takeFs (by decide) 51 (by decide) rfl (doF xs 2 (wrap64 (at_ + 1)) 0 r1) (behF ⟨1, 6, r0, r1, r2, r3, r4, r5, r6, r7, false, out⟩ (doF xs 2 (wrap64 (at_ + 1)) 0 r1) room) h0 (doF_len _ _ _ _ _) cf51 lookup_take hmeth
  · rw [hs, if_pos (by rw [h2]; simp), h2]
    exact step_err p c xs at_ room 1 6 r0 r1 r2 r3 r4 r5 r6 r7 out w hr hlen hr1 hr2 hat takeFs (by decide) 51 (by decide) rfl (doF xs 2 (wrap64 (at_ + 1)) 0 r1) (behF ⟨1, 6, r0, r1, r2, r3, r4, r5, r6, r7, false, out⟩ (doF xs 2 (wrap64 (at_ + 1)) 0 r1) room) h2 (doF_len _ _ _ _ _) cf51 lookup_take hmeth

theorem cf52 (w : World) (args : Array Value) : (callFunc 52 args).run Try.prog w = .ok (.enter 52 args) w := by kernel_rfl
theorem dstep_6_2 (p : Option Addr) (c : Nat) (xs : List Int) (at_ room : Int) (r0 r1 r2 r3 r4 r5 r6 r7 out : Int) (w : World) (hr : Rd w 1 p xs.length c (ints xs)) (hlen : xs.length ≤ 100000) (hr1 : 1 ≤ room) (hr2 : room ≤ 1000) (hat : 0 ≤ at_) :
    Calls Try.prog 12 #[.slice p xs.length c, .int .i64 at_, .int .i64 room, (⟨2, 6, r0, r1, r2, r3, r4, r5, r6, r7, false, out⟩ : Wk).v] w (StepPost w xs (stepF xs at_ room ⟨2, 6, r0, r1, r2, r3, r4, r5, r6, r7, false, out⟩)) := by
  have hs := stepF_some xs at_ room ⟨2, 6, r0, r1, r2, r3, r4, r5, r6, r7, false, out⟩ 1 at_ 0 0 hr1 hr2 hat rfl rfl
  have hmeth : ∀ W b p c, Rd W 1 p xs.length c (ints xs) → NeN b p xs.length → _ → _ := fun W b p c hR HN hB => job_takeTop b r0 r1 r2 r3 r4 r5 r6 r7 out p c at_ room xs W hr1 hr2 hat hR hlen hB
  rcases doF_e xs 1 at_ 0 0 with h0 | h2
  · rw [hs, if_neg (by rw [h0]; simp)]
    exact step_go p c xs at_ room 2 6 r0 r1 r2 r3 r4 r5 r6 r7 out w hr hlen hr1 hr2 hat takeFs (by decide) 52 (by decide) rfl (doF xs 1 at_ 0 0) (behF ⟨2, 6, r0, r1, r2, r3, r4, r5, r6, r7, false, out⟩ (doF xs 1 at_ 0 0) room) h0 (doF_len _ _ _ _ _) cf52 lookup_take hmeth
  · rw [hs, if_pos (by rw [h2]; simp), h2]
    exact step_err p c xs at_ room 2 6 r0 r1 r2 r3 r4 r5 r6 r7 out w hr hlen hr1 hr2 hat takeFs (by decide) 52 (by decide) rfl (doF xs 1 at_ 0 0) (behF ⟨2, 6, r0, r1, r2, r3, r4, r5, r6, r7, false, out⟩ (doF xs 1 at_ 0 0) room) h2 (doF_len _ _ _ _ _) cf52 lookup_take hmeth

theorem cf53 (w : World) (args : Array Value) : (callFunc 53 args).run Try.prog w = .ok (.enter 53 args) w := by kernel_rfl
theorem dstep_6_3 (p : Option Addr) (c : Nat) (xs : List Int) (at_ room : Int) (r0 r1 r2 r3 r4 r5 r6 r7 out : Int) (w : World) (hr : Rd w 1 p xs.length c (ints xs)) (hlen : xs.length ≤ 100000) (hr1 : 1 ≤ room) (hr2 : room ≤ 1000) (hat : 0 ≤ at_) :
    Calls Try.prog 12 #[.slice p xs.length c, .int .i64 at_, .int .i64 room, (⟨3, 6, r0, r1, r2, r3, r4, r5, r6, r7, false, out⟩ : Wk).v] w (StepPost w xs (stepF xs at_ room ⟨3, 6, r0, r1, r2, r3, r4, r5, r6, r7, false, out⟩)) := by
  have hs := stepF_some xs at_ room ⟨3, 6, r0, r1, r2, r3, r4, r5, r6, r7, false, out⟩ 1 (placeF at_ room r1) 0 0 hr1 hr2 hat rfl rfl
  have hmeth : ∀ W b p c, Rd W 1 p xs.length c (ints xs) → NeN b p xs.length → _ → _ := fun W b p c hR HN hB => job_takeTask b r0 r1 r2 r3 r4 r5 r6 r7 out p c at_ room xs W hr1 hr2 hat hR hlen hB
  rcases doF_e xs 1 (placeF at_ room r1) 0 0 with h0 | h2
  · rw [hs, if_neg (by rw [h0]; simp)]
    exact step_go p c xs at_ room 3 6 r0 r1 r2 r3 r4 r5 r6 r7 out w hr hlen hr1 hr2 hat takeFs (by decide) 53 (by decide) rfl (doF xs 1 (placeF at_ room r1) 0 0) (behF ⟨3, 6, r0, r1, r2, r3, r4, r5, r6, r7, false, out⟩ (doF xs 1 (placeF at_ room r1) 0 0) room) h0 (doF_len _ _ _ _ _) cf53 lookup_take hmeth
  · rw [hs, if_pos (by rw [h2]; simp), h2]
    exact step_err p c xs at_ room 3 6 r0 r1 r2 r3 r4 r5 r6 r7 out w hr hlen hr1 hr2 hat takeFs (by decide) 53 (by decide) rfl (doF xs 1 (placeF at_ room r1) 0 0) (behF ⟨3, 6, r0, r1, r2, r3, r4, r5, r6, r7, false, out⟩ (doF xs 1 (placeF at_ room r1) 0 0) room) h2 (doF_len _ _ _ _ _) cf53 lookup_take hmeth

theorem cf54 (w : World) (args : Array Value) : (callFunc 54 args).run Try.prog w = .ok (.enter 54 args) w := by kernel_rfl
theorem dstep_6_4 (p : Option Addr) (c : Nat) (xs : List Int) (at_ room : Int) (r0 r1 r2 r3 r4 r5 r6 r7 out : Int) (w : World) (hr : Rd w 1 p xs.length c (ints xs)) (hlen : xs.length ≤ 100000) (hr1 : 1 ≤ room) (hr2 : room ≤ 1000) (hat : 0 ≤ at_) :
    Calls Try.prog 12 #[.slice p xs.length c, .int .i64 at_, .int .i64 room, (⟨4, 6, r0, r1, r2, r3, r4, r5, r6, r7, false, out⟩ : Wk).v] w (StepPost w xs (stepF xs at_ room ⟨4, 6, r0, r1, r2, r3, r4, r5, r6, r7, false, out⟩)) := by
  have hs := stepF_some xs at_ room ⟨4, 6, r0, r1, r2, r3, r4, r5, r6, r7, false, out⟩ 3 at_ r2 (wrap64 (r2 + 1)) hr1 hr2 hat rfl rfl
  have hmeth : ∀ W b p c, Rd W 1 p xs.length c (ints xs) → NeN b p xs.length → _ → _ := fun W b p c hR HN hB => job_takeLast b r0 r1 r2 r3 r4 r5 r6 r7 out p c at_ room xs W hr1 hr2 hat HN hR hlen hB
  rcases doF_e xs 3 at_ r2 (wrap64 (r2 + 1)) with h0 | h2
  · rw [hs, if_neg (by rw [h0]; simp)]
    exact step_go p c xs at_ room 4 6 r0 r1 r2 r3 r4 r5 r6 r7 out w hr hlen hr1 hr2 hat takeFs (by decide) 54 (by decide) rfl (doF xs 3 at_ r2 (wrap64 (r2 + 1))) (behF ⟨4, 6, r0, r1, r2, r3, r4, r5, r6, r7, false, out⟩ (doF xs 3 at_ r2 (wrap64 (r2 + 1))) room) h0 (doF_len _ _ _ _ _) cf54 lookup_take hmeth
  · rw [hs, if_pos (by rw [h2]; simp), h2]
    exact step_err p c xs at_ room 4 6 r0 r1 r2 r3 r4 r5 r6 r7 out w hr hlen hr1 hr2 hat takeFs (by decide) 54 (by decide) rfl (doF xs 3 at_ r2 (wrap64 (r2 + 1))) (behF ⟨4, 6, r0, r1, r2, r3, r4, r5, r6, r7, false, out⟩ (doF xs 3 at_ r2 (wrap64 (r2 + 1))) room) h2 (doF_len _ _ _ _ _) cf54 lookup_take hmeth

theorem cf55 (w : World) (args : Array Value) : (callFunc 55 args).run Try.prog w = .ok (.enter 55 args) w := by kernel_rfl
theorem dstep_6_5 (p : Option Addr) (c : Nat) (xs : List Int) (at_ room : Int) (r0 r1 r2 r3 r4 r5 r6 r7 out : Int) (w : World) (hr : Rd w 1 p xs.length c (ints xs)) (hlen : xs.length ≤ 100000) (hr1 : 1 ≤ room) (hr2 : room ≤ 1000) (hat : 0 ≤ at_) :
    Calls Try.prog 12 #[.slice p xs.length c, .int .i64 at_, .int .i64 room, (⟨5, 6, r0, r1, r2, r3, r4, r5, r6, r7, false, out⟩ : Wk).v] w (StepPost w xs (stepF xs at_ room ⟨5, 6, r0, r1, r2, r3, r4, r5, r6, r7, false, out⟩)) := by
  have hs := stepF_some xs at_ room ⟨5, 6, r0, r1, r2, r3, r4, r5, r6, r7, false, out⟩ 2 (wrap64 (at_ + 1)) 0 (wrap64 (r1 + 1)) hr1 hr2 hat rfl rfl
  have hmeth : ∀ W b p c, Rd W 1 p xs.length c (ints xs) → NeN b p xs.length → _ → _ := fun W b p c hR HN hB => job_takeEnd b r0 r1 r2 r3 r4 r5 r6 r7 out p c at_ room xs W hr1 hr2 hat hR hlen hB
  rcases doF_e xs 2 (wrap64 (at_ + 1)) 0 (wrap64 (r1 + 1)) with h0 | h2
  · rw [hs, if_neg (by rw [h0]; simp)]
    exact step_go p c xs at_ room 5 6 r0 r1 r2 r3 r4 r5 r6 r7 out w hr hlen hr1 hr2 hat takeFs (by decide) 55 (by decide) rfl (doF xs 2 (wrap64 (at_ + 1)) 0 (wrap64 (r1 + 1))) (behF ⟨5, 6, r0, r1, r2, r3, r4, r5, r6, r7, false, out⟩ (doF xs 2 (wrap64 (at_ + 1)) 0 (wrap64 (r1 + 1))) room) h0 (doF_len _ _ _ _ _) cf55 lookup_take hmeth
  · rw [hs, if_pos (by rw [h2]; simp), h2]
    exact step_err p c xs at_ room 5 6 r0 r1 r2 r3 r4 r5 r6 r7 out w hr hlen hr1 hr2 hat takeFs (by decide) 55 (by decide) rfl (doF xs 2 (wrap64 (at_ + 1)) 0 (wrap64 (r1 + 1))) (behF ⟨5, 6, r0, r1, r2, r3, r4, r5, r6, r7, false, out⟩ (doF xs 2 (wrap64 (at_ + 1)) 0 (wrap64 (r1 + 1))) room) h2 (doF_len _ _ _ _ _) cf55 lookup_take hmeth

theorem cf56 (w : World) (args : Array Value) : (callFunc 56 args).run Try.prog w = .ok (.enter 56 args) w := by kernel_rfl
theorem dstep_5_0 (p : Option Addr) (c : Nat) (xs : List Int) (at_ room : Int) (r0 r1 r2 r3 r4 r5 r6 r7 out : Int) (w : World) (hr : Rd w 1 p xs.length c (ints xs)) (hlen : xs.length ≤ 100000) (hr1 : 1 ≤ room) (hr2 : room ≤ 1000) (hat : 0 ≤ at_) :
    Calls Try.prog 12 #[.slice p xs.length c, .int .i64 at_, .int .i64 room, (⟨0, 5, r0, r1, r2, r3, r4, r5, r6, r7, false, out⟩ : Wk).v] w (StepPost w xs (stepF xs at_ room ⟨0, 5, r0, r1, r2, r3, r4, r5, r6, r7, false, out⟩)) := by
  have hs := stepF_some xs at_ room ⟨0, 5, r0, r1, r2, r3, r4, r5, r6, r7, false, out⟩ 1 at_ 0 0 hr1 hr2 hat rfl rfl
  have hmeth : ∀ W b p c, Rd W 1 p xs.length c (ints xs) → NeN b p xs.length → _ → _ := fun W b p c hR HN hB => job_stealTop b r0 r1 r2 r3 r4 r5 r6 r7 out p c at_ room xs W hr1 hr2 hat hR hlen hB
  rcases doF_e xs 1 at_ 0 0 with h0 | h2
  · rw [hs, if_neg (by rw [h0]; simp)]
    exact step_go p c xs at_ room 0 5 r0 r1 r2 r3 r4 r5 r6 r7 out w hr hlen hr1 hr2 hat stealFs (by decide) 56 (by decide) rfl (doF xs 1 at_ 0 0) (behF ⟨0, 5, r0, r1, r2, r3, r4, r5, r6, r7, false, out⟩ (doF xs 1 at_ 0 0) room) h0 (doF_len _ _ _ _ _) cf56 lookup_steal hmeth
  · rw [hs, if_pos (by rw [h2]; simp), h2]
    exact step_err p c xs at_ room 0 5 r0 r1 r2 r3 r4 r5 r6 r7 out w hr hlen hr1 hr2 hat stealFs (by decide) 56 (by decide) rfl (doF xs 1 at_ 0 0) (behF ⟨0, 5, r0, r1, r2, r3, r4, r5, r6, r7, false, out⟩ (doF xs 1 at_ 0 0) room) h2 (doF_len _ _ _ _ _) cf56 lookup_steal hmeth

theorem cf57 (w : World) (args : Array Value) : (callFunc 57 args).run Try.prog w = .ok (.enter 57 args) w := by kernel_rfl
theorem dstep_5_1 (p : Option Addr) (c : Nat) (xs : List Int) (at_ room : Int) (r0 r1 r2 r3 r4 r5 r6 r7 out : Int) (w : World) (hr : Rd w 1 p xs.length c (ints xs)) (hlen : xs.length ≤ 100000) (hr1 : 1 ≤ room) (hr2 : room ≤ 1000) (hat : 0 ≤ at_) :
    Calls Try.prog 12 #[.slice p xs.length c, .int .i64 at_, .int .i64 room, (⟨1, 5, r0, r1, r2, r3, r4, r5, r6, r7, false, out⟩ : Wk).v] w (StepPost w xs (stepF xs at_ room ⟨1, 5, r0, r1, r2, r3, r4, r5, r6, r7, false, out⟩)) := by
  have hs := stepF_some xs at_ room ⟨1, 5, r0, r1, r2, r3, r4, r5, r6, r7, false, out⟩ 1 (wrap64 (at_ + 1)) 0 0 hr1 hr2 hat rfl rfl
  have hmeth : ∀ W b p c, Rd W 1 p xs.length c (ints xs) → NeN b p xs.length → _ → _ := fun W b p c hR HN hB => job_stealBottom b r0 r1 r2 r3 r4 r5 r6 r7 out p c at_ room xs W hr1 hr2 hat hR hlen hB
  rcases doF_e xs 1 (wrap64 (at_ + 1)) 0 0 with h0 | h2
  · rw [hs, if_neg (by rw [h0]; simp)]
    exact step_go p c xs at_ room 1 5 r0 r1 r2 r3 r4 r5 r6 r7 out w hr hlen hr1 hr2 hat stealFs (by decide) 57 (by decide) rfl (doF xs 1 (wrap64 (at_ + 1)) 0 0) (behF ⟨1, 5, r0, r1, r2, r3, r4, r5, r6, r7, false, out⟩ (doF xs 1 (wrap64 (at_ + 1)) 0 0) room) h0 (doF_len _ _ _ _ _) cf57 lookup_steal hmeth
  · rw [hs, if_pos (by rw [h2]; simp), h2]
    exact step_err p c xs at_ room 1 5 r0 r1 r2 r3 r4 r5 r6 r7 out w hr hlen hr1 hr2 hat stealFs (by decide) 57 (by decide) rfl (doF xs 1 (wrap64 (at_ + 1)) 0 0) (behF ⟨1, 5, r0, r1, r2, r3, r4, r5, r6, r7, false, out⟩ (doF xs 1 (wrap64 (at_ + 1)) 0 0) room) h2 (doF_len _ _ _ _ _) cf57 lookup_steal hmeth

theorem cf58 (w : World) (args : Array Value) : (callFunc 58 args).run Try.prog w = .ok (.enter 58 args) w := by kernel_rfl
theorem dstep_5_2 (p : Option Addr) (c : Nat) (xs : List Int) (at_ room : Int) (r0 r1 r2 r3 r4 r5 r6 r7 out : Int) (w : World) (hr : Rd w 1 p xs.length c (ints xs)) (hlen : xs.length ≤ 100000) (hr1 : 1 ≤ room) (hr2 : room ≤ 1000) (hat : 0 ≤ at_) :
    Calls Try.prog 12 #[.slice p xs.length c, .int .i64 at_, .int .i64 room, (⟨2, 5, r0, r1, r2, r3, r4, r5, r6, r7, false, out⟩ : Wk).v] w (StepPost w xs (stepF xs at_ room ⟨2, 5, r0, r1, r2, r3, r4, r5, r6, r7, false, out⟩)) := by
  have hs := stepF_some xs at_ room ⟨2, 5, r0, r1, r2, r3, r4, r5, r6, r7, false, out⟩ 1 (placeF at_ room r1) 0 0 hr1 hr2 hat rfl rfl
  have hmeth : ∀ W b p c, Rd W 1 p xs.length c (ints xs) → NeN b p xs.length → _ → _ := fun W b p c hR HN hB => job_stealTask b r0 r1 r2 r3 r4 r5 r6 r7 out p c at_ room xs W hr1 hr2 hat hR hlen hB
  rcases doF_e xs 1 (placeF at_ room r1) 0 0 with h0 | h2
  · rw [hs, if_neg (by rw [h0]; simp)]
    exact step_go p c xs at_ room 2 5 r0 r1 r2 r3 r4 r5 r6 r7 out w hr hlen hr1 hr2 hat stealFs (by decide) 58 (by decide) rfl (doF xs 1 (placeF at_ room r1) 0 0) (behF ⟨2, 5, r0, r1, r2, r3, r4, r5, r6, r7, false, out⟩ (doF xs 1 (placeF at_ room r1) 0 0) room) h0 (doF_len _ _ _ _ _) cf58 lookup_steal hmeth
  · rw [hs, if_pos (by rw [h2]; simp), h2]
    exact step_err p c xs at_ room 2 5 r0 r1 r2 r3 r4 r5 r6 r7 out w hr hlen hr1 hr2 hat stealFs (by decide) 58 (by decide) rfl (doF xs 1 (placeF at_ room r1) 0 0) (behF ⟨2, 5, r0, r1, r2, r3, r4, r5, r6, r7, false, out⟩ (doF xs 1 (placeF at_ room r1) 0 0) room) h2 (doF_len _ _ _ _ _) cf58 lookup_steal hmeth

theorem cf59 (w : World) (args : Array Value) : (callFunc 59 args).run Try.prog w = .ok (.enter 59 args) w := by kernel_rfl
theorem dstep_5_3 (p : Option Addr) (c : Nat) (xs : List Int) (at_ room : Int) (r0 r1 r2 r3 r4 r5 r6 r7 out : Int) (w : World) (hr : Rd w 1 p xs.length c (ints xs)) (hlen : xs.length ≤ 100000) (hr1 : 1 ≤ room) (hr2 : room ≤ 1000) (hat : 0 ≤ at_) :
    Calls Try.prog 12 #[.slice p xs.length c, .int .i64 at_, .int .i64 room, (⟨3, 5, r0, r1, r2, r3, r4, r5, r6, r7, false, out⟩ : Wk).v] w (StepPost w xs (stepF xs at_ room ⟨3, 5, r0, r1, r2, r3, r4, r5, r6, r7, false, out⟩)) := by
  have hs := stepF_some xs at_ room ⟨3, 5, r0, r1, r2, r3, r4, r5, r6, r7, false, out⟩ 3 at_ r1 (wrap64 (r1 + 1)) hr1 hr2 hat rfl rfl
  have hmeth : ∀ W b p c, Rd W 1 p xs.length c (ints xs) → NeN b p xs.length → _ → _ := fun W b p c hR HN hB => job_stealEnd b r0 r1 r2 r3 r4 r5 r6 r7 out p c at_ room xs W hr1 hr2 hat hR hlen hB
  rcases doF_e xs 3 at_ r1 (wrap64 (r1 + 1)) with h0 | h2
  · rw [hs, if_neg (by rw [h0]; simp)]
    exact step_go p c xs at_ room 3 5 r0 r1 r2 r3 r4 r5 r6 r7 out w hr hlen hr1 hr2 hat stealFs (by decide) 59 (by decide) rfl (doF xs 3 at_ r1 (wrap64 (r1 + 1))) (behF ⟨3, 5, r0, r1, r2, r3, r4, r5, r6, r7, false, out⟩ (doF xs 3 at_ r1 (wrap64 (r1 + 1))) room) h0 (doF_len _ _ _ _ _) cf59 lookup_steal hmeth
  · rw [hs, if_pos (by rw [h2]; simp), h2]
    exact step_err p c xs at_ room 3 5 r0 r1 r2 r3 r4 r5 r6 r7 out w hr hlen hr1 hr2 hat stealFs (by decide) 59 (by decide) rfl (doF xs 3 at_ r1 (wrap64 (r1 + 1))) (behF ⟨3, 5, r0, r1, r2, r3, r4, r5, r6, r7, false, out⟩ (doF xs 3 at_ r1 (wrap64 (r1 + 1))) room) h2 (doF_len _ _ _ _ _) cf59 lookup_steal hmeth

theorem dstep_any (p : Option Addr) (c : Nat) (xs : List Int) (at_ room : Int) (x : Wk) (w : World) (hr : Rd w 1 p xs.length c (ints xs)) (hlen : xs.length ≤ 100000) :
    Calls Try.prog 12 #[.slice p xs.length c, .int .i64 at_, .int .i64 room, x.v] w (StepPost w xs (stepF xs at_ room x)) := by
  obtain ⟨pc, job, r0, r1, r2, r3, r4, r5, r6, r7, done, out⟩ := x
  by_cases hm : may room = false
  · rw [stepF_bad xs at_ room _ (.inl hm)]
    exact step_bad_room p c xs at_ room pc job r0 r1 r2 r3 r4 r5 r6 r7 out w hr hlen (nfF job) (by unfold nfF; (repeat (first | split | decide))) done hm (lookup_any job)
  · have hmt : may room = true := by simpa using hm
    simp only [may, Bool.and_eq_true, decide_eq_true_eq] at hmt
    obtain ⟨hr1, hr2⟩ := hmt
    by_cases ha : at_ < 0
    · rw [stepF_bad xs at_ room _ (.inr (.inl ha))]
      exact step_bad_at p c xs at_ room pc job r0 r1 r2 r3 r4 r5 r6 r7 out w hr hlen (nfF job) (by unfold nfF; (repeat (first | split | decide))) hr1 hr2 ha done (lookup_any job)
    have hat : 0 ≤ at_ := by omega
    cases done with
    | true =>
      rw [stepF_bad xs at_ room _ (.inr (.inr rfl))]
      exact step_bad_done p c xs at_ room pc job r0 r1 r2 r3 r4 r5 r6 r7 out w hr hlen (nfF job) (by unfold nfF; (repeat (first | split | decide))) hr1 hr2 hat (lookup_any job)
    | false =>
      by_cases j7 : job = 7
      · subst j7
        by_cases p0 : pc = 0
        · subst p0; exact dstep_7_0 p c xs at_ room r0 r1 r2 r3 r4 r5 r6 r7 out w hr hlen hr1 hr2 hat
        by_cases p1 : pc = 1
        · subst p1; exact dstep_7_1 p c xs at_ room r0 r1 r2 r3 r4 r5 r6 r7 out w hr hlen hr1 hr2 hat
        by_cases p2 : pc = 2
        · subst p2; exact dstep_7_2 p c xs at_ room r0 r1 r2 r3 r4 r5 r6 r7 out w hr hlen hr1 hr2 hat
        by_cases p3 : pc = 3
        · subst p3; exact dstep_7_3 p c xs at_ room r0 r1 r2 r3 r4 r5 r6 r7 out w hr hlen hr1 hr2 hat
        exact (by rw [stepF_none xs at_ room _ (by simp [accF, p0, p1, p2, p3])]; rcases (by omega : pc < 0 ∨ 0 ≤ pc) with h | h; exact step_bad_neg p c xs at_ room pc 7 r0 r1 r2 r3 r4 r5 r6 r7 out w hr hlen (nfF 7) (by unfold nfF; (repeat (first | split | decide))) hr1 hr2 hat h (lookup_any 7); exact step_bad_pc p c xs at_ room pc 7 r0 r1 r2 r3 r4 r5 r6 r7 out w hr hlen (nfF 7) (by unfold nfF; (repeat (first | split | decide))) hr1 hr2 hat h (by have e : nfF 7 = 4 := rfl; rw [e]; omega) (lookup_any 7))
      by_cases j6 : job = 6
      · subst j6
        by_cases p0 : pc = 0
        · subst p0; exact dstep_6_0 p c xs at_ room r0 r1 r2 r3 r4 r5 r6 r7 out w hr hlen hr1 hr2 hat
        by_cases p1 : pc = 1
        · subst p1; exact dstep_6_1 p c xs at_ room r0 r1 r2 r3 r4 r5 r6 r7 out w hr hlen hr1 hr2 hat
        by_cases p2 : pc = 2
        · subst p2; exact dstep_6_2 p c xs at_ room r0 r1 r2 r3 r4 r5 r6 r7 out w hr hlen hr1 hr2 hat
        by_cases p3 : pc = 3
        · subst p3; exact dstep_6_3 p c xs at_ room r0 r1 r2 r3 r4 r5 r6 r7 out w hr hlen hr1 hr2 hat
        by_cases p4 : pc = 4
        · subst p4; exact dstep_6_4 p c xs at_ room r0 r1 r2 r3 r4 r5 r6 r7 out w hr hlen hr1 hr2 hat
        by_cases p5 : pc = 5
        · subst p5; exact dstep_6_5 p c xs at_ room r0 r1 r2 r3 r4 r5 r6 r7 out w hr hlen hr1 hr2 hat
        exact (by rw [stepF_none xs at_ room _ (by simp [accF, p0, p1, p2, p3, p4, p5])]; rcases (by omega : pc < 0 ∨ 0 ≤ pc) with h | h; exact step_bad_neg p c xs at_ room pc 6 r0 r1 r2 r3 r4 r5 r6 r7 out w hr hlen (nfF 6) (by unfold nfF; (repeat (first | split | decide))) hr1 hr2 hat h (lookup_any 6); exact step_bad_pc p c xs at_ room pc 6 r0 r1 r2 r3 r4 r5 r6 r7 out w hr hlen (nfF 6) (by unfold nfF; (repeat (first | split | decide))) hr1 hr2 hat h (by have e : nfF 6 = 6 := rfl; rw [e]; omega) (lookup_any 6))
      by_cases j5 : job = 5
      · subst j5
        by_cases p0 : pc = 0
        · subst p0; exact dstep_5_0 p c xs at_ room r0 r1 r2 r3 r4 r5 r6 r7 out w hr hlen hr1 hr2 hat
        by_cases p1 : pc = 1
        · subst p1; exact dstep_5_1 p c xs at_ room r0 r1 r2 r3 r4 r5 r6 r7 out w hr hlen hr1 hr2 hat
        by_cases p2 : pc = 2
        · subst p2; exact dstep_5_2 p c xs at_ room r0 r1 r2 r3 r4 r5 r6 r7 out w hr hlen hr1 hr2 hat
        by_cases p3 : pc = 3
        · subst p3; exact dstep_5_3 p c xs at_ room r0 r1 r2 r3 r4 r5 r6 r7 out w hr hlen hr1 hr2 hat
        exact (by rw [stepF_none xs at_ room _ (by simp [accF, p0, p1, p2, p3])]; rcases (by omega : pc < 0 ∨ 0 ≤ pc) with h | h; exact step_bad_neg p c xs at_ room pc 5 r0 r1 r2 r3 r4 r5 r6 r7 out w hr hlen (nfF 5) (by unfold nfF; (repeat (first | split | decide))) hr1 hr2 hat h (lookup_any 5); exact step_bad_pc p c xs at_ room pc 5 r0 r1 r2 r3 r4 r5 r6 r7 out w hr hlen (nfF 5) (by unfold nfF; (repeat (first | split | decide))) hr1 hr2 hat h (by have e : nfF 5 = 4 := rfl; rw [e]; omega) (lookup_any 5))
      exact (by rw [stepF_none xs at_ room _ (by simp [accF, j7, j6, j5])]; rcases (by omega : pc < 0 ∨ 0 ≤ pc) with h | h; exact step_bad_neg p c xs at_ room pc job r0 r1 r2 r3 r4 r5 r6 r7 out w hr hlen (nfF job) (by unfold nfF; (repeat (first | split | decide))) hr1 hr2 hat h (lookup_any job); exact step_bad_pc p c xs at_ room pc job r0 r1 r2 r3 r4 r5 r6 r7 out w hr hlen (nfF job) (by unfold nfF; (repeat (first | split | decide))) hr1 hr2 hat h (by have e : nfF job = 0 := (by simp [nfF, j7, j6, j5]); rw [e]; simpa using h) (lookup_any job))

end Go.Proofs.Ytdnajckhnknlcaa

/-! A crew goes on, till all are done. -/
namespace Go.Proofs.Ytdnajckhnknlcaa
set_option linter.unusedVariables false
set_option linter.unusedSimpArgs false
open Go.RowKit

/-- A row of workers in which the one at k is written anew, cell by cell. -/
def setWk (cs : List Value) (k : Nat) (x : Wk) : List Value :=
  (((((((((((cs.set (k * 12) (.int .i64 x.pc)).set (k * 12 + 1) (.int .i64 x.job)).set (k * 12 + 2) (.int .i64 x.r0)).set (k * 12 + 3) (.int .i64 x.r1)).set (k * 12 + 4) (.int .i64 x.r2)).set (k * 12 + 5) (.int .i64 x.r3)).set (k * 12 + 6) (.int .i64 x.r4)).set (k * 12 + 7) (.int .i64 x.r5)).set (k * 12 + 8) (.int .i64 x.r6)).set (k * 12 + 9) (.int .i64 x.r7)).set (k * 12 + 10) (.bool x.done)).set (k * 12 + 11) (.int .i64 x.out)

theorem setWk_eq (ws : List Wk) (k : Nat) (x : Wk) (hk : k < ws.length) : setWk (wkCells ws) k x = wkCells (ws.set k x) := by
  induction ws generalizing k with
  | nil => simp at hk
  | cons a r ih =>
    cases k with
    | zero => simp [setWk, wkCells, Wk.cells]
    | succ k =>
      have hr := ih k (by simpa using hk)
      have e : ∀ (j : Nat) (v : Value) (cs : List Value), (a.cells.toList ++ cs).set ((k + 1) * 12 + j) v = a.cells.toList ++ cs.set (k * 12 + j) v := by
        intro j v cs
        rw [List.set_append_right _ _ (by simp [Wk.cells]; omega)]
        congr 2
        simp [Wk.cells]; omega
      have e0 : ∀ (v : Value) (cs : List Value), (a.cells.toList ++ cs).set ((k + 1) * 12) v = a.cells.toList ++ cs.set (k * 12) v := fun v cs => e 0 v cs
      rw [List.set_cons_succ, wkCells_cons, wkCells_cons, ← hr]
      unfold setWk
      simp only [e, e0]

/-- What a crew owns: its owner's jobs and its thieves, in rows of their own. -/
structure CrewAt (w : World) (B B2 : Nat) (p q : Option Addr) (n m c d : Nat) (own all : List Wk) : Prop where
  own : w.ownsRow B 25 12 (.slice p n c) n (wkCells own)
  all : w.ownsRow B2 25 12 (.slice q m d) m (wkCells all)
  apart : ∀ a, p = some a → a.block < B2
  le : B ≤ B2

theorem CrewAt.ext {w w' : World} {B B2 : Nat} {p q : Option Addr} {n m c d : Nat} {own all : List Wk} (h : CrewAt w B B2 p q n m c d own all) (hb : Below w.heap.size w w') : CrewAt w' B B2 p q n m c d own all :=
  ⟨own_ext h.own hb, own_ext h.all hb, h.apart, h.le⟩

theorem CrewAt.rdo {w : World} {B B2 : Nat} {p q : Option Addr} {n m c d : Nat} {own all : List Wk} (h : CrewAt w B B2 p q n m c d own all) : Rd w 12 p n c (wkCells own) := (rd_fr_of_owns h.own (Nat.le_refl _)).1
theorem CrewAt.rdt {w : World} {B B2 : Nat} {p q : Option Addr} {n m c d : Nat} {own all : List Wk} (h : CrewAt w B B2 p q n m c d own all) : Rd w 12 q m d (wkCells all) := (rd_fr_of_owns h.all (Nat.le_refl _)).1

/-- Twelve stores at the worker k of the block g. -/
def set12 (w : World) (g k : Nat) (x : Wk) : World :=
  (((((((((((w.setCell ⟨g, k * 12, none⟩ (.int .i64 x.pc)).setCell ⟨g, k * 12 + 1, none⟩ (.int .i64 x.job)).setCell ⟨g, k * 12 + 2, none⟩ (.int .i64 x.r0)).setCell ⟨g, k * 12 + 3, none⟩ (.int .i64 x.r1)).setCell ⟨g, k * 12 + 4, none⟩ (.int .i64 x.r2)).setCell ⟨g, k * 12 + 5, none⟩ (.int .i64 x.r3)).setCell ⟨g, k * 12 + 6, none⟩ (.int .i64 x.r4)).setCell ⟨g, k * 12 + 7, none⟩ (.int .i64 x.r5)).setCell ⟨g, k * 12 + 8, none⟩ (.int .i64 x.r6)).setCell ⟨g, k * 12 + 9, none⟩ (.int .i64 x.r7)).setCell ⟨g, k * 12 + 10, none⟩ (.bool x.done)).setCell ⟨g, k * 12 + 11, none⟩ (.int .i64 x.out)

theorem set12_owns {w : World} {B g n c k : Nat} {ws : List Wk} {x : Wk} (h : w.ownsRow B 25 12 (.slice (some ⟨g, 0, none⟩) n c) n (wkCells ws)) (hk : k < ws.length) :
    (set12 w g k x).ownsRow B 25 12 (.slice (some ⟨g, 0, none⟩) n c) n (wkCells (ws.set k x)) := by
  rw [← setWk_eq ws k x hk]
  unfold set12 setWk
  iterate 12 (refine (World.ownsRow.stored ?_ _ _).1)
  exact h

theorem set12_grown (w : World) (g k : Nat) (x : Wk) : w.grownBy (set12 w g k x) (some g) := by
  unfold set12
  iterate 12 (refine grownBy_set ?_ _ _)
  exact grownBy_refl _ _

theorem owns_other {w w' : World} {base e size g : Nat} {v : Value} {n : Nat} {xs : List Value} (h : w.ownsRow base e size v n xs) (hg : w.grownBy w' (some g)) (hne : v.ownBlock ≠ some g) : w'.ownsRow base e size v n xs :=
  h.kept hg (.inr hne)

end Go.Proofs.Ytdnajckhnknlcaa

/-! A crew goes on, till all are done: the walk. -/
namespace Go.Proofs.Ytdnajckhnknlcaa
set_option linter.unusedVariables false
set_option linter.unusedSimpArgs false
open Go.RowKit

theorem Rd.belowN {w w' : World} {B size : Nat} {p : Option Addr} {n c : Nat} {cs : List Value} (h : Rd w size p n c cs) (hb : Below B w w') (hB : ∀ a, p = some a → 0 < n → a.block < B) : Rd w' size p n c cs := by
  by_cases hn : 0 < n
  · exact h.belowAt hb (fun a ha => hB a ha hn)
  · have h0 : n = 0 := by omega
    subst h0
    have hcs : cs = [] := List.eq_nil_of_length_eq_zero (by simpa using h.len)
    subst hcs
    exact ⟨h.len, h.cap, h.max, h.nil, fun a ha j u hu => by simp at hu⟩

/-- The words' block is none of the block of p. -/
def Dis (pm : Option Addr) (L : Nat) (p : Option Addr) : Prop := ∀ a, p = some a → NeN a.block pm L

theorem Dis.fresh {pm p : Option Addr} {L S : Nat} (h : Fr S pm) (hp : ∀ a, p = some a → a.block < S) : Dis pm L p := fun a ha b hb _ e => by
  have := h b hb; have := hp a ha; omega

/-- Of the blocks that were there none but the rows of p and q has turned. -/
def Keep (w w' : World) (p q : Option Addr) : Prop := ∀ k, k < w.heap.size → (∀ a, p = some a → a.block ≠ k) → (∀ a, q = some a → a.block ≠ k) → w'.heap[k]? = w.heap[k]?

theorem Keep.ext {a b c : World} {p q : Option Addr} (h : Keep a b p q) (hs : a.heap.size ≤ b.heap.size) (k : Below b.heap.size b c) : Keep a c p q := fun i hi h1 h2 => by
  rw [k.block i (by omega)]; exact h i hi h1 h2
theorem Keep.grown {a b c : World} {p q : Option Addr} {g : Nat} (h : Keep a b p q) (hs : a.heap.size ≤ b.heap.size) (hg : b.grownBy c (some g)) (hgb : (∃ a, p = some a ∧ a.block = g) ∨ (∃ a, q = some a ∧ a.block = g)) : Keep a c p q := fun i hi h1 h2 => by
  rw [hg.block i (by omega) (by
    intro e
    simp only [Option.some.injEq] at e
    rcases hgb with ⟨x, hx, hb⟩ | ⟨x, hx, hb⟩
    · exact h1 x hx (by omega)
    · exact h2 x hx (by omega))]
  exact h i hi h1 h2

/-- What run hands back. -/
def RunPost (B B2 : Nat) (p q : Option Addr) (n m c d L : Nat) (R : RunR) (w : World) (e : Ending) (w' : World) : Prop :=
  Below B w w' ∧ Keep w w' p q ∧ (R.e = 0 → ∃ p' c', e = .returned (.tuple #[.slice p' L c', .int .i64 0]) ∧ Rd w' 1 p' L c' (ints R.xs) ∧ CrewAt w' B B2 p q n m c d R.own R.all) ∧
    (R.e ≠ 0 → e = .returned (.tuple #[.slice none 0 0, .int .i64 R.e]))

theorem below_trans {B : Nat} {a b c : World} (h : Below B a b) (k : Below b.heap.size b c) (hB : B ≤ a.heap.size) : Below B a c := h.trans (k.mono (Nat.le_trans hB h.size))

theorem runF_stop (at_ room : Int) (picks : List Int) (f N : Nat) (xs : List Int) (own all : List Wk) (last : Int) (h : N + f = 100000) (hi : nextF picks N (leftF own all) last < 0) :
    runF at_ room picks f xs own all last = ⟨0, xs, own, all⟩ := by
  cases f with
  | zero => have : N = 100000 := by omega
            subst this; unfold runF; rw [if_pos hi]
  | succ f =>
    have : N = 100000 - (f + 1) := by omega
    subst this; unfold runF; dsimp only; rw [if_pos hi]
theorem runF_long (at_ room : Int) (picks : List Int) (xs : List Int) (own all : List Wk) (last : Int) (hi : ¬ nextF picks 100000 (leftF own all) last < 0) :
    runF at_ room picks 0 xs own all last = ⟨3, xs, own, all⟩ := by unfold runF; rw [if_neg hi]
theorem runF_step (at_ room : Int) (picks : List Int) (f N : Nat) (xs : List Int) (own all : List Wk) (last i : Int) (h : N + (f + 1) = 100000) (hi : nextF picks N (leftF own all) last = i) (h0 : ¬ i < 0) (x : Wk) (hx : pickW own all i = x) :
    runF at_ room picks (f + 1) xs own all last =
      if (stepF xs at_ room x).e ≠ 0 then ⟨(stepF xs at_ room x).e, xs, own, all⟩ else runF at_ room picks f (stepF xs at_ room x).xs (putO own i (stepF xs at_ room x).x) (putT all i (stepF xs at_ room x).x) i := by
  have : N = 100000 - (f + 1) := by omega
  subst this; subst hi; subst hx
  conv => lhs; unfold runF
  dsimp only; rw [if_neg h0]

theorem Rd.grownN' {w w' : World} {g size : Nat} {p : Option Addr} {n c : Nat} {cs : List Value} (h : Rd w size p n c cs) (hg : w.grownBy w' (some g)) (hne : NeN g p n) : Rd w' size p n c cs :=
  h.grownN hg (by rintro b ⟨⟩; exact hne)

/-- The worker whose turn it is: where it lies, and what becomes of the crew when it is written. -/
structure SlotAt (wr : World) (B B2 : Nat) (p q : Option Addr) (n m c d : Nat) (own all : List Wk) (i : Int) (g k : Nat) (x : Wk) : Prop where
  pick : pickW own all i = x
  at68 : ∀ W, Below wr.heap.size wr W → Calls Try.prog 68 #[.agg #[.slice p n c, .slice q m d], .int .i64 i] W fun e w' => e = .returned (.pointer (some ⟨g, k * 12, none⟩)) ∧ Below W.heap.size W w'
  cells : ∀ W, Below wr.heap.size wr W → (∀ j, j < 12 → W.cell? ⟨g, k * 12 + j, none⟩ = x.cells[j]?) ∧ W.cell? ⟨g, k * 12, none⟩ = some (.int .i64 x.pc)
  frozen : ∀ W, Below wr.heap.size wr W → ∀ o, W.frozen? ⟨g, o, none⟩ = false
  lo : B ≤ g
  hi : g < wr.heap.size
  type : ∃ cur, wr.heap[g]? = some (.cells cur 25 (0, 0))
  put : ∀ W x', Below wr.heap.size wr W → CrewAt (set12 W g k x') B B2 p q n m c d (putO own i x') (putT all i x')
  ne : ∀ pm L, Dis pm L p → Dis pm L q → NeN g pm L
  small : 0 ≤ i ∧ i ≤ 1000
  blk : (∃ a, p = some a ∧ a.block = g) ∨ (∃ a, q = some a ∧ a.block = g)
  wh : (i = 0 ∧ p = some ⟨g, 0, none⟩ ∧ firstF own = k ∧ k < n) ∨ (i = (k : Int) + 1 ∧ q = some ⟨g, 0, none⟩ ∧ k < m)

theorem owns_type {w : World} {base e size : Nat} {g n c : Nat} {xs : List Value} (h : w.ownsRow base e size (.slice (some ⟨g, 0, none⟩) n c) n xs) : ∃ cur, w.heap[g]? = some (.cells cur e (0, 0)) := by
  rcases h.2 with ⟨h1, _⟩ | ⟨g', cap, cur, hv, _, hg, _⟩
  · cases h1
  · simp only [Value.slice.injEq, Option.some.injEq, Addr.mk.injEq, and_true, true_and] at hv
    rw [hv.1]; exact ⟨cur, hg⟩

theorem slot_at (wr : World) (B B2 : Nat) (p q : Option Addr) (n m c d : Nat) (own all : List Wk) (HC : CrewAt wr B B2 p q n m c d own all) (picks : List Int) (N : Nat) (last i : Int) (hi : nextF picks N (leftF own all) last = i) (h0 : ¬ i < 0) (hn : n ≤ 1000) (hm : m ≤ 999) :
    ∃ g k x, SlotAt wr B B2 p q n m c d own all i g k x := by
  have lo := HC.rdo.wlen
  have lt := HC.rdt.wlen
  obtain ⟨kk, hk, hkl, hkp⟩ := nextF_mem picks N (leftF own all) last (by rw [hi]; exact h0)
  rw [hi] at hk
  subst hk
  rw [leftF_len] at hkl
  cases kk with
  | zero =>
    have hnd : 0 < notDone own := by simp [leftF] at hkp; omega
    obtain ⟨k, hf, hkn, hfk⟩ := notDone_pos own hnd
    have hx : own[k]? = some own[k] := List.getElem?_eq_getElem hkn
    obtain ⟨g, cap, hv, hg, hgl, hcell, hfr⟩ := owns_form HC.own (by omega)
    simp only [Value.slice.injEq, true_and] at hv
    obtain ⟨rfl, rfl⟩ := hv
    have hidx : idxF isLeft own = k := by
      unfold idxF
      have : own.findIdx? isLeft = some k := hf
      rw [this]
    have hpo : ∀ x', putO own 0 x' = own.set k x' := fun x' => by simp [putO, hfk]
    have hpt : ∀ x', putT all 0 x' = all := fun x' => by simp [putT]
    refine ⟨g, k, own[k], ?_, ?_, ?_, ?_, hg, hgl, owns_type HC.own, ?_, ?_, by omega, .inl ⟨_, rfl, rfl⟩, .inl ⟨rfl, rfl, hfk, by omega⟩⟩
    · simp only [pickW]; rw [if_pos (by simp), hfk, List.getD_eq_getElem?_getD, hx]; rfl
    · intro W hW
      have := at68_owner (some ⟨g, 0, none⟩) q n m c d own W g 0 k rfl (HC.ext hW).rdo hidx (by omega) hn
      rw [Nat.zero_add] at this
      exact this
    · intro W hW
      have h1 := (HC.ext hW).rdo.wk k _ hx
      simp only [Nat.zero_add] at h1
      exact h1
    · intro W hW o
      exact (HC.ext hW).own.frozenAt o
    · intro W x' hW
      have hc := HC.ext hW
      show CrewAt _ _ _ _ _ _ _ _ _ (putO own 0 x') (putT all 0 x')
      rw [hpo, hpt]
      refine ⟨set12_owns hc.own hkn, owns_other hc.all (set12_grown _ _ _ _) ?_, hc.apart, hc.le⟩
      intro e
      have h1 := hc.all.lt _ e
      have h2 := hc.apart _ rfl
      simp only at h2
      omega
    · intro pm L h1 _
      exact h1 _ rfl
  | succ j =>
    have hj : j < all.length := by omega
    have hx : all[j]? = some all[j] := List.getElem?_eq_getElem hj
    obtain ⟨g, cap, hv, hg, hgl, hcell, hfr⟩ := owns_form HC.all (by omega)
    simp only [Value.slice.injEq, true_and] at hv
    obtain ⟨rfl, rfl⟩ := hv
    have hne : ¬ ((j + 1 : Nat) : Int) = 0 := by omega
    have htj : (((j + 1 : Nat) : Int) - 1).toNat = j := by omega
    have hpo : ∀ x', putO own ((j + 1 : Nat) : Int) x' = own := fun x' => by unfold putO; rw [if_neg hne]
    have hpt : ∀ x', putT all ((j + 1 : Nat) : Int) x' = all.set j x' := fun x' => by unfold putT; rw [if_neg hne, htj]
    refine ⟨g, j, all[j], ?_, ?_, ?_, ?_, Nat.le_trans HC.le hg, hgl, owns_type HC.all, ?_, ?_, by omega, .inr ⟨_, rfl, rfl⟩, .inr ⟨by omega, rfl, by omega⟩⟩
    · unfold pickW; rw [if_neg hne, htj, List.getD_eq_getElem?_getD, hx]; rfl
    · intro W hW
      have := at68_thief p (some ⟨g, 0, none⟩) n m c d W g 0 j rfl (by omega) (by omega)
      rw [Nat.zero_add] at this
      rw [show ((j + 1 : Nat) : Int) = (j : Int) + 1 from by omega]
      exact this
    · intro W hW
      have h1 := (HC.ext hW).rdt.wk j _ hx
      simp only [Nat.zero_add] at h1
      exact h1
    · intro W hW o
      exact (HC.ext hW).all.frozenAt o
    · intro W x' hW
      have hc := HC.ext hW
      rw [hpo, hpt]
      refine ⟨owns_other hc.own (set12_grown _ _ _ _) ?_, set12_owns hc.all hj, hc.apart, hc.le⟩
      intro e
      cases p with
      | none => simp [Value.ownBlock] at e
      | some a =>
        simp only [Value.ownBlock, Option.some.injEq] at e
        have h2 := hc.apart _ rfl
        omega
    · intro pm L _ h2
      exact h2 _ rfl

set_option maxHeartbeats 8000000 in
set_option maxRecDepth 100000 in
theorem run41 (B B2 : Nat) (p q pk : Option Addr) (n m c d np cp : Nat) (at_ room : Int) (picks : List Int) (pm0 : Option Addr) (L cm0 : Nat) (xs0 : List Int) (own0 all0 : List Wk) (w : World)
    (hB : B ≤ w.heap.size) (hC0 : CrewAt w B B2 p q n m c d own0 all0) (hm0 : Rd w 1 pm0 L cm0 (ints xs0)) (hd1 : Dis pm0 L p) (hd2 : Dis pm0 L q) (hk : Rd w 1 pk np cp (ints picks)) (hkB : ∀ a, pk = some a → 0 < np → a.block < B) (hbd : Bd picks)
    (hn : n ≤ 1000) (hm : m ≤ 999) (hL : L ≤ 100000) (R : RunR) (hR : runF at_ room picks 100000 xs0 own0 all0 (-1) = R) :
    Calls Try.prog 41 #[.agg #[.slice p n c, .slice q m d], .slice pm0 L cm0, .int .i64 at_, .int .i64 room, .slice pk np cp] w (RunPost B B2 p q n m c d L R w) := by
  have HK := Lib.hid hk
  have HKB := Lib.hid hkB
  have HBD := Lib.hid hbd
  have HR0 := Lib.hid hR
  have HD1 := Lib.hid hd1
  have HD2 := Lib.hid hd2
  have HC0 := Lib.hid hC0
  have HM0 := Lib.hid hm0
  clear hk hkB hbd hR hd1 hd2 hC0 hm0
  go_enter Try.func41, Try.ntmps41
  go_wp2_with fail
  go_loopw [1, 12, 13] (fun v1 v12 v13 wr => ∃ (f N cm : Nat) (pm : Option Addr) (xs : List Int) (own all : List Wk) (last : Int), N + f = 100000 ∧ v1 = .slice pm L cm ∧ v12 = .int .i64 N ∧ v13 = .int .i64 last ∧ -1 ≤ last ∧ last ≤ 1000 ∧
      Rd wr 1 pm L cm (ints xs) ∧ Hid (Dis pm L p) ∧ Hid (Dis pm L q) ∧ CrewAt wr B B2 p q n m c d own all ∧ Below B w wr ∧ Hid (Keep w wr p q) ∧ Blk wr w.heap.size 68 #[.slice p n c, .slice q m d] ∧ Hid (runF at_ room picks f xs own all last = R))
    (fun _ v12 _ _ => 100001 - (intOf v12).toNat)
  case atStart =>
    exact ⟨100000, 0, cm0, pm0, xs0, own0, all0, -1, rfl, rfl, rfl, rfl, by omega, by omega, HM0.out.alloc _, HD1, HD2, HC0.out.ext (ext_alloc (Below.refl _ _) _), ((ext_alloc (Below.refl _ _) _ : Below w.heap.size w _)).mono hB, (fun i hi _ _ => Below.heap_alloc _ _ _ hi), Blk.new w 68 _, HR0⟩
  case round =>
    obtain ⟨f, N, cm, pm, xs, own, all, last, hNf, rfl, rfl, rfl, hl0, hl1, hm, hd1, hd2, HC, HW, HKp, HBk, HRf⟩ := hrel
    have hbc := HBk.cell
    have hown := HC.rdo.wlen
    have hall := HC.rdt.wlen
    obtain ⟨i, hi⟩ : ∃ i, Hid (nextF picks N (leftF own all) last = i) := ⟨_, rfl⟩
    have HOWN := Lib.hid hown
    have HALL := Lib.hid hall
    have HRd := Lib.hid hm
    have HC' := Lib.hid HC
    have hsz : w.heap.size < wr.heap.size := HBk.lt
    have HKW := Lib.hid (HK.out.belowN HW HKB.out)
    clear hown hall hm HC
    have hleft := leftF_len own all
    have HLF := Lib.hid hleft
    clear hleft
    have ARM67 := Lib.hid (fun W (hW : Below wr.heap.size wr W) => left67 p q n m c d own all W (HC'.out.ext hW).rdo (HC'.out.ext hW).rdt hn (by omega))
    by_cases hneg : i < 0
    · have hfin := runF_stop at_ room picks f N xs own all last hNf (by rw [hi.out]; exact hneg)
      rw [HRf.out] at hfin
      have HF := Lib.hid hfin
      clear hfin
      go_wp2_with (first
        | (go_at_call 67; go_must (refine (ARM67.out _ (Below.refl _ _)).mono ?_; rintro e w2 ⟨pl, cl, rfl, hb2, hol⟩; have hnk := HKW.out.ext hb2))
        | (go_at_call 66; go_must (refine (next66 pk pl np cp (m + 1) cl N last picks (leftF own all) _ hnk (rd_fr_of_owns hol (Nat.le_refl _)).1 (by omega) HBD.out (by omega)).mono ?_; rintro e w3 ⟨rfl, hb3⟩; rw [hi.out]; clear hnk)))
      have hE := ext_trans hb2 hb3
      refine bodyPost_ret (v := .tuple #[.slice pm L cm, .int .i64 0]) (by simp [results, Try.results41, go_sem]) rfl ⟨below_trans HW hE hB, HKp.out.ext HW.size hE, fun _ => ⟨pm, cm, rfl, ?_, ?_⟩, fun hne => ?_⟩
      · rw [HF.out]; exact HRd.out.ext hE
      · rw [HF.out]; exact HC'.out.ext hE
      · exact absurd (by rw [HF.out]) hne
    · obtain ⟨g, k, x, HS⟩ := slot_at wr B B2 p q n m c d own all HC'.out picks N last i hi.out hneg hn hm
      have HSh := Lib.hid HS
      have hsm := HS.small
      clear HS
      cases f with
      | zero =>
        have hN : N = 100000 := by omega
        subst hN
        have hfin := runF_long at_ room picks xs own all last (by rw [hi.out]; exact hneg)
        rw [HRf.out] at hfin
        have HF := Lib.hid hfin
        clear hfin
        go_wp2_with (first
          | (go_at_call 67; go_must (refine (ARM67.out _ (Below.refl _ _)).mono ?_; rintro e w2 ⟨pl, cl, rfl, hb2, hol⟩; have hnk := HKW.out.ext hb2))
          | (go_at_call 66; go_must (refine (next66 pk pl np cp (m + 1) cl 100000 last picks (leftF own all) _ hnk (rd_fr_of_owns hol (Nat.le_refl _)).1 (by omega) HBD.out (by omega)).mono ?_; rintro e w3 ⟨rfl, hb3⟩; rw [hi.out]; clear hnk)))
        have hE := ext_trans hb2 hb3
        refine bodyPost_ret (v := .tuple #[.slice none 0 0, .int .i64 3]) (by simp [results, Try.results41, go_sem]) rfl ⟨below_trans HW hE hB, HKp.out.ext HW.size hE, fun h => ?_, fun hne => ?_⟩
        · rw [HF.out] at h; cases h
        · rw [HF.out]
      | succ f =>
        have hstep := runF_step at_ room picks f N xs own all last i hNf hi.out hneg x HSh.out.pick
        rw [HRf.out] at hstep
        have hN2 : ((N : Int) == 100000) = false := by simp; omega
        have HXL : xs.length = L := by have := HRd.out.len; rw [ints_len] at this; omega
        subst HXL
        obtain ⟨⟨se, ys, x'⟩, hs⟩ : ∃ s, Hid (stepF xs at_ room x = s) := ⟨_, rfl⟩
        have hys : ys.length = xs.length := by have := stepF_len xs at_ room x; rw [hs.out] at this; exact this
        have HYS := Lib.hid hys
        rw [hs.out] at hstep
        have HD := Lib.hid (fun W (hW : Rd W 1 pm xs.length cm (ints xs)) => dstep_any pm cm xs at_ room x W hW hL)
        rw [hs.out] at HD
        have HST := Lib.hid hstep
        clear hstep hys
        by_cases hse : se = 0
        · subst hse
          go_wp2_with (first
            | (go_at_call 67; go_must (refine (ARM67.out _ (Below.refl _ _)).mono ?_; rintro e w2 ⟨pl, cl, rfl, hb2, hol⟩; have hnk := HKW.out.ext hb2))
            | (go_at_call 66; go_must (refine (next66 pk pl np cp (m + 1) cl N last picks (leftF own all) _ hnk (rd_fr_of_owns hol (Nat.le_refl _)).1 (by omega) HBD.out (by omega)).mono ?_; rintro e w3 ⟨rfl, hb3⟩; rw [hi.out]; clear hnk; have hE3 := ext_trans hb2 hb3; have hbc3 := (HBk.ext hE3).cell))
            | (go_at_call 68; go_must (refine (HSh.out.at68 _ hE3).mono ?_; rintro e w4 ⟨rfl, hb4⟩; have hE4 := ext_trans hE3 hb4; obtain ⟨hq1, hq2⟩ := HSh.out.cells _ hE4; have hq3 : ∀ j, j < 12 → w4.cell? ⟨g, k * 12 + j, none⟩ = (#[.int .i64 x.pc, .int .i64 x.job, .int .i64 x.r0, .int .i64 x.r1, .int .i64 x.r2, .int .i64 x.r3, .int .i64 x.r4, .int .i64 x.r5, .int .i64 x.r6, .int .i64 x.r7, .bool x.done, .int .i64 x.out] : Array Value)[j]? := hq1; clear hq1))
            | (go_at_call 12; go_must (refine (HD.out _ (HRd.out.ext hE4)).mono ?_; rintro e w5 ⟨p5, c5, rfl, hb5, hr5, hf5⟩; have hE5 := ext_trans hE4 hb5; obtain ⟨hq4, hq5⟩ := HSh.out.cells _ hE5; have hq6 : ∀ j, j < 12 → w5.cell? ⟨g, k * 12 + j, none⟩ = (#[.int .i64 x.pc, .int .i64 x.job, .int .i64 x.r0, .int .i64 x.r1, .int .i64 x.r2, .int .i64 x.r3, .int .i64 x.r4, .int .i64 x.r5, .int .i64 x.r6, .int .i64 x.r7, .bool x.done, .int .i64 x.out] : Array Value)[j]? := hq4; clear hq4; have hq7 := HSh.out.frozen _ hE5; simp only [Wk.v, Wk.cells])))
          have hE := hE5
          have hgs := set12_grown w5 g k x'
          have hne5 : NeN g p5 xs.length := fun a ha _ e => by have h8 := hf5 a ha; have h9 := HSh.out.hi; have h10 := hE4.size; omega
          go_roundw
          case rel =>
            refine ⟨f, N + 1, c5, p5, ys, putO own i x', putT all i x', i, by omega, rfl, by go_num, rfl, by omega, by omega, hr5.grownN' hgs hne5, ?_, ?_, HSh.out.put w5 x' hE5, ?_, (HKp.out.ext HW.size hE5).grown (Nat.le_trans HW.size hE5.size) hgs HSh.out.blk, ?_, ?_⟩
            · exact Dis.fresh hf5 (fun a ha => Nat.lt_of_lt_of_le (by subst ha; exact ((HC'.out.ext hE4).own.lt _ rfl).2) (Nat.le_refl _))
            · exact Dis.fresh hf5 (fun a ha => Nat.lt_of_lt_of_le (by subst ha; exact ((HC'.out.ext hE4).all.lt _ rfl).2) (Nat.le_refl _))
            · exact (below_trans HW hE5 hB).grown hgs (by have := hE5.size; omega) (by rintro b ⟨⟩; exact HSh.out.lo)
            · refine (HBk.ext hE5).grown hgs ?_
              intro e
              simp only [Option.some.injEq] at e
              obtain ⟨cur, hcur⟩ := HSh.out.type
              have h8 := HBk
              unfold Blk at h8
              rw [e, hcur] at h8
              cases h8
            · have h8 := HST.out
              rw [if_neg (by simp)] at h8
              exact h8.symm
          case measure => simp [intOf]; omega
        · have hz : (se != 0) = true := by simpa using hse
          go_wp2_with (first
            | (go_at_call 67; go_must (refine (ARM67.out _ (Below.refl _ _)).mono ?_; rintro e w2 ⟨pl, cl, rfl, hb2, hol⟩; have hnk := HKW.out.ext hb2))
            | (go_at_call 66; go_must (refine (next66 pk pl np cp (m + 1) cl N last picks (leftF own all) _ hnk (rd_fr_of_owns hol (Nat.le_refl _)).1 (by omega) HBD.out (by omega)).mono ?_; rintro e w3 ⟨rfl, hb3⟩; rw [hi.out]; clear hnk; have hE3 := ext_trans hb2 hb3; have hbc3 := (HBk.ext hE3).cell))
            | (go_at_call 68; go_must (refine (HSh.out.at68 _ hE3).mono ?_; rintro e w4 ⟨rfl, hb4⟩; have hE4 := ext_trans hE3 hb4; obtain ⟨hq1, hq2⟩ := HSh.out.cells _ hE4; have hq3 : ∀ j, j < 12 → w4.cell? ⟨g, k * 12 + j, none⟩ = (#[.int .i64 x.pc, .int .i64 x.job, .int .i64 x.r0, .int .i64 x.r1, .int .i64 x.r2, .int .i64 x.r3, .int .i64 x.r4, .int .i64 x.r5, .int .i64 x.r6, .int .i64 x.r7, .bool x.done, .int .i64 x.out] : Array Value)[j]? := hq1; clear hq1))
            | (go_at_call 12; go_must (refine (HD.out _ (HRd.out.ext hE4)).mono ?_; rintro e w5 ⟨p5, c5, rfl, hb5, hr5, hf5⟩; have hE5 := ext_trans hE4 hb5; obtain ⟨hq4, hq5⟩ := HSh.out.cells _ hE5; have hq6 : ∀ j, j < 12 → w5.cell? ⟨g, k * 12 + j, none⟩ = (#[.int .i64 x.pc, .int .i64 x.job, .int .i64 x.r0, .int .i64 x.r1, .int .i64 x.r2, .int .i64 x.r3, .int .i64 x.r4, .int .i64 x.r5, .int .i64 x.r6, .int .i64 x.r7, .bool x.done, .int .i64 x.out] : Array Value)[j]? := hq4; clear hq4; have hq7 := HSh.out.frozen _ hE5; simp only [Wk.v, Wk.cells])))
          have hgs := set12_grown w5 g k x'
          have h8 := HST.out
          rw [if_pos hse] at h8
          refine bodyPost_ret (v := .tuple #[.slice none 0 0, .int .i64 se]) (by simp [results, Try.results41, go_sem]) rfl ⟨?_, (HKp.out.ext HW.size hE5).grown (Nat.le_trans HW.size hE5.size) hgs HSh.out.blk, fun h => ?_, fun hne => ?_⟩
          · exact (below_trans HW hE5 hB).grown hgs (by have := hE5.size; omega) (by rintro b ⟨⟩; exact HSh.out.lo)
          · rw [h8] at h; exact absurd h hse
          · rw [h8]

end Go.Proofs.Ytdnajckhnknlcaa
