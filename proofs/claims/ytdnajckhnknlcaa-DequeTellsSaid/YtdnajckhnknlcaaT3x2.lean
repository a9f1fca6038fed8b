/-
  What this law needs beside the contracts, part 2.
-/
import Derived.Test.YtdnajckhnknlcaaT3x1
import Derived.OrdersHeld
import Derived.Deep.RegionHeld3
import Derived.Deep.DeepCutAuto

/-! New of any room; two workers that are the same. -/
namespace Go.Proofs.Ytdnajckhnknlcaa
set_option linter.unusedVariables false
set_option linter.unusedSimpArgs false
open Go.RowKit

theorem new17_any (room : Int) (w : World) : Calls Try.prog 17 #[.int .i64 room] w fun e w' => ∃ p c, e = .returned (.slice p (newF room).length c) ∧ Below w.heap.size w w' ∧ Rd w' 1 p (newF room).length c (ints (newF room)) := by
  by_cases h : may room = true
  · obtain ⟨r, rfl⟩ : ∃ r : Nat, room = (r : Int) := ⟨room.toNat, by simp [may] at h; omega⟩
    have h1 : 1 ≤ r ∧ r ≤ 1000 := by simp [may] at h; omega
    have e : newF (r : Int) = List.replicate (r + 2) 0 := by unfold newF; rw [if_pos h]; simp
    rw [e, List.length_replicate]
    refine (new_17 r w h1.1 h1.2).mono ?_
    rintro e w' ⟨p, c, rfl, h2, h3⟩
    exact ⟨p, c, rfl, h2, (rd_fr_of_owns h3 (Nat.le_refl _)).1⟩
  · have e : newF room = [] := by unfold newF; rw [if_neg h]
    rw [e]
    refine (new_no 17 (.inl rfl) room w (by simpa using h)).mono ?_
    rintro e w' ⟨rfl, rfl⟩
    exact ⟨none, 0, rfl, Below.refl _ _, Rd.nil' _ _⟩
theorem new18_any (room : Int) (w : World) : Calls Try.prog 18 #[.int .i64 room] w fun e w' => ∃ p c, e = .returned (.slice p (newF room).length c) ∧ Below w.heap.size w w' ∧ Rd w' 1 p (newF room).length c (ints (newF room)) := by
  by_cases h : may room = true
  · obtain ⟨r, rfl⟩ : ∃ r : Nat, room = (r : Int) := ⟨room.toNat, by simp [may] at h; omega⟩
    have h1 : 1 ≤ r ∧ r ≤ 1000 := by simp [may] at h; omega
    have e : newF (r : Int) = List.replicate (r + 2) 0 := by unfold newF; rw [if_pos h]; simp
    rw [e, List.length_replicate]
    refine (new_18 r w h1.1 h1.2).mono ?_
    rintro e w' ⟨p, c, rfl, h2, h3⟩
    exact ⟨p, c, rfl, h2, (rd_fr_of_owns h3 (Nat.le_refl _)).1⟩
  · have e : newF room = [] := by unfold newF; rw [if_neg h]
    rw [e]
    refine (new_no 18 (.inr rfl) room w (by simpa using h)).mono ?_
    rintro e w' ⟨rfl, rfl⟩
    exact ⟨none, 0, rfl, Below.refl _ _, Rd.nil' _ _⟩

theorem newF_len (room : Int) : (newF room).length ≤ 1002 := by
  unfold newF
  split
  · rename_i h; simp [may] at h; simp; omega
  · simp
theorem tasksF_len (xs : List Int) (at_ room : Int) : (tasksF xs at_ room).length ≤ 1000 := by
  unfold tasksF
  split
  · simp
  · rename_i h
    have hm : may room = true := by
      rcases hb : may room with _ | _
      · exact absurd (.inl hb) h
      · rfl
    simp [may] at hm
    rw [taskTo_len]
    omega

theorem same_v (x : Wk) (W : World) : (binOp .eql 25 x.v x.v).run Try.prog W = .ok (.bool true) W := by rw [run_eql_wk]; simp
theorem diff_v (x : Wk) (W : World) : (binOp .neq 25 x.v x.v).run Try.prog W = .ok (.bool false) W := by rw [run_neq_wk]; simp

@[go_sem high] theorem run_eql_same (a b c d e f g h i j l : Int) (k : Bool) (W : World) : (binOp .eql 25 (.agg #[.int .i64 a, .int .i64 b, .int .i64 c, .int .i64 d, .int .i64 e, .int .i64 f, .int .i64 g, .int .i64 h, .int .i64 i, .int .i64 j, .bool k, .int .i64 l]) (.agg #[.int .i64 a, .int .i64 b, .int .i64 c, .int .i64 d, .int .i64 e, .int .i64 f, .int .i64 g, .int .i64 h, .int .i64 i, .int .i64 j, .bool k, .int .i64 l])).run Try.prog W = .ok (.bool true) W := same_v ⟨a, b, c, d, e, f, g, h, i, j, k, l⟩ W
@[go_sem high] theorem run_neq_same (a b c d e f g h i j l : Int) (k : Bool) (W : World) : (binOp .neq 25 (.agg #[.int .i64 a, .int .i64 b, .int .i64 c, .int .i64 d, .int .i64 e, .int .i64 f, .int .i64 g, .int .i64 h, .int .i64 i, .int .i64 j, .bool k, .int .i64 l]) (.agg #[.int .i64 a, .int .i64 b, .int .i64 c, .int .i64 d, .int .i64 e, .int .i64 f, .int .i64 g, .int .i64 h, .int .i64 i, .int .i64 j, .bool k, .int .i64 l])).run Try.prog W = .ok (.bool false) W := diff_v ⟨a, b, c, d, e, f, g, h, i, j, k, l⟩ W

end Go.Proofs.Ytdnajckhnknlcaa

/-! A statement that draws its order: a call that only computes may come first. -/
namespace Go.Proofs.Ytdnajckhnknlcaa
set_option linter.unusedVariables false
set_option linter.unusedSimpArgs false
open Go.RowKit

section
variable {P : Program} {ops : Array Oper} {Q : Exit → Act → World → Prop} {md : Region.Mode} {S : World → Prop}

/-- In the state a the operation is a call; in every world that meets S it hands v back, and the world is as it was. -/
def Computes (P : Program) (ops : Array Oper) (S : World → Prop) (o : Oper) (v : Value) (a : Act) : Prop :=
  Region.wanted o (yielded ops a.tmps) = true ∧ ∀ w, S w → ∃ f args, (execOp a.eval o).run P w = .ok (.enter f args) w ∧ Calls P f args w fun e w' => e = .returned v ∧ w = w'

/-- It may be carried out where it stands. -/
theorem Computes.here {i : Nat} {o : Oper} {v : Value} {a : Act} {w : World} {K : Act → World → Prop} (h : Computes P ops S o v a) (hi : ops[i]? = some o) (hS : S w) (hK : K (a.put o.dst v) w) : wpOp P ops Q i K a w := by
  obtain ⟨hw, hc⟩ := h
  obtain ⟨f, args, hr, hcall⟩ := hc w hS
  show (match ops[i]? with | none => _ | some o => _)
  rw [hi]
  simp only [hw, if_true]
  left
  unfold Oper.wp
  rw [hr]
  exact hcall.mono fun e w' hh => by obtain ⟨rfl, rfl⟩ := hh; exact hK

/-- What a state keeps when an operation is carried out, it still has behind it. -/
theorem wpOp_keeps {j : Nat} {o : Oper} {Y : Act → Prop} {K : Act → World → Prop} {a : Act} {w : World} (hj : ops[j]? = some o) (hput : ∀ b u, Y b → Y (b.put o.dst u)) (hdef : ∀ (b : Act) (d : Deferred), Y b → Y { b with defers := d :: b.defers })
    (hy : Y a) (h : wpOp P ops Q j K a w) : wpOp P ops Q j (fun a' w' => Y a' ∧ K a' w') a w := by
  have hshape : ∀ K', wpOp P ops Q j K' a w = if Region.wanted o (yielded ops a.tmps) then o.wp P a w K' Q ∨ (o.asks P a w ∧ LetsOut Q) else K' (a.put o.dst undef) w := by
    intro K'; unfold wpOp; rw [hj]
  rw [hshape] at h ⊢
  cases hwanted : Region.wanted o (yielded ops a.tmps) with
  | false =>
    rw [hwanted] at h
    exact ⟨hput a _ hy, h⟩
  | true =>
    rw [hwanted] at h
    refine Or.imp_left (fun h1 => ?_) h
    unfold Oper.wp at h1 ⊢
    revert h1
    cases (execOp a.eval o).run P w with
    | halt x w' => cases x <;> exact id
    | ok n w' =>
      cases n with
      | value u => exact fun h1 => ⟨hput a u hy, h1⟩
      | skip => exact fun h1 => ⟨hput a _ hy, h1⟩
      | defer d => exact fun h1 => ⟨hput _ _ (hdef a d hy), h1⟩
      | row r xs => exact fun h1 => Rows.mono h1 fun u w'' hh => ⟨hput a u hy, hh⟩
      | enter f xs =>
        exact fun h1 => Calls.mono h1 fun e w'' hh => by
          cases e with
          | returned u => exact ⟨hput a u hy, hh⟩
          | panicked c => exact hh
          | outgrown => exact hh
      | _ => exact id

/-- A call that only computes may come first, where all that has not come up yet waits for it or is apart from it. -/
theorem anyH_call {i : Nat} {o : Oper} {v : Value} (hi : ops[i]? = some o) (hs : Region.noSelect ops = true) (hQ : ∀ c a w, Q (.panic c) (a.put o.dst v) w → Q (.panic c) a w) :
    ∀ (fuel : Nat) (listed : Array Bool) (a : Act) (w : World),
      (∀ j p, ops[j]? = some p → j ≠ i → listed.getD j true = false → (∀ e ∈ p.after, Region.binds md e = true → e.on ≠ i) → o.apart ops p = true) →
      i ∈ Region.ready md ops listed → Computes P ops S o v a → S w → wpAnyH P md ops Q S fuel (listed.setIfInBounds i true) (a.put o.dst v) w → wpAnyH P md ops Q S (fuel + 1) listed a w := by
  have hsel := Region.noSelect_spec hs
  intro fuel
  induction fuel with
  | zero =>
    intro listed a w _ hr hy hS hrest
    constructor
    · intro h; rw [h] at hr; cases hr
    · intro j hj
      rcases Classical.em (j = i) with e | hne
      · rw [e]; exact hy.here hi hS ⟨hS, hrest⟩
      · have hm := ready_mono hj hne
        rw [hrest.1] at hm; cases hm
  | succ fuel ih =>
    intro listed a w hfree hr hy hS hrest
    constructor
    · intro h; rw [h] at hr; cases hr
    · intro j hj
      rcases Classical.em (j = i) with e | hne
      · rw [e]; exact hy.here hi hS ⟨hS, hrest⟩
      · obtain ⟨hjun, p, hp, hall⟩ := mem_ready.1 hj
        have hwaits : ∀ e ∈ p.after, Region.binds md e = true → e.on ≠ i := by
          intro e he hb heq
          have q1 := hall e he hb
          have q0 := (mem_ready.1 hr).1
          rw [heq] at q1
          by_cases hlt : i < listed.size
          · simp only [Array.getD, hlt, dif_pos] at q0 q1
            rw [q0] at q1; cases q1
          · simp only [Array.getD, hlt, dif_neg, not_false_eq_true] at q1
            cases q1
        have hap := hfree j p hp hne hjun hwaits
        obtain ⟨_, _, hlook⟩ := Oper.apart_spec hap
        have step := hrest.2 j (ready_mono hj hne)
        have hno : YieldsIf P ops (fun _ => False) o v a := .inl ⟨hy.1, fun _ hf => hf.elim⟩
        have moved := wpOp_putIf hp hap (fun cs b => hsel i o cs b hi) (fun cs b => hsel j p cs b hp) hQ hno step
        have kept := wpOp_keeps (Y := Computes P ops S o v) hp
          (fun b u hb => ⟨by rw [wanted_put o b p.dst u hlook]; exact hb.1, fun w hw => by rw [execOp_put o (fun cs c => hsel i o cs c hi) b p.dst u hlook]; exact hb.2 w hw⟩)
          (fun b d hb => hb) hy moved
        refine wpOp_mono (fun a' w' hh => ?_) kept
        obtain ⟨hy', _, hS', hrest'⟩ := hh
        refine ⟨hS', ih (listed.setIfInBounds j true) a' w' ?_ (ready_mono hr (Ne.symm hne)) hy' hS' ?_⟩
        · intro k q hq hk hun hno2
          refine hfree k q hq hk ?_ hno2
          by_cases hjk : j = k
          · rw [← hjk]; exact hjun
          · rw [Go.getD_set_ne true hjk] at hun; exact hun
        · rw [Array.setIfInBounds_comm _ _ hne]
          exact hrest'

theorem anyH_take_call {i : Nat} {o : Oper} {v : Value} {fuel : Nat} {listed : Array Bool} {a : Act} {w : World} (hi : ops[i]? = some o)
    (hs : Region.noSelect ops = true) (hf : Region.free md ops listed i = true) (hr : (Region.ready md ops listed).contains i = true)
    (hQ : ∀ c a w, Q (.panic c) (a.put o.dst v) w → Q (.panic c) a w) (hy : Computes P ops S o v a) (hS : S w)
    (h : wpAnyH P md ops Q S fuel (listed.setIfInBounds i true) (a.put o.dst v) w) : wpAnyH P md ops Q S (fuel + 1) listed a w :=
  anyH_call hi hs hQ fuel listed a w (Region.free_spec hi hf) (by simpa using hr) hy hS h

end
end Go.Proofs.Ytdnajckhnknlcaa

/-! The walk of the law on deques and steps. -/
namespace Go.Proofs.Ytdnajckhnknlcaa
set_option linter.unusedVariables false
set_option linter.unusedSimpArgs false
open Go.RowKit

def TellsPost (w : World) (e : Ending) (w' : World) : Prop := e = .returned (.bool true) ∧ Below w.heap.size w w'

set_option maxHeartbeats 16000000 in
set_option maxRecDepth 100000 in
theorem tells3 (zs : List Int) (pa : Option Addr) (na ca : Nat) (at_ room : Int) (x : Wk) (q0 q1 q2 q3 q4 q5 q6 q7 : Int) (w : World) (hz : Rd w 1 pa na ca (ints zs)) (bz : Bd zs)
    (ha1 : -9223372036854775808 ≤ at_) (ha2 : at_ ≤ 9223372036854775807) (hr1 : -9223372036854775808 ≤ room) (hr2 : room ≤ 9223372036854775807)
    (b0 : -9223372036854775808 ≤ q0 ∧ q0 ≤ 9223372036854775807) (b1 : -9223372036854775808 ≤ q1 ∧ q1 ≤ 9223372036854775807) (b2 : -9223372036854775808 ≤ q2 ∧ q2 ≤ 9223372036854775807) (b3 : -9223372036854775808 ≤ q3 ∧ q3 ≤ 9223372036854775807)
    (b4 : -9223372036854775808 ≤ q4 ∧ q4 ≤ 9223372036854775807) (b5 : -9223372036854775808 ≤ q5 ∧ q5 ≤ 9223372036854775807) (b6 : -9223372036854775808 ≤ q6 ∧ q6 ≤ 9223372036854775807) (b7 : -9223372036854775808 ≤ q7 ∧ q7 ≤ 9223372036854775807) :
    Calls Try.prog 3 #[.slice pa na ca, .int .i64 at_, .int .i64 room, x.v, .agg #[.int .i64 q0, .int .i64 q1, .int .i64 q2, .int .i64 q3, .int .i64 q4, .int .i64 q5, .int .i64 q6, .int .i64 q7]] w (TellsPost w) := by
  obtain ⟨pc, job, r0, r1, r2, r3, r4, r5, r6, r7, dd, out⟩ := x
  have HZ := Lib.hid hz
  have BZ := Lib.hid bz
  clear hz bz
  show Calls Try.prog 3 #[.slice pa na ca, .int .i64 at_, .int .i64 room, .agg #[.int .i64 pc, .int .i64 job, .int .i64 r0, .int .i64 r1, .int .i64 r2, .int .i64 r3, .int .i64 r4, .int .i64 r5, .int .i64 r6, .int .i64 r7, .bool dd, .int .i64 out], .agg #[.int .i64 q0, .int .i64 q1, .int .i64 q2, .int .i64 q3, .int .i64 q4, .int .i64 q5, .int .i64 q6, .int .i64 q7]] w (TellsPost w)
  go_enter Try.func3, Try.ntmps3
  go_wp2_with fail
  refine (awake10 _).mono ?_
  rintro e w1 ⟨rfl, hw1⟩
  have hbx : Blk w1 w.heap.size 25 #[.int .i64 pc, .int .i64 job, .int .i64 r0, .int .i64 r1, .int .i64 r2, .int .i64 r3, .int .i64 r4, .int .i64 r5, .int .i64 r6, .int .i64 r7, .bool dd, .int .i64 out] := ((Blk.new w 25 _).alloc _).ext hw1
  have hbr : Blk w1 (w.heap.size + 1) 23 #[.int .i64 q0, .int .i64 q1, .int .i64 q2, .int .i64 q3, .int .i64 q4, .int .i64 q5, .int .i64 q6, .int .i64 q7] := by
    have h9 := (Blk.new (w.alloc (.cells #[.int .i64 pc, .int .i64 job, .int .i64 r0, .int .i64 r1, .int .i64 r2, .int .i64 r3, .int .i64 r4, .int .i64 r5, .int .i64 r6, .int .i64 r7, .bool dd, .int .i64 out] 25)) 23 #[.int .i64 q0, .int .i64 q1, .int .i64 q2, .int .i64 q3, .int .i64 q4, .int .i64 q5, .int .i64 q6, .int .i64 q7]).ext hw1
    simpa using h9
  have HW1 : Hid (Below w.heap.size w w1) := ext_trans (ext_alloc (ext_alloc (Below.refl _ _) _) _) hw1
  have HBX := Lib.hid hbx
  have HBR := Lib.hid hbr
  clear hw1 hbx hbr
  go_upto_if 30 with fail
  go_cut [12] (fun v12 wx => ∃ (p : Option Addr) (c : Nat) (xs : List Int), v12 = .slice p xs.length c ∧ xs.length ≤ 30 ∧ Hid (Rd w 1 p xs.length c (ints xs)) ∧ Hid (Bd xs) ∧ wx = w1)
  case first =>
    have hzl : zs.length = na := by have := HZ.out.len; rw [ints_len] at this; omega
    by_cases h30 : 30 < na
    · obtain ⟨bz', oz', rfl⟩ := HZ.out.addr (by omega) (by decide)
      have hcap := HZ.out.cap
      have hp30 := HZ.out.part 0 30 (by omega) (zs.take 30) (by simp)
      simp only [Nat.add_zero, Nat.sub_zero] at hp30
      have hl30 : (zs.take 30).length = 30 := by rw [List.length_take]; omega
      have hb30 : Bd (zs.take 30) := by
        intro i hi
        rw [hl30] at hi
        have := BZ.out i (by omega)
        rwa [show (zs.take 30).getD i 0 = zs.getD i 0 by simp [List.getD_eq_getElem?_getD, List.getElem?_take, hi]]
      have hsl := fun (W : World) => run_slice_hi W bz' oz' na ca 30 30 (by omega) rfl
      have HL30 := Lib.hid hl30
      have HP30 := Lib.hid hp30
      have HB30 := Lib.hid hb30
      clear hl30 hp30 hb30 hzl
      go_wp2_with fail
      go_meet
      exact ⟨some ⟨bz', oz', none⟩, ca, zs.take 30, by rw [HL30.out], by rw [HL30.out]; omega, by rw [HL30.out]; exact HP30.out, HB30.out, rfl⟩
    · have HZL := Lib.hid hzl
      clear hzl
      go_wp2_with fail
      go_meet
      exact ⟨pa, ca, zs, by rw [HZL.out], by rw [HZL.out]; omega, by rw [HZL.out]; exact HZ.out, BZ.out, rfl⟩
  case rest =>
    obtain ⟨p, c, xs, rfl, hxl, HP, BP, hwc⟩ := hcut
    subst hwc
    obtain ⟨w2, hw2⟩ : ∃ w2 : World, w2 = wc := ⟨_, rfl⟩
    subst hw2
    have hP1 := HP.out.ext HW1.out
    have HP1 := Lib.hid hP1
    clear hP1
    apply_assumption
    go_upto_region 5 with fail
    go_cut [13] (fun v13 wx => ∃ (g : Nat) (y : Wk), v13 = .pointer (some ⟨g, 0, none⟩) ∧ Blk wx g 25 y.cells ∧ w2.heap.size ≤ g ∧ Below w2.heap.size w2 wx)
    case first =>
      obtain ⟨k0, hk0⟩ : ∃ k : Nat, pickF q0 3 = (k : Int) := ⟨(pickF q0 3).toNat, by have := pickF_lo q0 3 (by decide); omega⟩
      have hl0 : k0 < 3 := by have := pickF_hi q0 3 (by decide); omega
      have K0 := Lib.hid hk0
      clear hk0
      obtain ⟨k1, hk1⟩ : ∃ k : Nat, pickF q1 6 = (k : Int) := ⟨(pickF q1 6).toNat, by have := pickF_lo q1 6 (by decide); omega⟩
      have hl1 : k1 < 6 := by have := pickF_hi q1 6 (by decide); omega
      have K1 := Lib.hid hk1
      clear hk1
      obtain ⟨k6, hk6⟩ : ∃ k : Nat, pickF q6 3 = (k : Int) := ⟨(pickF q6 3).toNat, by have := pickF_lo q6 3 (by decide); omega⟩
      have hl6 : k6 < 3 := by have := pickF_hi q6 3 (by decide); omega
      have K6 := Lib.hid hk6
      clear hk6
      obtain ⟨k2, hk2⟩ : ∃ k : Nat, pickF q2 9 = (k : Int) := ⟨(pickF q2 9).toNat, by have := pickF_lo q2 9 (by decide); omega⟩
      have hl2 : k2 < 9 := by have := pickF_hi q2 9 (by decide); omega
      have K2 := Lib.hid hk2
      clear hk2
      obtain ⟨k3, hk3⟩ : ∃ k : Nat, pickF q3 6 = (k : Int) := ⟨(pickF q3 6).toNat, by have := pickF_lo q3 6 (by decide); omega⟩
      have hl3 : k3 < 6 := by have := pickF_hi q3 6 (by decide); omega
      have K3 := Lib.hid hk3
      clear hk3
      obtain ⟨k4, hk4⟩ : ∃ k : Nat, pickF q4 6 = (k : Int) := ⟨(pickF q4 6).toNat, by have := pickF_lo q4 6 (by decide); omega⟩
      have hl4 : k4 < 6 := by have := pickF_hi q4 6 (by decide); omega
      have K4 := Lib.hid hk4
      clear hk4
      obtain ⟨k5, hk5⟩ : ∃ k : Nat, pickF q5 9 = (k : Int) := ⟨(pickF q5 9).toNat, by have := pickF_lo q5 9 (by decide); omega⟩
      have hl5 : k5 < 9 := by have := pickF_hi q5 9 (by decide); omega
      have K5 := Lib.hid hk5
      clear hk5
      refine wp_region_held_drew (S := fun W => Blk W (w.heap.size + 1) 23 #[.int .i64 q0, .int .i64 q1, .int .i64 q2, .int .i64 q3, .int .i64 q4, .int .i64 q5, .int .i64 q6, .int .i64 q7]) (by kernel_rfl) HBR.out (fun hHeld => ?_)
      refine wpAnyH_take (i := 1) (v := ?_) rfl (by kernel_rfl) (by kernel_rfl) (by kernel_rfl) (fun _ _ _ h => h) (Or.inl ⟨by rfl, ?_⟩) hHeld ?_
      rotate_left 1
      · intro W hW
        have hWc := hW.cell
        go_simp
        with_reducible rfl
      try simp only [Act.put, List.getElem_toArray, List.getElem_cons_zero, List.getElem_cons_succ, List.setIfInBounds_toArray, List.set_cons_zero, List.set_cons_succ]
      refine wpAnyH_take (i := 2) (v := ?_) rfl (by kernel_rfl) (by kernel_rfl) (by kernel_rfl) (fun _ _ _ h => h) (Or.inl ⟨by rfl, ?_⟩) hHeld ?_
      rotate_left 1
      · intro W hW
        have hWc := hW.cell
        go_simp
        with_reducible rfl
      try simp only [Act.put, List.getElem_toArray, List.getElem_cons_zero, List.getElem_cons_succ, List.setIfInBounds_toArray, List.set_cons_zero, List.set_cons_succ]
      refine anyH_take_call (i := 3) (v := .int .i64 (k0 : Int)) rfl (by kernel_rfl) (by kernel_rfl) (by kernel_rfl) (fun _ _ _ h => h) ⟨by rfl, fun W hW => ⟨11, #[.int .i64 q0, .int .i64 3], ?_, (pick11 q0 3 W b0.1 b0.2 (by decide) (by decide)).mono fun e W' h => by rw [← K0.out]; exact h⟩⟩ hHeld ?_
      · go_simp
      try simp only [Act.put, List.getElem_toArray, List.getElem_cons_zero, List.getElem_cons_succ, List.setIfInBounds_toArray, List.set_cons_zero, List.set_cons_succ]
      refine wpAnyH_take (i := 6) (v := ?_) rfl (by kernel_rfl) (by kernel_rfl) (by kernel_rfl) (fun _ _ _ h => h) (Or.inl ⟨by rfl, ?_⟩) hHeld ?_
      rotate_left 1
      · intro W hW
        have hWc := hW.cell
        go_simp
        with_reducible rfl
      try simp only [Act.put, List.getElem_toArray, List.getElem_cons_zero, List.getElem_cons_succ, List.setIfInBounds_toArray, List.set_cons_zero, List.set_cons_succ]
      refine wpAnyH_take (i := 7) (v := ?_) rfl (by kernel_rfl) (by kernel_rfl) (by kernel_rfl) (fun _ _ _ h => h) (Or.inl ⟨by rfl, ?_⟩) hHeld ?_
      rotate_left 1
      · intro W hW
        have hWc := hW.cell
        go_simp
        with_reducible rfl
      try simp only [Act.put, List.getElem_toArray, List.getElem_cons_zero, List.getElem_cons_succ, List.setIfInBounds_toArray, List.set_cons_zero, List.set_cons_succ]
      refine anyH_take_call (i := 8) (v := .int .i64 (k1 : Int)) rfl (by kernel_rfl) (by kernel_rfl) (by kernel_rfl) (fun _ _ _ h => h) ⟨by rfl, fun W hW => ⟨11, #[.int .i64 q1, .int .i64 6], ?_, (pick11 q1 6 W b1.1 b1.2 (by decide) (by decide)).mono fun e W' h => by rw [← K1.out]; exact h⟩⟩ hHeld ?_
      · go_simp
      try simp only [Act.put, List.getElem_toArray, List.getElem_cons_zero, List.getElem_cons_succ, List.setIfInBounds_toArray, List.set_cons_zero, List.set_cons_succ]
      refine wpAnyH_take (i := 9) (v := ?_) rfl (by kernel_rfl) (by kernel_rfl) (by kernel_rfl) (fun _ _ _ h => h) (Or.inl ⟨by rfl, ?_⟩) hHeld ?_
      rotate_left 1
      · intro W hW
        have hWc := hW.cell
        go_simp
        with_reducible rfl
      try simp only [Act.put, List.getElem_toArray, List.getElem_cons_zero, List.getElem_cons_succ, List.setIfInBounds_toArray, List.set_cons_zero, List.set_cons_succ]
      refine wpAnyH_take (i := 10) (v := ?_) rfl (by kernel_rfl) (by kernel_rfl) (by kernel_rfl) (fun _ _ _ h => h) (Or.inl ⟨by rfl, ?_⟩) hHeld ?_
      rotate_left 1
      · intro W hW
        have hWc := hW.cell
        go_simp
        with_reducible rfl
      try simp only [Act.put, List.getElem_toArray, List.getElem_cons_zero, List.getElem_cons_succ, List.setIfInBounds_toArray, List.set_cons_zero, List.set_cons_succ]
      refine anyH_take_call (i := 11) (v := .int .i64 (k6 : Int)) rfl (by kernel_rfl) (by kernel_rfl) (by kernel_rfl) (fun _ _ _ h => h) ⟨by rfl, fun W hW => ⟨11, #[.int .i64 q6, .int .i64 3], ?_, (pick11 q6 3 W b6.1 b6.2 (by decide) (by decide)).mono fun e W' h => by rw [← K6.out]; exact h⟩⟩ hHeld ?_
      · go_simp
      try simp only [Act.put, List.getElem_toArray, List.getElem_cons_zero, List.getElem_cons_succ, List.setIfInBounds_toArray, List.set_cons_zero, List.set_cons_succ]
      refine wpAnyH_take (i := 12) (v := ?_) rfl (by kernel_rfl) (by kernel_rfl) (by kernel_rfl) (fun _ _ _ h => h) (Or.inl ⟨by rfl, ?_⟩) hHeld ?_
      rotate_left 1
      · intro W hW
        have hWc := hW.cell
        go_simp
        with_reducible rfl
      try simp only [Act.put, List.getElem_toArray, List.getElem_cons_zero, List.getElem_cons_succ, List.setIfInBounds_toArray, List.set_cons_zero, List.set_cons_succ]
      refine wpAnyH_take (i := 13) (v := ?_) rfl (by kernel_rfl) (by kernel_rfl) (by kernel_rfl) (fun _ _ _ h => h) (Or.inl ⟨by rfl, ?_⟩) hHeld ?_
      rotate_left 1
      · intro W hW
        have hWc := hW.cell
        go_simp
        with_reducible rfl
      try simp only [Act.put, List.getElem_toArray, List.getElem_cons_zero, List.getElem_cons_succ, List.setIfInBounds_toArray, List.set_cons_zero, List.set_cons_succ]
      refine anyH_take_call (i := 14) (v := .int .i64 (k2 : Int)) rfl (by kernel_rfl) (by kernel_rfl) (by kernel_rfl) (fun _ _ _ h => h) ⟨by rfl, fun W hW => ⟨11, #[.int .i64 q2, .int .i64 9], ?_, (pick11 q2 9 W b2.1 b2.2 (by decide) (by decide)).mono fun e W' h => by rw [← K2.out]; exact h⟩⟩ hHeld ?_
      · go_simp
      try simp only [Act.put, List.getElem_toArray, List.getElem_cons_zero, List.getElem_cons_succ, List.setIfInBounds_toArray, List.set_cons_zero, List.set_cons_succ]
      refine wpAnyH_take (i := 15) (v := ?_) rfl (by kernel_rfl) (by kernel_rfl) (by kernel_rfl) (fun _ _ _ h => h) (Or.inl ⟨by rfl, ?_⟩) hHeld ?_
      rotate_left 1
      · intro W hW
        have hWc := hW.cell
        go_simp
        with_reducible rfl
      try simp only [Act.put, List.getElem_toArray, List.getElem_cons_zero, List.getElem_cons_succ, List.setIfInBounds_toArray, List.set_cons_zero, List.set_cons_succ]
      refine wpAnyH_take (i := 16) (v := ?_) rfl (by kernel_rfl) (by kernel_rfl) (by kernel_rfl) (fun _ _ _ h => h) (Or.inl ⟨by rfl, ?_⟩) hHeld ?_
      rotate_left 1
      · intro W hW
        have hWc := hW.cell
        go_simp
        with_reducible rfl
      try simp only [Act.put, List.getElem_toArray, List.getElem_cons_zero, List.getElem_cons_succ, List.setIfInBounds_toArray, List.set_cons_zero, List.set_cons_succ]
      refine anyH_take_call (i := 17) (v := .int .i64 (k3 : Int)) rfl (by kernel_rfl) (by kernel_rfl) (by kernel_rfl) (fun _ _ _ h => h) ⟨by rfl, fun W hW => ⟨11, #[.int .i64 q3, .int .i64 6], ?_, (pick11 q3 6 W b3.1 b3.2 (by decide) (by decide)).mono fun e W' h => by rw [← K3.out]; exact h⟩⟩ hHeld ?_
      · go_simp
      try simp only [Act.put, List.getElem_toArray, List.getElem_cons_zero, List.getElem_cons_succ, List.setIfInBounds_toArray, List.set_cons_zero, List.set_cons_succ]
      refine wpAnyH_take (i := 18) (v := ?_) rfl (by kernel_rfl) (by kernel_rfl) (by kernel_rfl) (fun _ _ _ h => h) (Or.inl ⟨by rfl, ?_⟩) hHeld ?_
      rotate_left 1
      · intro W hW
        have hWc := hW.cell
        go_simp
        with_reducible rfl
      try simp only [Act.put, List.getElem_toArray, List.getElem_cons_zero, List.getElem_cons_succ, List.setIfInBounds_toArray, List.set_cons_zero, List.set_cons_succ]
      refine wpAnyH_take (i := 19) (v := ?_) rfl (by kernel_rfl) (by kernel_rfl) (by kernel_rfl) (fun _ _ _ h => h) (Or.inl ⟨by rfl, ?_⟩) hHeld ?_
      rotate_left 1
      · intro W hW
        have hWc := hW.cell
        go_simp
        with_reducible rfl
      try simp only [Act.put, List.getElem_toArray, List.getElem_cons_zero, List.getElem_cons_succ, List.setIfInBounds_toArray, List.set_cons_zero, List.set_cons_succ]
      refine wpAnyH_take (i := 20) (v := ?_) rfl (by kernel_rfl) (by kernel_rfl) (by kernel_rfl) (fun _ _ _ h => h) (Or.inl ⟨by rfl, ?_⟩) hHeld ?_
      rotate_left 1
      · intro W hW
        have hWc := hW.cell
        go_simp
        with_reducible rfl
      try simp only [Act.put, List.getElem_toArray, List.getElem_cons_zero, List.getElem_cons_succ, List.setIfInBounds_toArray, List.set_cons_zero, List.set_cons_succ]
      refine anyH_take_call (i := 21) (v := .int .i64 (k4 : Int)) rfl (by kernel_rfl) (by kernel_rfl) (by kernel_rfl) (fun _ _ _ h => h) ⟨by rfl, fun W hW => ⟨11, #[.int .i64 q4, .int .i64 6], ?_, (pick11 q4 6 W b4.1 b4.2 (by decide) (by decide)).mono fun e W' h => by rw [← K4.out]; exact h⟩⟩ hHeld ?_
      · go_simp
      try simp only [Act.put, List.getElem_toArray, List.getElem_cons_zero, List.getElem_cons_succ, List.setIfInBounds_toArray, List.set_cons_zero, List.set_cons_succ]
      refine wpAnyH_take (i := 22) (v := ?_) rfl (by kernel_rfl) (by kernel_rfl) (by kernel_rfl) (fun _ _ _ h => h) (Or.inl ⟨by rfl, ?_⟩) hHeld ?_
      rotate_left 1
      · intro W hW
        have hWc := hW.cell
        go_simp
        with_reducible rfl
      try simp only [Act.put, List.getElem_toArray, List.getElem_cons_zero, List.getElem_cons_succ, List.setIfInBounds_toArray, List.set_cons_zero, List.set_cons_succ]
      refine wpAnyH_take (i := 23) (v := ?_) rfl (by kernel_rfl) (by kernel_rfl) (by kernel_rfl) (fun _ _ _ h => h) (Or.inl ⟨by rfl, ?_⟩) hHeld ?_
      rotate_left 1
      · intro W hW
        have hWc := hW.cell
        go_simp
        with_reducible rfl
      try simp only [Act.put, List.getElem_toArray, List.getElem_cons_zero, List.getElem_cons_succ, List.setIfInBounds_toArray, List.set_cons_zero, List.set_cons_succ]
      refine wpAnyH_take (i := 24) (v := ?_) rfl (by kernel_rfl) (by kernel_rfl) (by kernel_rfl) (fun _ _ _ h => h) (Or.inl ⟨by rfl, ?_⟩) hHeld ?_
      rotate_left 1
      · intro W hW
        have hWc := hW.cell
        go_simp
        with_reducible rfl
      try simp only [Act.put, List.getElem_toArray, List.getElem_cons_zero, List.getElem_cons_succ, List.setIfInBounds_toArray, List.set_cons_zero, List.set_cons_succ]
      refine anyH_take_call (i := 25) (v := .int .i64 (k5 : Int)) rfl (by kernel_rfl) (by kernel_rfl) (by kernel_rfl) (fun _ _ _ h => h) ⟨by rfl, fun W hW => ⟨11, #[.int .i64 q5, .int .i64 9], ?_, (pick11 q5 9 W b5.1 b5.2 (by decide) (by decide)).mono fun e W' h => by rw [← K5.out]; exact h⟩⟩ hHeld ?_
      · go_simp
      try simp only [Act.put, List.getElem_toArray, List.getElem_cons_zero, List.getElem_cons_succ, List.setIfInBounds_toArray, List.set_cons_zero, List.set_cons_succ]
      refine wpAnyH_take (i := 26) (v := ?_) rfl (by kernel_rfl) (by kernel_rfl) (by kernel_rfl) (fun _ _ _ h => h) (Or.inl ⟨by rfl, ?_⟩) hHeld ?_
      rotate_left 1
      · intro W hW
        have hWc := hW.cell
        go_simp
        with_reducible rfl
      try simp only [Act.put, List.getElem_toArray, List.getElem_cons_zero, List.getElem_cons_succ, List.setIfInBounds_toArray, List.set_cons_zero, List.set_cons_succ]
      have hix : ∀ h : k0 < [Value.int .i64 7, Value.int .i64 6, Value.int .i64 5].length, [Value.int .i64 7, Value.int .i64 6, Value.int .i64 5][k0]'h = .int .i64 (7 - (k0 : Int)) := by
        intro h
        have hk3 : k0 = 0 ∨ k0 = 1 ∨ k0 = 2 := by omega
        rcases hk3 with rfl | rfl | rfl <;> rfl
      have hsz : w.heap.size + 1 < w2.heap.size := HBR.out.lt
      have hk3i : (k0 : Int) < 3 := by omega
      refine wpAnyH_ready (rs := [0, 28]) (by kernel_rfl) (by simp) ?_
      refine AllReadyH.cons rfl (fun K hK => ?_) (AllReadyH.cons rfl (fun K hK => ?_) AllReadyH.nil)
      · try simp only [Act.put, List.getElem_toArray, List.getElem_cons_zero, List.getElem_cons_succ, List.setIfInBounds_toArray, List.set_cons_zero, List.set_cons_succ]
        go_simp
        refine hK.out _ _ ?_ (fun hHeld => ?_)
        · repeat (first | exact HBR.out | with_reducible apply Blk.drew | with_reducible apply Blk.alloc | (with_reducible refine Blk.setOther ?_ (by simp; omega) _))
        clear hK K
        try simp only [Act.put, List.getElem_toArray, List.getElem_cons_zero, List.getElem_cons_succ, List.setIfInBounds_toArray, List.set_cons_zero, List.set_cons_succ]
        refine wpAnyH_take (i := 4) (v := ?_) rfl (by kernel_rfl) (by kernel_rfl) (by kernel_rfl) (fun _ _ _ h => h) (Or.inl ⟨by rfl, ?_⟩) hHeld ?_
        rotate_left 1
        · intro W hW
          have hWc := hW.cell
          go_simp
          with_reducible rfl
        try simp only [Act.put, List.getElem_toArray, List.getElem_cons_zero, List.getElem_cons_succ, List.setIfInBounds_toArray, List.set_cons_zero, List.set_cons_succ]
        refine wpAnyH_ready (rs := [5, 28]) (by kernel_rfl) (by simp) ?_
        refine AllReadyH.cons rfl (fun K hK => ?_) (AllReadyH.cons rfl (fun K hK => ?_) AllReadyH.nil)
        · try simp only [Act.put, List.getElem_toArray, List.getElem_cons_zero, List.getElem_cons_succ, List.setIfInBounds_toArray, List.set_cons_zero, List.set_cons_succ]
          go_simp
          refine hK.out _ _ ?_ (fun hHeld => ?_)
          · repeat (first | exact HBR.out | with_reducible apply Blk.drew | with_reducible apply Blk.alloc | (with_reducible refine Blk.setOther ?_ (by simp; omega) _))
          clear hK K
          try simp only [Act.put, List.getElem_toArray, List.getElem_cons_zero, List.getElem_cons_succ, List.setIfInBounds_toArray, List.set_cons_zero, List.set_cons_succ]
          refine wpAnyH_take (i := 27) (v := ?_) rfl (by kernel_rfl) (by kernel_rfl) (by kernel_rfl) (fun _ _ _ h => h) (Or.inl ⟨by rfl, ?_⟩) hHeld ?_
          rotate_left 1
          · intro W hW
            have hWc := hW.cell
            go_simp
            with_reducible rfl
          try simp only [Act.put, List.getElem_toArray, List.getElem_cons_zero, List.getElem_cons_succ, List.setIfInBounds_toArray, List.set_cons_zero, List.set_cons_succ]
          refine wpAnyH_ready (rs := [28]) (by kernel_rfl) (by simp) ?_
          refine AllReadyH.cons rfl (fun K hK => ?_) AllReadyH.nil
          try simp only [Act.put, List.getElem_toArray, List.getElem_cons_zero, List.getElem_cons_succ, List.setIfInBounds_toArray, List.set_cons_zero, List.set_cons_succ]
          go_simp
          refine hK.out _ _ ?_ (fun hHeld => ?_)
          · repeat (first | exact HBR.out | with_reducible apply Blk.drew | with_reducible apply Blk.alloc | (with_reducible refine Blk.setOther ?_ (by simp; omega) _))
          clear hK K
          try simp only [Act.put, List.getElem_toArray, List.getElem_cons_zero, List.getElem_cons_succ, List.setIfInBounds_toArray, List.set_cons_zero, List.set_cons_succ]
          refine wpAnyH_ready (rs := [29]) (by kernel_rfl) (by simp) ?_
          refine AllReadyH.cons rfl (fun K hK => ?_) AllReadyH.nil
          try simp only [Act.put, List.getElem_toArray, List.getElem_cons_zero, List.getElem_cons_succ, List.setIfInBounds_toArray, List.set_cons_zero, List.set_cons_succ]
          go_simp
          refine hK.out _ _ ?_ (fun hHeld => ?_)
          · repeat (first | exact HBR.out | with_reducible apply Blk.drew | with_reducible apply Blk.alloc | (with_reducible refine Blk.setOther ?_ (by simp; omega) _))
          clear hK K
          try simp only [Act.put, List.getElem_toArray, List.getElem_cons_zero, List.getElem_cons_succ, List.setIfInBounds_toArray, List.set_cons_zero, List.set_cons_succ]
          refine wpAnyH_done (by kernel_rfl) ?_ _
          go_wp2_with fail
          go_meet
          exact ⟨w2.heap.size + 1, ⟨(k1 : Int), 7 - (k0 : Int), (k2 : Int), IntKind.i64.wrap ((k3 : Int) - 1), IntKind.i64.wrap ((k4 : Int) - 1), (k5 : Int), 0, 0, 0, 0, false, (k6 : Int)⟩, rfl, by have h9 := Blk.new (w2.alloc (.cells #[.int .i64 7, .int .i64 6, .int .i64 5] 3)) 25 (Wk.cells ⟨(k1 : Int), 7 - (k0 : Int), (k2 : Int), IntKind.i64.wrap ((k3 : Int) - 1), IntKind.i64.wrap ((k4 : Int) - 1), (k5 : Int), 0, 0, 0, 0, false, (k6 : Int)⟩); rw [show (w2.alloc (.cells #[.int .i64 7, .int .i64 6, .int .i64 5] 3)).heap.size = w2.heap.size + 1 by simp] at h9; exact h9.drew, by omega, ext_drew (ext_alloc (ext_alloc (Below.refl _ _) _) _)⟩

        · try simp only [Act.put, List.getElem_toArray, List.getElem_cons_zero, List.getElem_cons_succ, List.setIfInBounds_toArray, List.set_cons_zero, List.set_cons_succ]
          go_simp
          refine hK.out _ _ ?_ (fun hHeld => ?_)
          · repeat (first | exact HBR.out | with_reducible apply Blk.drew | with_reducible apply Blk.alloc | (with_reducible refine Blk.setOther ?_ (by simp; omega) _))
          clear hK K
          try simp only [Act.put, List.getElem_toArray, List.getElem_cons_zero, List.getElem_cons_succ, List.setIfInBounds_toArray, List.set_cons_zero, List.set_cons_succ]
          refine wpAnyH_ready (rs := [5]) (by kernel_rfl) (by simp) ?_
          refine AllReadyH.cons rfl (fun K hK => ?_) AllReadyH.nil
          try simp only [Act.put, List.getElem_toArray, List.getElem_cons_zero, List.getElem_cons_succ, List.setIfInBounds_toArray, List.set_cons_zero, List.set_cons_succ]
          go_simp
          refine hK.out _ _ ?_ (fun hHeld => ?_)
          · repeat (first | exact HBR.out | with_reducible apply Blk.drew | with_reducible apply Blk.alloc | (with_reducible refine Blk.setOther ?_ (by simp; omega) _))
          clear hK K
          try simp only [Act.put, List.getElem_toArray, List.getElem_cons_zero, List.getElem_cons_succ, List.setIfInBounds_toArray, List.set_cons_zero, List.set_cons_succ]
          refine wpAnyH_take (i := 27) (v := ?_) rfl (by kernel_rfl) (by kernel_rfl) (by kernel_rfl) (fun _ _ _ h => h) (Or.inl ⟨by rfl, ?_⟩) hHeld ?_
          rotate_left 1
          · intro W hW
            have hWc := hW.cell
            go_simp
            with_reducible rfl
          try simp only [Act.put, List.getElem_toArray, List.getElem_cons_zero, List.getElem_cons_succ, List.setIfInBounds_toArray, List.set_cons_zero, List.set_cons_succ]
          refine wpAnyH_ready (rs := [29]) (by kernel_rfl) (by simp) ?_
          refine AllReadyH.cons rfl (fun K hK => ?_) AllReadyH.nil
          try simp only [Act.put, List.getElem_toArray, List.getElem_cons_zero, List.getElem_cons_succ, List.setIfInBounds_toArray, List.set_cons_zero, List.set_cons_succ]
          go_simp
          refine hK.out _ _ ?_ (fun hHeld => ?_)
          · repeat (first | exact HBR.out | with_reducible apply Blk.drew | with_reducible apply Blk.alloc | (with_reducible refine Blk.setOther ?_ (by simp; omega) _))
          clear hK K
          try simp only [Act.put, List.getElem_toArray, List.getElem_cons_zero, List.getElem_cons_succ, List.setIfInBounds_toArray, List.set_cons_zero, List.set_cons_succ]
          refine wpAnyH_done (by kernel_rfl) ?_ _
          go_wp2_with fail
          go_meet
          exact ⟨w2.heap.size + 1, ⟨(k1 : Int), 7 - (k0 : Int), (k2 : Int), IntKind.i64.wrap ((k3 : Int) - 1), IntKind.i64.wrap ((k4 : Int) - 1), (k5 : Int), 0, 0, 0, 0, false, (k6 : Int)⟩, rfl, by have h9 := Blk.new (w2.alloc (.cells #[.int .i64 7, .int .i64 6, .int .i64 5] 3)) 25 (Wk.cells ⟨(k1 : Int), 7 - (k0 : Int), (k2 : Int), IntKind.i64.wrap ((k3 : Int) - 1), IntKind.i64.wrap ((k4 : Int) - 1), (k5 : Int), 0, 0, 0, 0, false, (k6 : Int)⟩); rw [show (w2.alloc (.cells #[.int .i64 7, .int .i64 6, .int .i64 5] 3)).heap.size = w2.heap.size + 1 by simp] at h9; exact h9.drew, by omega, ext_drew (ext_alloc (ext_alloc (Below.refl _ _) _) _)⟩


      · try simp only [Act.put, List.getElem_toArray, List.getElem_cons_zero, List.getElem_cons_succ, List.setIfInBounds_toArray, List.set_cons_zero, List.set_cons_succ]
        go_simp
        refine hK.out _ _ ?_ (fun hHeld => ?_)
        · repeat (first | exact HBR.out | with_reducible apply Blk.drew | with_reducible apply Blk.alloc | (with_reducible refine Blk.setOther ?_ (by simp; omega) _))
        clear hK K
        try simp only [Act.put, List.getElem_toArray, List.getElem_cons_zero, List.getElem_cons_succ, List.setIfInBounds_toArray, List.set_cons_zero, List.set_cons_succ]
        refine wpAnyH_ready (rs := [0]) (by kernel_rfl) (by simp) ?_
        refine AllReadyH.cons rfl (fun K hK => ?_) AllReadyH.nil
        try simp only [Act.put, List.getElem_toArray, List.getElem_cons_zero, List.getElem_cons_succ, List.setIfInBounds_toArray, List.set_cons_zero, List.set_cons_succ]
        go_simp
        refine hK.out _ _ ?_ (fun hHeld => ?_)
        · repeat (first | exact HBR.out | with_reducible apply Blk.drew | with_reducible apply Blk.alloc | (with_reducible refine Blk.setOther ?_ (by simp; omega) _))
        clear hK K
        try simp only [Act.put, List.getElem_toArray, List.getElem_cons_zero, List.getElem_cons_succ, List.setIfInBounds_toArray, List.set_cons_zero, List.set_cons_succ]
        refine wpAnyH_take (i := 4) (v := ?_) rfl (by kernel_rfl) (by kernel_rfl) (by kernel_rfl) (fun _ _ _ h => h) (Or.inl ⟨by rfl, ?_⟩) hHeld ?_
        rotate_left 1
        · intro W hW
          have hWc := hW.cell
          go_simp
          with_reducible rfl
        try simp only [Act.put, List.getElem_toArray, List.getElem_cons_zero, List.getElem_cons_succ, List.setIfInBounds_toArray, List.set_cons_zero, List.set_cons_succ]
        refine wpAnyH_ready (rs := [5]) (by kernel_rfl) (by simp) ?_
        refine AllReadyH.cons rfl (fun K hK => ?_) AllReadyH.nil
        try simp only [Act.put, List.getElem_toArray, List.getElem_cons_zero, List.getElem_cons_succ, List.setIfInBounds_toArray, List.set_cons_zero, List.set_cons_succ]
        go_simp
        refine hK.out _ _ ?_ (fun hHeld => ?_)
        · repeat (first | exact HBR.out | with_reducible apply Blk.drew | with_reducible apply Blk.alloc | (with_reducible refine Blk.setOther ?_ (by simp; omega) _))
        clear hK K
        try simp only [Act.put, List.getElem_toArray, List.getElem_cons_zero, List.getElem_cons_succ, List.setIfInBounds_toArray, List.set_cons_zero, List.set_cons_succ]
        refine wpAnyH_take (i := 27) (v := ?_) rfl (by kernel_rfl) (by kernel_rfl) (by kernel_rfl) (fun _ _ _ h => h) (Or.inl ⟨by rfl, ?_⟩) hHeld ?_
        rotate_left 1
        · intro W hW
          have hWc := hW.cell
          go_simp
          with_reducible rfl
        try simp only [Act.put, List.getElem_toArray, List.getElem_cons_zero, List.getElem_cons_succ, List.setIfInBounds_toArray, List.set_cons_zero, List.set_cons_succ]
        refine wpAnyH_ready (rs := [29]) (by kernel_rfl) (by simp) ?_
        refine AllReadyH.cons rfl (fun K hK => ?_) AllReadyH.nil
        try simp only [Act.put, List.getElem_toArray, List.getElem_cons_zero, List.getElem_cons_succ, List.setIfInBounds_toArray, List.set_cons_zero, List.set_cons_succ]
        go_simp
        refine hK.out _ _ ?_ (fun hHeld => ?_)
        · repeat (first | exact HBR.out | with_reducible apply Blk.drew | with_reducible apply Blk.alloc | (with_reducible refine Blk.setOther ?_ (by simp; omega) _))
        clear hK K
        try simp only [Act.put, List.getElem_toArray, List.getElem_cons_zero, List.getElem_cons_succ, List.setIfInBounds_toArray, List.set_cons_zero, List.set_cons_succ]
        refine wpAnyH_done (by kernel_rfl) ?_ _
        go_wp2_with fail
        go_meet
        exact ⟨w2.heap.size, ⟨(k1 : Int), 7 - (k0 : Int), (k2 : Int), IntKind.i64.wrap ((k3 : Int) - 1), IntKind.i64.wrap ((k4 : Int) - 1), (k5 : Int), 0, 0, 0, 0, false, (k6 : Int)⟩, rfl, ((Blk.new w2 25 (Wk.cells ⟨(k1 : Int), 7 - (k0 : Int), (k2 : Int), IntKind.i64.wrap ((k3 : Int) - 1), IntKind.i64.wrap ((k4 : Int) - 1), (k5 : Int), 0, 0, 0, 0, false, (k6 : Int)⟩)).alloc _).drew, Nat.le_refl _, ext_drew (ext_alloc (ext_alloc (Below.refl _ _) _) _)⟩

    case rest =>
      obtain ⟨g, y, rfl, hby, hgw, hb3⟩ := hcut
      obtain ⟨w3, hw3⟩ : ∃ w3 : World, w3 = wc := ⟨_, rfl⟩
      subst hw3
      have HBY := Lib.hid hby
      have HB3 := Lib.hid hb3
      have hsz2 : w.heap.size + 1 < w2.heap.size := HBR.out.lt
      clear hby hb3
      obtain ⟨k7, hk7⟩ : ∃ k : Nat, pickF q7 2 = (k : Int) := ⟨(pickF q7 2).toNat, by have := pickF_lo q7 2 (by decide); omega⟩
      have hl7 : k7 < 2 := by have := pickF_hi q7 2 (by decide); omega
      have K7 := Lib.hid hk7
      clear hk7
      apply_assumption
      go_upto_region 6 with fail
      go_cut [69] (fun v69 wx => ∃ bb : Bool, v69 = .bool bb ∧ (bb = true → 0 < xs.length) ∧ wx = w3)
      case first =>
        have hbr3 := (HBR.out.ext HB3.out).cell
        by_cases h0 : 0 < xs.length
        · have h0i : decide ((0 : Int) < (xs.length : Int)) = true := by simpa using h0
          by_cases h7 : k7 = 0
          · subst h7
            go_wp2_with fail
            refine (pick11 q7 2 _ b7.1 b7.2 (by decide) (by decide)).mono ?_
            rintro e w4 ⟨rfl, rfl⟩
            rw [K7.out]
            go_wp2_with fail
            go_meet
            exact ⟨true, rfl, fun _ => h0, rfl⟩
          · have h7b : ((k7 : Int) == 0) = false := by simpa using h7
            go_wp2_with fail
            refine (pick11 q7 2 _ b7.1 b7.2 (by decide) (by decide)).mono ?_
            rintro e w4 ⟨rfl, rfl⟩
            rw [K7.out]
            go_wp2_with fail
            go_meet
            exact ⟨false, rfl, (fun h => by cases h), rfl⟩
        · have h0i : decide ((0 : Int) < (xs.length : Int)) = false := by simpa using h0
          go_wp2_with fail
          go_meet
          exact ⟨false, rfl, (fun h => by cases h), rfl⟩
      case rest =>
        obtain ⟨bb, rfl, hbb, hwc⟩ := hcut
        subst hwc
        obtain ⟨w3, hw3⟩ : ∃ w3 : World, w3 = wc := ⟨_, rfl⟩
        subst hw3
        apply_assumption
        go_upto_if 69 with fail
        go_cut [] (fun wx => ∃ y : Wk, Blk wx g 25 y.cells ∧ Below w2.heap.size w2 wx)
        case first =>
          cases bb with
          | false =>
            go_wp2_with fail
            go_meet
            exact ⟨y, HBY.out, HB3.out⟩
          | true =>
            have hpos := hbb rfl
            obtain ⟨bp, op, rfl⟩ := HP1.out.addr hpos (by decide)
            obtain ⟨m0, hm0⟩ : ∃ m0, xs.getD 0 0 = m0 := ⟨_, rfl⟩
            have hc0 := HP1.out.cell 0 _ (ints_get xs 0 hpos)
            rw [hm0] at hc0
            simp only [Nat.add_zero] at hc0
            have hcm : w3.cell? ⟨bp, op, none⟩ = some (.int .i64 m0) := by rw [HB3.out.cell (cell_lt hc0)]; exact hc0
            have hbr3 := (HBR.out.ext HB3.out).cell
            have hyc := HBY.out.cell
            have hyf := HBY.out.frozen
            have hpi : decide ((0 : Int) < (xs.length : Int)) = true := by simpa using hpos
            clear hm0 hc0 hbb
            go_wp2_with fail
            have hbpl : bp < w2.heap.size := HP1.out.lt (by decide) _ rfl hpos
            have hm8 : (w3.setCell ⟨g, 4, none⟩ (.int .i64 m0)).cell? ⟨bp, op, none⟩ = some (.int .i64 m0) := by
              rw [(ext_set HB3.out 4 (.int .i64 m0) hgw).cell (p := ⟨bp, op, none⟩) hbpl, ← HB3.out.cell (p := ⟨bp, op, none⟩) hbpl]; exact hcm
            have hr8 : (w3.setCell ⟨g, 4, none⟩ (.int .i64 m0)).cell? ⟨w.heap.size + 1, 3, none⟩ = some (.int .i64 q3) := by
              rw [(ext_set HB3.out 4 (.int .i64 m0) hgw).cell (p := ⟨w.heap.size + 1, 3, none⟩) hsz2]; exact HBR.out.cell 3
            have hy8 : Blk (w3.setCell ⟨g, 4, none⟩ (.int .i64 m0)) g 25 ({ y with r2 := m0 } : Wk).cells := HBY.out.set 4 (.int .i64 m0)
            have hb8 : Below w2.heap.size w2 (w3.setCell ⟨g, 4, none⟩ (.int .i64 m0)) := ext_set HB3.out 4 (.int .i64 m0) hgw
            have hy8c := hy8.cell
            have hy8f := hy8.frozen
            have HY8 := Lib.hid hy8
            have HB8 := Lib.hid hb8
            clear hcm hbr3 hyc hyf hpi hy8 hb8
            generalize (w3.setCell ⟨g, 4, none⟩ (.int .i64 m0)) = w4 at *
            have hm9 : ∀ v : Value, (w4.setCell ⟨g, 3, none⟩ v).cell? ⟨bp, op, none⟩ = some (.int .i64 m0) := fun v => by
              rw [((Below.refl g w4).setCell (p := ⟨g, 3, none⟩) (Nat.le_refl g) v).cell (p := ⟨bp, op, none⟩) (by simp only; omega)]; exact hm8
            have hr9 : ∀ v : Value, (w4.setCell ⟨g, 3, none⟩ v).cell? ⟨w.heap.size + 1, 3, none⟩ = some (.int .i64 q3) := fun v => by
              rw [((Below.refl g w4).setCell (p := ⟨g, 3, none⟩) (Nat.le_refl g) v).cell (p := ⟨w.heap.size + 1, 3, none⟩) (by simp only; omega)]; exact hr8
            go_region_held3 (fun w' => w'.cell? ⟨bp, op, none⟩ = some (.int .i64 m0) ∧ w'.cell? ⟨w.heap.size + 1, 3, none⟩ = some (.int .i64 q3)) (first | exact ⟨hm8, hr8⟩ | exact ⟨hm9 _, hr9 _⟩)
              (first
                | (go_at_call 11; refine (pick11 q3 2 _ b3.1 b3.2 (by decide) (by decide)).mono ?_; rintro e w5 ⟨rfl, rfl⟩))
            all_goals
              go_wp2_with fail
              go_meet
              exact ⟨{ y with r2 := m0, r1 := IntKind.i64.wrap (m0 + pickF q3 2) }, (HY8.out.set 3 (.int .i64 (IntKind.i64.wrap (m0 + pickF q3 2)))).drew, ext_drew (ext_set HB8.out 3 _ hgw)⟩
        case rest =>
          obtain ⟨y, hby, hb4⟩ := hcut
          obtain ⟨w4, hw4⟩ : ∃ w4 : World, w4 = wc := ⟨_, rfl⟩
          subst hw4
          have HBX4 := Lib.hid (HBX.out.ext hb4)
          have HP4 := Lib.hid (HP1.out.ext hb4)
          have HW4 := Lib.hid (ext_trans HW1.out hb4)
          have HBY4 := Lib.hid hby
          clear hby hb4 HBY HB3 hbb hgw hsz2
          apply_assumption
          go_wp2_with fail
          refine (pick11 at_ 4 _ ha1 ha2 (by decide) (by decide)).mono ?_
          rintro e w5 ⟨rfl, rfl⟩
          go_wp2_with fail
          have hra : Blk (w4.alloc (.cells #[.int .i64 at_, .int .i64 0, .int .i64 (pickF at_ 4)] 3)) w4.heap.size 3 #[.int .i64 at_, .int .i64 0, .int .i64 (pickF at_ 4)] := Blk.new w4 3 _
          have hx5 : Below w4.heap.size w4 (w4.alloc (.cells #[.int .i64 at_, .int .i64 0, .int .i64 (pickF at_ 4)] 3)) := ext_alloc (Below.refl _ _) _
          generalize (w4.alloc (.cells #[.int .i64 at_, .int .i64 0, .int .i64 (pickF at_ 4)] 3)) = w5 at hra hx5 ⊢
          have HRA := Lib.hid hra
          have HX5 := Lib.hid hx5
          clear hra hx5
          go_loopw [89] (fun v89 wr => ∃ k : Nat, k ≤ 3 ∧ v89 = .int .i64 (k : Int) ∧ Below w5.heap.size w5 wr) (fun v89 _ => 3 - (intOf v89).toNat)
          case atStart => exact ⟨0, by omega, rfl, Below.refl _ _⟩
          case round =>
            obtain ⟨k, hk, rfl, hx⟩ := hrel
            by_cases hk3 : k < 3
            · have hca : ∃ a : Int, wr.cell? ⟨w4.heap.size, k, none⟩ = some (.int .i64 a) := by
                have h9 := (HRA.out.ext hx).cell k
                have h8 : k = 0 ∨ k = 1 ∨ k = 2 := by omega
                rcases h8 with rfl | rfl | rfl
                · exact ⟨_, h9⟩
                · exact ⟨_, h9⟩
                · exact ⟨_, h9⟩
              obtain ⟨a, hca⟩ := hca
              have hk3i : (k : Int) < 3 := by omega
              have HXr := Lib.hid hx
              clear hx
              obtain ⟨w6, hw6⟩ : ∃ w6 : World, w6 = wr := ⟨_, rfl⟩
              subst hw6
              go_wp2_with fail
              refine (pick11 room 5 _ hr1 hr2 (by decide) (by decide)).mono ?_
              rintro e w7 ⟨rfl, rfl⟩
              go_wp2_with fail
              have hrb : Blk (w6.alloc (.cells #[.int .i64 room, .int .i64 (wrap64 (1 + pickF room 5))] 3)) w6.heap.size 3 #[.int .i64 room, .int .i64 (wrap64 (1 + pickF room 5))] := Blk.new w6 3 _
              have hx7 : Below w6.heap.size w6 (w6.alloc (.cells #[.int .i64 room, .int .i64 (wrap64 (1 + pickF room 5))] 3)) := ext_alloc (Below.refl _ _) _
              generalize (w6.alloc (.cells #[.int .i64 room, .int .i64 (wrap64 (1 + pickF room 5))] 3)) = w7 at hrb hx7 ⊢
              have HRB := Lib.hid hrb
              have HX7 := Lib.hid (ext_trans HX5.out (ext_trans HXr.out hx7))
              have HX57 := Lib.hid (ext_trans HXr.out hx7)
              clear hrb hx7 HXr hca
              go_loopw [99] (fun v99 wr => ∃ k : Nat, k ≤ 2 ∧ v99 = .int .i64 (k : Int) ∧ Below w7.heap.size w7 wr) (fun v99 _ => 2 - (intOf v99).toNat)
              case atStart => exact ⟨0, by omega, rfl, Below.refl _ _⟩
              case round =>
                obtain ⟨k2, hk2, rfl, hx⟩ := hrel
                by_cases hk23 : k2 < 2
                · have hcb : ∃ a : Int, wr.cell? ⟨w6.heap.size, k2, none⟩ = some (.int .i64 a) := by
                    have h9 := (HRB.out.ext hx).cell k2
                    have h8 : k2 = 0 ∨ k2 = 1 := by omega
                    rcases h8 with rfl | rfl
                    · exact ⟨_, h9⟩
                    · exact ⟨_, h9⟩
                  obtain ⟨rm, hcb⟩ := hcb
                  have hk2i : (k2 : Int) < 2 := by omega
                  have HXr := Lib.hid hx
                  obtain ⟨yc, yj, y0, y1, y2, y3, y4, y5, y6, y7, yd, yo⟩ := y
                  have hbxc := (HBX4.out.ext (ext_trans HX7.out hx)).cell
                  have hbyc : ∀ o, wr.cell? ⟨g, o, none⟩ = (#[.int .i64 yc, .int .i64 yj, .int .i64 y0, .int .i64 y1, .int .i64 y2, .int .i64 y3, .int .i64 y4, .int .i64 y5, .int .i64 y6, .int .i64 y7, .bool yd, .int .i64 yo] : Array Value)[o]? := (HBY4.out.ext (ext_trans HX7.out hx)).cell
                  clear hx
                  obtain ⟨w8, hw8⟩ : ∃ w8 : World, w8 = wr := ⟨_, rfl⟩
                  subst hw8
                  go_wp2_with (refine wpList_ws2 _ rfl (.tmp 103) (.tmp 104) rfl ⟨pc, job, r0, r1, r2, r3, r4, r5, r6, r7, dd, out⟩ ⟨yc, yj, y0, y1, y2, y3, y4, y5, y6, y7, yd, yo⟩ rfl rfl ?_; intro w9 hw9 ho9)
                  have HX9 := Lib.hid (ext_trans HX7.out (ext_trans HXr.out hw9))
                  have HX79 := Lib.hid (ext_trans HXr.out hw9)
                  have HR9 := Lib.hid ho9
                  clear hw9 ho9 hbxc hbyc hcb HXr
                  go_loopw [107] (fun v107 wr => ∃ k : Nat, k ≤ 2 ∧ v107 = .int .i64 (k : Int) ∧ Below w9.heap.size w9 wr) (fun v107 _ => 2 - (intOf v107).toNat)
                  case atStart => exact ⟨0, by omega, rfl, Below.refl _ _⟩
                  case round =>
                    obtain ⟨k3, hk3', rfl, hx⟩ := hrel
                    by_cases hk33 : k3 < 2
                    · have hu : ∃ u : Wk, ([⟨pc, job, r0, r1, r2, r3, r4, r5, r6, r7, dd, out⟩, ⟨yc, yj, y0, y1, y2, y3, y4, y5, y6, y7, yd, yo⟩] : List Wk)[k3]? = some u := by
                        have h8 : k3 = 0 ∨ k3 = 1 := by omega
                        rcases h8 with rfl | rfl
                        · exact ⟨_, rfl⟩
                        · exact ⟨_, rfl⟩
                      obtain ⟨⟨uc, uj, u0, u1, u2, u3, u4, u5, u6, u7, ud, uo⟩, hu⟩ := hu
                      obtain ⟨hc1, hc2⟩ := (HR9.out.ext hx).wk k3 _ hu
                      have hc3 : ∀ j, j < 12 → wr.cell? ⟨w8.heap.size, 0 + k3 * 12 + j, none⟩ = (#[.int .i64 uc, .int .i64 uj, .int .i64 u0, .int .i64 u1, .int .i64 u2, .int .i64 u3, .int .i64 u4, .int .i64 u5, .int .i64 u6, .int .i64 u7, .bool ud, .int .i64 uo] : Array Value)[j]? := hc1
                      simp only [Nat.zero_add] at hc3 hc2
                      have hk33i : (k3 : Int) < 2 := by omega
                      have HXr := Lib.hid hx
                      clear hx hu hc1
                      obtain ⟨w10, hw10⟩ : ∃ w10 : World, w10 = wr := ⟨_, rfl⟩
                      subst hw10
                      go_wp2_with fail
                      obtain ⟨st, hst⟩ : ∃ st, stepF xs a rm ⟨uc, uj, u0, u1, u2, u3, u4, u5, u6, u7, ud, uo⟩ = st := ⟨_, rfl⟩
                      obtain ⟨se, sxs, ⟨sc, sj, s0, s1, s2, s3, s4, s5, s6, s7, sd, so⟩⟩ := st
                      have HST := Lib.hid hst
                      clear hst hc2 hc3
                      have HA10 : Hid (Below w10.heap.size w10 (w10.alloc (.cells #[.int .i64 uc, .int .i64 uj, .int .i64 u0, .int .i64 u1, .int .i64 u2, .int .i64 u3, .int .i64 u4, .int .i64 u5, .int .i64 u6, .int .i64 u7, .bool ud, .int .i64 uo] 25))) := ext_alloc (Below.refl _ _) _
                      have HB19 : Hid (Blk (w10.alloc (.cells #[.int .i64 uc, .int .i64 uj, .int .i64 u0, .int .i64 u1, .int .i64 u2, .int .i64 u3, .int .i64 u4, .int .i64 u5, .int .i64 u6, .int .i64 u7, .bool ud, .int .i64 uo] 25)) w10.heap.size 25 #[.int .i64 uc, .int .i64 uj, .int .i64 u0, .int .i64 u1, .int .i64 u2, .int .i64 u3, .int .i64 u4, .int .i64 u5, .int .i64 u6, .int .i64 u7, .bool ud, .int .i64 uo]) := Blk.new w10 25 _
                      have HP10 := Lib.hid ((HP4.out.ext (ext_trans HX9.out HXr.out)).ext HA10.out)
                      refine (dstep_any p c xs a rm ⟨uc, uj, u0, u1, u2, u3, u4, u5, u6, u7, ud, uo⟩ _ HP10.out (by omega)).mono ?_
                      rw [HST.out]
                      rintro e w11 ⟨p1, c1, rfl, hw11, hr11, _⟩
                      simp only [Wk.v, Wk.cells]
                      have HP11 := Lib.hid (HP10.out.ext hw11)
                      have HX11 := Lib.hid (ext_trans HXr.out (ext_trans HA10.out hw11))
                      have hb19 := HB19.out.ext hw11
                      have hb19c := hb19.cell
                      have hb19l := hb19.lt
                      have HR11 := Lib.hid hr11
                      clear hw11 hr11 HA10 HB19 HP10 hb19
                      go_wp2_with fail
                      have HA11 : Hid (Below w11.heap.size w11 (w11.alloc (.cells #[.int .i64 sc, .int .i64 sj, .int .i64 s0, .int .i64 s1, .int .i64 s2, .int .i64 s3, .int .i64 s4, .int .i64 s5, .int .i64 s6, .int .i64 s7, .bool sd, .int .i64 so] 25))) := ext_alloc (Below.refl _ _) _
                      have HB21 : Hid (Blk (w11.alloc (.cells #[.int .i64 sc, .int .i64 sj, .int .i64 s0, .int .i64 s1, .int .i64 s2, .int .i64 s3, .int .i64 s4, .int .i64 s5, .int .i64 s6, .int .i64 s7, .bool sd, .int .i64 so] 25)) w11.heap.size 25 #[.int .i64 sc, .int .i64 sj, .int .i64 s0, .int .i64 s1, .int .i64 s2, .int .i64 s3, .int .i64 s4, .int .i64 s5, .int .i64 s6, .int .i64 s7, .bool sd, .int .i64 so]) := Blk.new w11 25 _
                      refine (rstep_any p c xs a rm ⟨uc, uj, u0, u1, u2, u3, u4, u5, u6, u7, ud, uo⟩ _ (HP11.out.ext HA11.out) (by omega)).mono ?_
                      rw [HST.out]
                      rintro e w12 ⟨p2, c2, rfl, hw12, hr12, _⟩
                      simp only [Wk.v, Wk.cells]
                      have HX12 := Lib.hid (ext_trans HX11.out (ext_trans HA11.out hw12))
                      have HB21' := Lib.hid (HB21.out.ext hw12)
                      have HR11' := Lib.hid ((HR11.out.ext HA11.out).ext hw12)
                      have HR12 := Lib.hid hr12
                      clear hw12 hr12 HA11 HB21 HP11 HX11 HR11 hb19c hb19l
                      go_wp2_with fail
                      have HA12 : Hid (Below w12.heap.size w12 (w12.alloc (.cells #[.int .i64 sc, .int .i64 sj, .int .i64 s0, .int .i64 s1, .int .i64 s2, .int .i64 s3, .int .i64 s4, .int .i64 s5, .int .i64 s6, .int .i64 s7, .bool sd, .int .i64 so] 25))) := ext_alloc (Below.refl _ _) _
                      have HB24 : Hid (Blk (w12.alloc (.cells #[.int .i64 sc, .int .i64 sj, .int .i64 s0, .int .i64 s1, .int .i64 s2, .int .i64 s3, .int .i64 s4, .int .i64 s5, .int .i64 s6, .int .i64 s7, .bool sd, .int .i64 so] 25)) w12.heap.size 25 #[.int .i64 sc, .int .i64 sj, .int .i64 s0, .int .i64 s1, .int .i64 s2, .int .i64 s3, .int .i64 s4, .int .i64 s5, .int .i64 s6, .int .i64 s7, .bool sd, .int .i64 so]) := Blk.new w12 25 _
                      refine (ints_eq p1 p2 xs.length c1 xs.length c2 sxs sxs _ (HR11'.out.ext HA12.out) (HR12.out.ext HA12.out) (by omega) (by omega) rfl).mono ?_
                      rintro e w13 ⟨rfl, hw13⟩
                      have HX13 := Lib.hid (ext_trans HX12.out (ext_trans HA12.out hw13))
                      have hb21 := (HB21'.out.ext HA12.out).ext hw13
                      have hb24 := HB24.out.ext hw13
                      have hb21c := hb21.cell
                      have hb24c := hb24.cell
                      clear hw13 HA12 HB24 HB21' HX12 HR11' HR12 hb21 hb24
                      go_wp2_with fail
                      go_roundw
                      case rel => exact ⟨k3 + 1, by omega, by go_num, HX13.out⟩
                      case measure => simp [intOf]; omega
                    · have HXr := Lib.hid hx
                      clear hx
                      have HPa := Lib.hid (HP4.out.ext (ext_trans HX9.out HXr.out))
                      go_wp2_with fail
                      refine (tasks15_any p xs.length c a rm xs _ HPa.out (by omega) BP.out).mono ?_
                      obtain ⟨tl, htl⟩ : ∃ tl, tasksF xs a rm = tl := ⟨_, rfl⟩
                      have htb : tl.length ≤ 1000 := by rw [← htl]; exact tasksF_len xs a rm
                      have HTL := Lib.hid htl
                      rw [htl]
                      clear htl
                      rintro e w14 ⟨p1, c1, rfl, hw14, hr14⟩
                      have HPb := Lib.hid (HPa.out.ext hw14)
                      have HX14 := Lib.hid (ext_trans HXr.out hw14)
                      have HR14 := Lib.hid hr14
                      clear hw14 hr14
                      go_wp2_with fail
                      refine (tasks16_any p xs.length c a rm xs _ HPb.out (by omega) BP.out).mono ?_
                      rw [HTL.out]
                      rintro e w15 ⟨p2, c2, rfl, hw15, hr15⟩
                      have HX15 := Lib.hid (ext_trans HX14.out hw15)
                      have HR14' := Lib.hid (HR14.out.ext hw15)
                      have HR15 := Lib.hid hr15
                      clear hw15 hr15 HX14 HR14
                      go_wp2_with fail
                      refine (ints_eq p1 p2 tl.length c1 tl.length c2 tl tl _ HR14'.out HR15.out (by omega) (by omega) rfl).mono ?_
                      rintro e w16 ⟨rfl, hw16⟩
                      have HX16 := Lib.hid (ext_trans HX15.out hw16)
                      clear hw16 HX15 HR14' HR15
                      go_wp2_with fail
                      refine (new17_any rm _).mono ?_
                      obtain ⟨nl, hnl⟩ : ∃ nl, newF rm = nl := ⟨_, rfl⟩
                      have hnb : nl.length ≤ 1002 := by rw [← hnl]; exact newF_len rm
                      have HNL := Lib.hid hnl
                      rw [hnl]
                      clear hnl
                      rintro e w17 ⟨p3, c3, rfl, hw17, hr17⟩
                      have HX17 := Lib.hid (ext_trans HX16.out hw17)
                      have HR17 := Lib.hid hr17
                      clear hw17 hr17 HX16
                      go_wp2_with fail
                      refine (new18_any rm _).mono ?_
                      rw [HNL.out]
                      rintro e w18 ⟨p4, c4, rfl, hw18, hr18⟩
                      have HX18 := Lib.hid (ext_trans HX17.out hw18)
                      have HR17' := Lib.hid (HR17.out.ext hw18)
                      have HR18 := Lib.hid hr18
                      clear hw18 hr18 HX17 HR17
                      go_wp2_with fail
                      refine (ints_eq p3 p4 nl.length c3 nl.length c4 nl nl _ HR17'.out HR18.out (by omega) (by omega) rfl).mono ?_
                      rintro e w19 ⟨rfl, hw19⟩
                      have HX19 := Lib.hid (ext_trans HX79.out (ext_trans HX18.out hw19))
                      clear hw19 HX18 HR17' HR18
                      go_wp2_with fail
                      go_roundw
                      case rel => exact ⟨k2 + 1, by omega, by go_num, HX19.out⟩
                      case measure => simp [intOf]; omega
                · go_wp2_with fail
                  go_roundw
                  case rel => exact ⟨k + 1, by omega, by go_num, ext_trans HX57.out hx⟩
                  case measure => simp [intOf]; omega
            · have HXe := Lib.hid (ext_trans HW4.out (ext_trans HX5.out hx))
              clear hx
              go_wp2_with fail
              refine (give19 at_ _).mono ?_
              rintro e w6 ⟨rfl, hw6⟩
              simp only [giveF, Wk.v, Wk.cells]
              have HX6 := Lib.hid (ext_trans HXe.out hw6)
              clear hw6
              go_wp2_with fail
              refine (give20 at_ _).mono ?_
              rintro e w7 ⟨rfl, hw7⟩
              simp only [giveF, Wk.v, Wk.cells]
              have HX7 := Lib.hid (ext_trans HX6.out hw7)
              clear hw7
              go_wp2_with fail
              refine (take21 _).mono ?_
              rintro e w8 ⟨rfl, hw8⟩
              simp only [takeF, Wk.v, Wk.cells]
              have HX8 := Lib.hid (ext_trans HX7.out hw8)
              clear hw8
              go_wp2_with fail
              refine (take22 _).mono ?_
              rintro e w9 ⟨rfl, hw9⟩
              simp only [takeF, Wk.v, Wk.cells]
              have HX9 := Lib.hid (ext_trans HX8.out hw9)
              clear hw9
              go_wp2_with fail
              refine (steal23 _).mono ?_
              rintro e w10 ⟨rfl, hw10⟩
              simp only [stealF, Wk.v, Wk.cells]
              have HX10 := Lib.hid (ext_trans HX9.out hw10)
              clear hw10
              go_wp2_with fail
              refine (steal24 _).mono ?_
              rintro e w11 ⟨rfl, hw11⟩
              simp only [stealF, Wk.v, Wk.cells]
              have HX11 := Lib.hid (ext_trans HX10.out hw11)
              clear hw11
              go_wp2_with fail
              go_ret
              exact ⟨rfl, HX11.out⟩

end Go.Proofs.Ytdnajckhnknlcaa
