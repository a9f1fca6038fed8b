/-
  The contracts of the functions that these laws reach, part 14.
-/
import Derived.Test.YtdnajckhnknlcaaR13
import Derived.Laws.StructEq
import Derived.ChangeKeysEq

/-! The workers that a law makes of raw numbers. -/
namespace Go.Proofs.Ytdnajckhnknlcaa
set_option linter.unusedVariables false
set_option linter.unusedSimpArgs false
open Go.RowKit

set_option maxHeartbeats 1000000 in
theorem steals26 (n : Nat) (w : World) (hn : n ≤ 100) :
    Calls Try.prog 26 #[.int .i64 n] w fun e w' => ∃ v, e = .returned v ∧ Below w.heap.size w w' ∧ w'.ownsRow w.heap.size 25 12 v n (wkCells (List.replicate n stealF)) := by
  go_enter Try.func26, Try.ntmps26
  go_wp2_with fail
  go_loopw [3, 4] (fun v i wr => ∃ k : Nat, k ≤ n ∧ i = .int .i64 (k : Int) ∧ wr.ownsRow w.heap.size 25 12 v k (wkCells (List.replicate k stealF)) ∧ Below w.heap.size w wr) (fun _ i _ => n - (intOf i).toNat)
  case atStart => exact ⟨0, Nat.zero_le _, by simp, World.ownsRow_nil _ _ _ _, Below.refl _ _⟩
  case round =>
    obtain ⟨k, hk, rfl, HO, HW⟩ := hrel
    by_cases hlt : k < n
    · have hs : wkCells (List.replicate (k + 1) stealF) = wkCells (List.replicate k stealF) ++ wkCells [stealF] := by rw [List.replicate_succ', wkCells_append]
      have HS := Lib.hid hs
      have HO2 := Lib.hid HO
      clear hs HO
      go_wp2_with (first
        | (go_at_call 24; go_must (refine (steal24 _).mono ?_; rintro e w2 ⟨rfl, hb⟩; replace HW := ext_trans HW hb; (have HO3 := Lib.hid (own_ext HO2.out hb)); clear HO2 hb))
        | (refine wpList_ws1 _ rfl (.tmp 11) rfl stealF rfl ?_; intro w5 hb HT; replace HW := ext_trans HW hb; (have HO4 := Lib.hid (own_ext HO3.out hb)); clear HO3 hb)
        | (at_builtin; go_must (refine wpList_append_rd _ rfl (.tmp 10) (.tmp 12) 28 rfl w.heap.size 25 _ 12 96 Try.underlying28 info_25 rfl (by decide) _ k _ rfl HO4.out _ 1 1 (wkCells [stealF]) rfl HT (by intro u hu; exact wk_one _ u hu) (by unfold maxLen; omega) (by omega) HW.size ?_)))
      intro v' w1 hown1 hg1 _
      have HE := Lib.hid (owns_grown HO4.out HW hg1 (Nat.le_refl _) HW.size)
      have HO5 := Lib.hid hown1
      clear hown1 hg1 HO4
      go_wp2_with fail
      go_roundw
      case rel => exact ⟨k + 1, by omega, by go_num, by rw [HS.out]; exact HO5.out, HE.out⟩
      case measure => simp [intOf]; omega
    · have hkn : k = n := by omega
      subst hkn
      have HO2 := Lib.hid HO
      clear HO
      go_wp2_with fail
      go_ret
      exact ⟨_, rfl, HW, HO2.out⟩

end Go.Proofs.Ytdnajckhnknlcaa

/-! The jobs of an owner that a law makes of raw numbers. -/
namespace Go.Proofs.Ytdnajckhnknlcaa
set_option linter.unusedVariables false
set_option linter.unusedSimpArgs false
open Go.RowKit

/-- The job that a raw number speaks of. -/
def jobF (xs : List Int) (f : Int) (i : Nat) : Wk := if pickF (xs.getD i 0) 5 < 3 then giveF (f + (i : Int)) else takeF
def ownTo (xs : List Int) (f : Int) (k : Nat) : List Wk := (List.range k).map (jobF xs f)
def ownerF (xs : List Int) (f : Int) : List Wk := ownTo xs f (min xs.length 14)

theorem ownTo_succ (xs : List Int) (f : Int) (k : Nat) : ownTo xs f (k + 1) = ownTo xs f k ++ [jobF xs f k] := by simp [ownTo, List.range_succ]
theorem ownTo_len (xs : List Int) (f : Int) (k : Nat) : (ownTo xs f k).length = k := by simp [ownTo]

set_option maxHeartbeats 2000000 in
theorem owner25 (p : Option Addr) (n c : Nat) (xs : List Int) (f : Int) (w : World) (hx : Rd w 1 p n c (ints xs)) (hbd : Bd xs) (hf0 : 0 ≤ f) (hf : f ≤ 1000) :
    Calls Try.prog 25 #[.slice p n c, .int .i64 f] w fun e w' => ∃ v, e = .returned v ∧ Below w.heap.size w w' ∧ w'.ownsRow w.heap.size 25 12 v (min n 14) (wkCells (ownerF xs f)) := by
  have hl : xs.length = n := by have := hx.len; rw [ints_len] at this; omega
  unfold ownerF
  rw [hl]
  obtain ⟨K, hK⟩ : ∃ K, min n 14 = K := ⟨_, rfl⟩
  rw [hK]
  have HX := Lib.hid hx
  have HBD := Lib.hid hbd
  have HL := Lib.hid hl
  have HK := Lib.hid hK
  clear hx hbd hl hK
  go_enter Try.func25, Try.ntmps25
  go_wp2_with fail
  go_loopw [5, 6] (fun v i wr => ∃ k : Nat, k ≤ K ∧ i = .int .i64 (k : Int) ∧ wr.ownsRow w.heap.size 25 12 v k (wkCells (ownTo xs f k)) ∧ Below w.heap.size w wr) (fun _ i _ => K - (intOf i).toNat)
  case atStart => exact ⟨0, Nat.zero_le _, by simp, World.ownsRow_nil _ _ _ _, Below.refl _ _⟩
  case round =>
    obtain ⟨k, hk, rfl, HO, HW⟩ := hrel
    have hKe := HK.out
    by_cases hlt : k < K
    · have hkn : k < n := by omega
      have hk14 : k < 14 := by omega
      have hs : wkCells (ownTo xs f (k + 1)) = wkCells (ownTo xs f k) ++ wkCells [jobF xs f k] := by rw [ownTo_succ, wkCells_append]
      obtain ⟨b, off, rfl⟩ := HX.out.addr (by omega) (by decide)
      have hcell := (HX.out.ext HW).cell k _ (ints_get xs k (by have := HL.out; omega))
      have hbk := HBD.out k (by have := HL.out; omega)
      obtain ⟨y, hy⟩ : ∃ y, xs.getD k 0 = y := ⟨_, rfl⟩
      rw [hy] at hcell hbk
      by_cases hj : pickF y 5 < 3
      · have hjob : jobF xs f k = giveF (f + (k : Int)) := by unfold jobF; rw [hy, if_pos hj]
        rw [hjob] at hs
        have HS := Lib.hid hs
        have HO2 := Lib.hid HO
        clear hs HO hKe hjob hy
        go_wp2_with (first
          | (go_at_call 11; go_must (refine (pick11 _ _ _ hbk.1 hbk.2 (by decide) (by decide)).mono ?_; rintro e w2 ⟨rfl, rfl⟩))
          | (go_at_call 20; go_must (refine (give20 _ _).mono ?_; rintro e w2 ⟨rfl, hb⟩; replace HW := ext_trans HW hb; (have HO3 := Lib.hid (own_ext HO2.out hb)); clear HO2 hb))
          | (refine wpList_ws1 _ rfl (.tmp 27) rfl (giveF (f + (k : Int))) rfl ?_; intro w5 hb HT; replace HW := ext_trans HW hb; (have HO4 := Lib.hid (own_ext HO3.out hb)); clear HO3 hb)
          | (at_builtin; go_must (refine wpList_append_rd _ rfl (.tmp 23) (.tmp 28) 28 rfl w.heap.size 25 _ 12 96 Try.underlying28 info_25 rfl (by decide) _ k _ rfl HO4.out _ 1 1 (wkCells [giveF (f + (k : Int))]) rfl HT (by intro u hu; exact wk_one _ u hu) (by unfold maxLen; omega) (by omega) HW.size ?_)))
        intro v' w1 hown1 hg1 _
        have HE := Lib.hid (owns_grown HO4.out HW hg1 (Nat.le_refl _) HW.size)
        have HO5 := Lib.hid hown1
        clear hown1 hg1 HO4
        go_wp2_with fail
        go_roundw
        case rel => exact ⟨k + 1, by omega, by go_num, by rw [HS.out]; exact HO5.out, HE.out⟩
        case measure => simp [intOf]; omega
      · have hjob : jobF xs f k = takeF := by unfold jobF; rw [hy, if_neg hj]
        rw [hjob] at hs
        have HS := Lib.hid hs
        have HO2 := Lib.hid HO
        clear hs HO hKe hjob hy
        go_wp2_with (first
          | (go_at_call 11; go_must (refine (pick11 _ _ _ hbk.1 hbk.2 (by decide) (by decide)).mono ?_; rintro e w2 ⟨rfl, rfl⟩))
          | (go_at_call 22; go_must (refine (take22 _).mono ?_; rintro e w2 ⟨rfl, hb⟩; replace HW := ext_trans HW hb; (have HO3 := Lib.hid (own_ext HO2.out hb)); clear HO2 hb))
          | (refine wpList_ws1 _ rfl (.tmp 31) rfl takeF rfl ?_; intro w5 hb HT; replace HW := ext_trans HW hb; (have HO4 := Lib.hid (own_ext HO3.out hb)); clear HO3 hb)
          | (at_builtin; go_must (refine wpList_append_rd _ rfl (.tmp 30) (.tmp 32) 28 rfl w.heap.size 25 _ 12 96 Try.underlying28 info_25 rfl (by decide) _ k _ rfl HO4.out _ 1 1 (wkCells [takeF]) rfl HT (by intro u hu; exact wk_one _ u hu) (by unfold maxLen; omega) (by omega) HW.size ?_)))
        intro v' w1 hown1 hg1 _
        have HE := Lib.hid (owns_grown HO4.out HW hg1 (Nat.le_refl _) HW.size)
        have HO5 := Lib.hid hown1
        clear hown1 hg1 HO4
        go_wp2_with fail
        go_roundw
        case rel => exact ⟨k + 1, by omega, by go_num, by rw [HS.out]; exact HO5.out, HE.out⟩
        case measure => simp [intOf]; omega
    · have hkn : k = K := by omega
      subst hkn
      have HO2 := Lib.hid HO
      clear HO
      by_cases h14 : n ≤ 14
      · have hkn : k = n := by omega
        subst hkn
        clear hKe
        go_wp2_with fail
        go_ret
        exact ⟨_, rfl, HW, HO2.out⟩
      · have hkn : k = 14 := by omega
        subst hkn
        clear hKe
        go_wp2_with fail
        go_ret
        exact ⟨_, rfl, HW, HO2.out⟩

end Go.Proofs.Ytdnajckhnknlcaa

/-! Two workers compared. -/
namespace Go.Proofs.Ytdnajckhnknlcaa
set_option linter.unusedVariables false
set_option linter.unusedSimpArgs false
open Go.RowKit

theorem plain_3 : Try.prog.plainKey 3 = true := by kernel_rfl
theorem plain_4 : Try.prog.plainKey 4 = true := by kernel_rfl

theorem run_eq_regs (d : Nat) (a0 a1 a2 a3 a4 a5 a6 a7 b0 b1 b2 b3 b4 b5 b6 b7 : Int) (w : World) :
    (Op.equalIn (d + 2) 23 (.agg #[.int .i64 a0, .int .i64 a1, .int .i64 a2, .int .i64 a3, .int .i64 a4, .int .i64 a5, .int .i64 a6, .int .i64 a7]) (.agg #[.int .i64 b0, .int .i64 b1, .int .i64 b2, .int .i64 b3, .int .i64 b4, .int .i64 b5, .int .i64 b6, .int .i64 b7])).run Try.prog w =
      .ok (decide (a0 = b0 ∧ a1 = b1 ∧ a2 = b2 ∧ a3 = b3 ∧ a4 = b4 ∧ a5 = b5 ∧ a6 = b6 ∧ a7 = b7)) w := by
  obtain ⟨i, hi, _⟩ := info_parts info_3
  rw [show d + 2 = (d + 1) + 1 from rfl, run_equalIn_array w (d + 1) _ _ (n := 8) (e := 3) Try.underlying23 hi]
  have hc : Try.prog.cellsOf 3 = 1 := by kernel_rfl
  rw [hc, show List.range 8 = [0, 1, 2, 3, 4, 5, 6, 7] from rfl]
  have hp0 : ∀ (x0 x1 x2 x3 x4 x5 x6 x7 : Value), (part 3 #[x0, x1, x2, x3, x4, x5, x6, x7] (0 * 1)).run Try.prog w = .ok x0 w := fun x0 x1 x2 x3 x4 x5 x6 x7 => run_part_plain w plain_3 rfl
  have hp1 : ∀ (x0 x1 x2 x3 x4 x5 x6 x7 : Value), (part 3 #[x0, x1, x2, x3, x4, x5, x6, x7] (1 * 1)).run Try.prog w = .ok x1 w := fun x0 x1 x2 x3 x4 x5 x6 x7 => run_part_plain w plain_3 rfl
  have hp2 : ∀ (x0 x1 x2 x3 x4 x5 x6 x7 : Value), (part 3 #[x0, x1, x2, x3, x4, x5, x6, x7] (2 * 1)).run Try.prog w = .ok x2 w := fun x0 x1 x2 x3 x4 x5 x6 x7 => run_part_plain w plain_3 rfl
  have hp3 : ∀ (x0 x1 x2 x3 x4 x5 x6 x7 : Value), (part 3 #[x0, x1, x2, x3, x4, x5, x6, x7] (3 * 1)).run Try.prog w = .ok x3 w := fun x0 x1 x2 x3 x4 x5 x6 x7 => run_part_plain w plain_3 rfl
  have hp4 : ∀ (x0 x1 x2 x3 x4 x5 x6 x7 : Value), (part 3 #[x0, x1, x2, x3, x4, x5, x6, x7] (4 * 1)).run Try.prog w = .ok x4 w := fun x0 x1 x2 x3 x4 x5 x6 x7 => run_part_plain w plain_3 rfl
  have hp5 : ∀ (x0 x1 x2 x3 x4 x5 x6 x7 : Value), (part 3 #[x0, x1, x2, x3, x4, x5, x6, x7] (5 * 1)).run Try.prog w = .ok x5 w := fun x0 x1 x2 x3 x4 x5 x6 x7 => run_part_plain w plain_3 rfl
  have hp6 : ∀ (x0 x1 x2 x3 x4 x5 x6 x7 : Value), (part 3 #[x0, x1, x2, x3, x4, x5, x6, x7] (6 * 1)).run Try.prog w = .ok x6 w := fun x0 x1 x2 x3 x4 x5 x6 x7 => run_part_plain w plain_3 rfl
  have hp7 : ∀ (x0 x1 x2 x3 x4 x5 x6 x7 : Value), (part 3 #[x0, x1, x2, x3, x4, x5, x6, x7] (7 * 1)).run Try.prog w = .ok x7 w := fun x0 x1 x2 x3 x4 x5 x6 x7 => run_part_plain w plain_3 rfl
  have he : ∀ (a b : Int), (Op.equalIn (d + 1) 3 (.int .i64 a) (.int .i64 b)).run Try.prog w = .ok (a == b) w := fun a b => run_equalIn_int w d 3 .i64 .i64 a b Try.underlying3
  simp only [Op.eqItems, Sem.run_bind, hp0, hp1, hp2, hp3, hp4, hp5, hp6, hp7, Result.andThen_ok, he, Sem.run_ite, Sem.run_pure]
  by_cases h0 : a0 = b0
  rotate_left
  · simp [h0]
  subst h0
  by_cases h1 : a1 = b1
  rotate_left
  · simp [h1]
  subst h1
  by_cases h2 : a2 = b2
  rotate_left
  · simp [h2]
  subst h2
  by_cases h3 : a3 = b3
  rotate_left
  · simp [h3]
  subst h3
  by_cases h4 : a4 = b4
  rotate_left
  · simp [h4]
  subst h4
  by_cases h5 : a5 = b5
  rotate_left
  · simp [h5]
  subst h5
  by_cases h6 : a6 = b6
  rotate_left
  · simp [h6]
  subst h6
  by_cases h7 : a7 = b7
  rotate_left
  · simp [h7]
  subst h7
  simp

theorem fields_25 : ((Try.prog.fieldsOf 25).toList.map fun f => (f.name != "_", f.type, f.offset)) = [(true, 3, 0), (true, 3, 1), (true, 23, 2), (true, 4, 10), (true, 3, 11)] := by kernel_rfl
theorem struct_25 : Try.prog.underlying 25 = some (.struct (Try.prog.fieldsOf 25)) := by kernel_rfl
theorem stood_25 : Try.prog.stoodInHeld 25 = false := by kernel_rfl

theorem wk_ext (x y : Wk) : x = y ↔ x.pc = y.pc ∧ x.job = y.job ∧ (x.r0 = y.r0 ∧ x.r1 = y.r1 ∧ x.r2 = y.r2 ∧ x.r3 = y.r3 ∧ x.r4 = y.r4 ∧ x.r5 = y.r5 ∧ x.r6 = y.r6 ∧ x.r7 = y.r7) ∧ x.done = y.done ∧ x.out = y.out := by
  cases x; cases y; simp only [Wk.mk.injEq]; constructor
  · rintro ⟨h1, h2, h3, h4, h5, h6, h7, h8, h9, h10, h11, h12⟩; exact ⟨h1, h2, ⟨h3, h4, h5, h6, h7, h8, h9, h10⟩, h11, h12⟩
  · rintro ⟨h1, h2, ⟨h3, h4, h5, h6, h7, h8, h9, h10⟩, h11, h12⟩; exact ⟨h1, h2, h3, h4, h5, h6, h7, h8, h9, h10, h11, h12⟩

theorem run_eq_wk (x y : Wk) (w : World) : (Op.equalIn 10000 25 x.v y.v).run Try.prog w = .ok (decide (x = y)) w := by
  unfold Wk.v
  rw [show (10000 : Nat) = 9999 + 1 from rfl, run_equalIn_struct w 9999 25 _ _ struct_25 stood_25]
  have hf := fields_25
  generalize (Try.prog.fieldsOf 25).toList = fs at hf
  have hlen := congrArg List.length hf
  obtain ⟨f0, f1, f2, f3, f4, rfl⟩ : ∃ f0 f1 f2 f3 f4, fs = [f0, f1, f2, f3, f4] := by
    rcases fs with _ | ⟨f0, _ | ⟨f1, _ | ⟨f2, _ | ⟨f3, _ | ⟨f4, _ | ⟨f5, fs⟩⟩⟩⟩⟩⟩ <;> simp at hlen
    exact ⟨_, _, _, _, _, rfl⟩
  clear hlen
  simp only [List.map_cons, List.map_nil, List.cons.injEq, Prod.mk.injEq, bne_iff_ne, ne_eq, and_true] at hf
  obtain ⟨⟨n0, t0, o0⟩, ⟨n1, t1, o1⟩, ⟨n2, t2, o2⟩, ⟨n3, t3, o3⟩, ⟨n4, t4, o4⟩⟩ := hf
  have hp0 : ∀ (x0 x1 x2 x3 x4 x5 x6 x7 x8 x9 x10 x11 : Value), (part 3 #[x0, x1, x2, x3, x4, x5, x6, x7, x8, x9, x10, x11] 0).run Try.prog w = .ok x0 w := fun x0 x1 x2 x3 x4 x5 x6 x7 x8 x9 x10 x11 => by kernel_rfl
  have hp1 : ∀ (x0 x1 x2 x3 x4 x5 x6 x7 x8 x9 x10 x11 : Value), (part 3 #[x0, x1, x2, x3, x4, x5, x6, x7, x8, x9, x10, x11] 1).run Try.prog w = .ok x1 w := fun x0 x1 x2 x3 x4 x5 x6 x7 x8 x9 x10 x11 => by kernel_rfl
  have hp2 : ∀ (x0 x1 x2 x3 x4 x5 x6 x7 x8 x9 x10 x11 : Value), (part 23 #[x0, x1, x2, x3, x4, x5, x6, x7, x8, x9, x10, x11] 2).run Try.prog w = .ok (.agg #[x2, x3, x4, x5, x6, x7, x8, x9]) w := fun x0 x1 x2 x3 x4 x5 x6 x7 x8 x9 x10 x11 => by kernel_rfl
  have hp10 : ∀ (x0 x1 x2 x3 x4 x5 x6 x7 x8 x9 x10 x11 : Value), (part 4 #[x0, x1, x2, x3, x4, x5, x6, x7, x8, x9, x10, x11] 10).run Try.prog w = .ok x10 w := fun x0 x1 x2 x3 x4 x5 x6 x7 x8 x9 x10 x11 => by kernel_rfl
  have hp11 : ∀ (x0 x1 x2 x3 x4 x5 x6 x7 x8 x9 x10 x11 : Value), (part 3 #[x0, x1, x2, x3, x4, x5, x6, x7, x8, x9, x10, x11] 11).run Try.prog w = .ok x11 w := fun x0 x1 x2 x3 x4 x5 x6 x7 x8 x9 x10 x11 => by kernel_rfl
  have he : ∀ (a b : Int), (Op.equalIn 9999 3 (.int .i64 a) (.int .i64 b)).run Try.prog w = .ok (a == b) w := fun a b => run_equalIn_int w 9998 3 .i64 .i64 a b Try.underlying3
  have hb : ∀ (a b : Bool), (Op.equalIn 9999 4 (.bool a) (.bool b)).run Try.prog w = .ok (a == b) w := fun a b => run_equalIn_bool' w 9998 4 a b Try.underlying4
  have hr := fun a0 a1 a2 a3 a4 a5 a6 a7 b0 b1 b2 b3 b4 b5 b6 b7 => run_eq_regs 9997 a0 a1 a2 a3 a4 a5 a6 a7 b0 b1 b2 b3 b4 b5 b6 b7 w
  simp only [Nat.reduceAdd] at hr
  have hd : decide (x = y) = decide (x.pc = y.pc ∧ x.job = y.job ∧ (x.r0 = y.r0 ∧ x.r1 = y.r1 ∧ x.r2 = y.r2 ∧ x.r3 = y.r3 ∧ x.r4 = y.r4 ∧ x.r5 = y.r5 ∧ x.r6 = y.r6 ∧ x.r7 = y.r7) ∧ x.done = y.done ∧ x.out = y.out) := decide_eq_decide.2 (wk_ext x y)
  rw [hd]
  unfold Wk.cells
  simp only [Op.eqFields, n0, n1, n2, n3, n4, t0, t1, t2, t3, t4, o0, o1, o2, o3, o4, ne_eq, not_false_eq_true, if_true, Sem.run_bind, hp0, hp1, hp2, hp10, hp11, Result.andThen_ok, he, hb, hr, Sem.run_ite, Sem.run_pure]
  by_cases h0 : x.pc = y.pc
  rotate_left
  · simp [h0]
  by_cases h1 : x.job = y.job
  rotate_left
  · simp [h1]
  by_cases h2 : x.r0 = y.r0 ∧ x.r1 = y.r1 ∧ x.r2 = y.r2 ∧ x.r3 = y.r3 ∧ x.r4 = y.r4 ∧ x.r5 = y.r5 ∧ x.r6 = y.r6 ∧ x.r7 = y.r7
  rotate_left
  · simp only [h2]; simp [h0, h1]
  by_cases h3 : x.done = y.done
  rotate_left
  · simp only [h2]; simp [h0, h1, h3]
  by_cases h4 : x.out = y.out
  rotate_left
  · simp only [h2]; simp [h0, h1, h3, h4]
  simp only [h2]; simp [h0, h1, h3, h4]

theorem run_neq_wk (x y : Wk) (w : World) : (binOp .neq 25 x.v y.v).run Try.prog w = .ok (.bool (!decide (x = y))) w := by
  have := run_eq_wk x y w
  unfold Wk.v at this ⊢
  rw [run_neq_struct, this]; rfl
theorem run_eql_wk (x y : Wk) (w : World) : (binOp .eql 25 x.v y.v).run Try.prog w = .ok (.bool (decide (x = y))) w := by
  have := run_eq_wk x y w
  unfold Wk.v at this ⊢
  rw [run_eql_struct, this]; rfl

end Go.Proofs.Ytdnajckhnknlcaa

/-! SameWorkers: are two lists of workers the same. -/
namespace Go.Proofs.Ytdnajckhnknlcaa
set_option linter.unusedVariables false
set_option linter.unusedSimpArgs false
open Go.RowKit

@[go_sem high] theorem run_neq_cells (x y : Wk) (w : World) : (binOp .neq 25 (.agg #[.int .i64 x.pc, .int .i64 x.job, .int .i64 x.r0, .int .i64 x.r1, .int .i64 x.r2, .int .i64 x.r3, .int .i64 x.r4, .int .i64 x.r5, .int .i64 x.r6, .int .i64 x.r7, .bool x.done, .int .i64 x.out]) (.agg #[.int .i64 y.pc, .int .i64 y.job, .int .i64 y.r0, .int .i64 y.r1, .int .i64 y.r2, .int .i64 y.r3, .int .i64 y.r4, .int .i64 y.r5, .int .i64 y.r6, .int .i64 y.r7, .bool y.done, .int .i64 y.out])).run Try.prog w = .ok (.bool (!decide (x = y))) w := run_neq_wk x y w
theorem guard_25 : Try.prog.eqGuardType Try.prog.depth 25 = false := by kernel_rfl

set_option maxHeartbeats 1000000 in
theorem same29 (p q : Option Addr) (n m c d : Nat) (xs ys : List Wk) (w : World) (hx : Rd w 12 p n c (wkCells xs)) (hy : Rd w 12 q m d (wkCells ys)) (hn : n ≤ 1000000) (hm : m ≤ 1000000) :
    Calls Try.prog 29 #[.slice p n c, .slice q m d] w fun e w' => e = .returned (.bool (decide (xs = ys))) ∧ ∃ k, w.drewN k = w' := by
  have lx : xs.length = n := hx.wlen
  have ly : ys.length = m := hy.wlen
  by_cases hnm : n = m
  · subst hnm
    have HX := Lib.hid hx
    have HY := Lib.hid hy
    have LX := Lib.hid lx
    have LY := Lib.hid ly
    clear hx hy lx ly
    have hb0 : ((n : Int) != (n : Int)) = false := by simp
    go_enter Try.func29, Try.ntmps29
    go_wp2_with fail
    go_loopw [5] (fun i wr => ∃ k : Nat, k ≤ n ∧ i = .int .i64 k ∧ Hid (∀ j, j < k → xs[j]? = ys[j]?) ∧ ∃ t, wr = w.drewN t) (fun i _ => n - (intOf i).toNat)
    case atStart => exact ⟨0, Nat.zero_le _, rfl, fun j hj => absurd hj (by omega), 0, rfl⟩
    case round =>
      obtain ⟨k, hk, rfl, HA, t, rfl⟩ := hrel
      by_cases hlt : k < n
      · obtain ⟨b, off, rfl⟩ := HX.out.addr (by omega) (by decide)
        obtain ⟨b', off', rfl⟩ := HY.out.addr (by omega) (by decide)
        obtain ⟨x, ex⟩ : ∃ x, xs[k]? = some x := ⟨xs[k]'(by rw [LX.out]; exact hlt), by simp [LX.out, hlt]⟩
        obtain ⟨y, ey⟩ : ∃ y, ys[k]? = some y := ⟨ys[k]'(by rw [LY.out]; exact hlt), by simp [LY.out, hlt]⟩
        have hcx : ∀ j, j < 12 → w.cell? ⟨b, off + k * 12 + j, none⟩ = (#[.int .i64 x.pc, .int .i64 x.job, .int .i64 x.r0, .int .i64 x.r1, .int .i64 x.r2, .int .i64 x.r3, .int .i64 x.r4, .int .i64 x.r5, .int .i64 x.r6, .int .i64 x.r7, .bool x.done, .int .i64 x.out] : Array Value)[j]? := (HX.out.wk k x ex).1
        have hcx2 := (HX.out.wk k x ex).2
        have hcy2 := (HY.out.wk k y ey).2
        have hcy : ∀ j, j < 12 → w.cell? ⟨b', off' + k * 12 + j, none⟩ = (#[.int .i64 y.pc, .int .i64 y.job, .int .i64 y.r0, .int .i64 y.r1, .int .i64 y.r2, .int .i64 y.r3, .int .i64 y.r4, .int .i64 y.r5, .int .i64 y.r6, .int .i64 y.r7, .bool y.done, .int .i64 y.out] : Array Value)[j]? := (HY.out.wk k y ey).1
        have EX := Lib.hid ex
        have EY := Lib.hid ey
        clear ex ey
        by_cases hxy : x = y
        · have h1 : decide (x = y) = true := by simp [hxy]
          have HXY := Lib.hid hxy
          clear hxy
          go_wp2_with fail
          go_region
          go_wp2_with fail
          go_roundw
          case rel =>
            refine ⟨k + 1, by omega, by go_num, fun j hj => ?_, _, rfl⟩
            rcases Nat.lt_succ_iff_lt_or_eq.1 hj with h | rfl
            · exact HA.out j h
            · rw [EX.out, EY.out, HXY.out]
          case measure => simp [intOf]; omega
        · have h1 : decide (x = y) = false := by simp [hxy]
          have hne : decide (xs = ys) = false := by
            rw [decide_eq_false_iff_not]
            intro e
            have := EX.out
            rw [e, EY.out] at this
            exact hxy (Option.some.inj this).symm
          have HE := Lib.hid hne
          clear hxy hne
          go_wp2_with fail
          go_region
          go_wp2_with fail
          go_ret
          exact ⟨by rw [HE.out]; rfl, _, rfl⟩
      · have he : decide (xs = ys) = true := by
          rw [decide_eq_true_eq]
          apply List.ext_getElem?
          intro j
          by_cases hj : j < n
          · exact HA.out j (by omega)
          · rw [List.getElem?_eq_none (by rw [LX.out]; omega), List.getElem?_eq_none (by rw [LY.out]; omega)]
        have HE := Lib.hid he
        clear he
        go_wp2_with fail
        go_ret
        exact ⟨by rw [HE.out]; rfl, _, rfl⟩
  · have hne : decide (xs = ys) = false := by
      rw [decide_eq_false_iff_not]
      rintro rfl
      omega
    have hb0 : ((n : Int) != (m : Int)) = true := by simp; omega
    rw [hne]
    clear hnm lx ly hx hy
    go_enter Try.func29, Try.ntmps29
    go_wp2_with fail
    go_ret
    exact ⟨rfl, 0, rfl⟩

end Go.Proofs.Ytdnajckhnknlcaa
