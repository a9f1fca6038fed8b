/-
  The contracts of the functions that these laws reach, part 4.
-/
import Derived.Test.YtdnajckhnknlcaaR3

/-! One step of a worker, in the program: the walk, whatever the job. -/
namespace Go.Proofs.Ytdnajckhnknlcaa
set_option linter.unusedVariables false
set_option linter.unusedSimpArgs false
open Go.RowKit

theorem may_any (a : Int) (w : World) : Calls Try.prog 31 #[.int .i64 a] w fun e w' => e = .returned (.bool (may a)) ∧ w = w' := by
  by_cases h : 1 ≤ a
  · have e : may a = decide (a ≤ 1000) := by simp [may, h]
    rw [e]
    go_enter Try.func31, Try.ntmps31
    go_wp2
    go_ret
    exact ⟨rfl, rfl⟩
  · have e : may a = false := by simp [may, h]
    rw [e]
    go_enter Try.func31, Try.ntmps31
    go_wp2
    go_ret
    exact ⟨rfl, rfl⟩

theorem may_t (a : Int) (w : World) (h1 : 1 ≤ a) (h2 : a ≤ 1000) : Calls Try.prog 31 #[.int .i64 a] w fun e w' => e = .returned (.bool true) ∧ w = w' := by
  have e : may a = true := by simp [may, h1, h2]
  rw [← e]; exact may_any a w

theorem rd_fr_of_owns {w : World} {base e size B : Nat} {p : Option Addr} {n c : Nat} {xs : List Value} (h : w.ownsRow base e size (.slice p n c) n xs) (hB : B ≤ base) : Rd w size p n c xs ∧ Fr B p := by
  obtain ⟨p', c', hv, hR, hF⟩ := Rd.of_owns h
  simp only [Value.slice.injEq, true_and] at hv
  obtain ⟨rfl, rfl⟩ := hv
  exact ⟨hR, hF.mono hB⟩

theorem Blk.new1 (w : World) (o : Obj) (T : Nat) (cs : Array Value) : Blk ((w.alloc o).alloc (.cells cs T)) (w.heap.size + 1) T cs := by
  have t := Blk.new (w.alloc o) T cs
  simpa using t

set_option maxHeartbeats 2000000 in
set_option maxRecDepth 100000 in
theorem step_go (p : Option Addr) (c : Nat) (xs : List Int) (at_ room : Int) (i : Nat) (job r0 r1 r2 r3 r4 r5 r6 r7 out : Int) (w : World) (hr : Rd w 1 p xs.length c (ints xs)) (hlen : xs.length ≤ 100000)
    (hr1 : 1 ≤ room) (hr2 : room ≤ 1000) (hat : 0 ≤ at_) (fs : Array Value) (hfs : fs.size ≤ 10) (F : Nat) (hi : i < fs.size) (hF : fs[i]? = some (fnV F)) (R : DoR) (x' : Wk) (he0 : R.e = 0) (hlx : R.xs.length = xs.length)
    (hcf : ∀ w args, (callFunc F args).run Try.prog w = .ok (.enter F args) w)
    (hlook : ∀ w1 r, JobsAt w1 r → ∃ g, (Instr.lookup 51 (.map (some r)) (.int .i64 job) false).run Try.prog w1 = .ok (.slice (some ⟨g, 0, none⟩) fs.size fs.size) w1 ∧ Blk w1 g 58 fs)
    (hmeth : ∀ W b p c, Rd W 1 p xs.length c (ints xs) → NeN b p xs.length →
      Blk W b 57 #[.int .i64 i, .int .i64 job, .int .i64 r0, .int .i64 r1, .int .i64 r2, .int .i64 r3, .int .i64 r4, .int .i64 r5, .int .i64 r6, .int .i64 r7, .bool false, .int .i64 out, .slice p xs.length c, .int .i64 at_, .int .i64 room, .int .i64 0] →
      Calls Try.prog F #[.pointer (some ⟨b, 0, none⟩)] W fun e w' => e = .returned (.tuple #[]) ∧ HS W w' b xs.length (fun p c => hdV x' p xs.length c at_ room R.e) R.xs) :
    Calls Try.prog 12 #[.slice p xs.length c, .int .i64 at_, .int .i64 room, (⟨i, job, r0, r1, r2, r3, r4, r5, r6, r7, false, out⟩ : Wk).v] w fun e w' =>
      ∃ p' c', e = .returned (.tuple #[.slice p' xs.length c', x'.v, .int .i64 0]) ∧ Below w.heap.size w w' ∧ Rd w' 1 p' xs.length c' (ints R.xs) ∧ Fr w.heap.size p' := by
  obtain ⟨pc', job', s0, s1, s2, s3, s4, s5, s6, s7, d', o'⟩ := x'
  obtain ⟨e1, ys, x1, d1⟩ := R
  simp only at he0 hlx
  subst he0
  have HR := Lib.hid hr
  have HL := Lib.hid hlook
  have HM := Lib.hid hmeth
  have HX := Lib.hid hlx
  have HF := Lib.hid hF
  clear hr hlook hmeth hlx hF
  simp only [Wk.v, Wk.cells]
  go_enter Try.func12, Try.ntmps12
  go_wp2_with fail
  go_region_with (go_at_call 30; go_must (refine (jobs_any _).mono ?_; rintro e w1 ⟨r, rfl, hb1, hj⟩; obtain ⟨g, hlk, hfb⟩ := HL.out w1 r hj; clear hj; have hc1 := ((Blk.new w 25 #[.int .i64 i, .int .i64 job, .int .i64 r0, .int .i64 r1, .int .i64 r2, .int .i64 r3, .int .i64 r4, .int .i64 r5, .int .i64 r6, .int .i64 r7, .bool false, .int .i64 out]).alloc (.cells #[.int .i64 0, .int .i64 0, .int .i64 0, .int .i64 0, .int .i64 0, .int .i64 0, .int .i64 0, .int .i64 0, .int .i64 0, .int .i64 0, .bool false, .int .i64 0] 25)).drew.ext hb1; have hcc1 := hc1.cell; have hd1 := (Blk.new1 w (.cells #[.int .i64 i, .int .i64 job, .int .i64 r0, .int .i64 r1, .int .i64 r2, .int .i64 r3, .int .i64 r4, .int .i64 r5, .int .i64 r6, .int .i64 r7, .bool false, .int .i64 out] 25) 25 #[.int .i64 0, .int .i64 0, .int .i64 0, .int .i64 0, .int .i64 0, .int .i64 0, .int .i64 0, .int .i64 0, .int .i64 0, .int .i64 0, .bool false, .int .i64 0]).drew.ext hb1; have hlt0 := hc1.lt; have hlt1 : w.heap.size + 1 < w1.heap.size := (by have h9 := hb1.size; simp at h9; omega); have hgl := hfb.lt; have hgf : w1.cell? ⟨g, i, none⟩ = some (.func (.func F) #[] #[]) := (hfb.cell i).trans HF.out))
  all_goals go_wp2_with (go_at_call 31; go_must (refine (may_t room _ hr1 hr2).mono ?_; rintro e w2 ⟨rfl, rfl⟩))
  all_goals
    refine (HM.out _ w1.heap.size p c ?_ ?_ (Blk.new w1 57 _)).mono ?_
    · exact ((((HR.out.alloc _).alloc _).drew).ext hb1).alloc _
    · exact HR.out.neN (by decide) (Nat.le_trans (by simp) (Nat.le_of_lt hlt0))
    rintro e w3 ⟨rfl, p1, c1, hg3, h3, hown3⟩
    have hc3 := h3.cell
    simp only [hdV] at hc3
    have hd3 := (hd1.alloc (.cells #[.int .i64 i, .int .i64 job, .int .i64 r0, .int .i64 r1, .int .i64 r2, .int .i64 r3, .int .i64 r4, .int .i64 r5, .int .i64 r6, .int .i64 r7, .bool false, .int .i64 out, .slice p xs.length c, .int .i64 at_, .int .i64 room, .int .i64 0] 57)).grown hg3 (by simp; omega)
    have hdc3 := hd3.cell
    have hdf3 := hd3.frozen
    go_wp2_with fail
    have hE3 : Below w.heap.size w w3 := ext_grown (ext_alloc (ext_trans (ext_drew (ext_alloc (ext_alloc (Below.refl _ _) _) _)) hb1) _) hg3 (by rintro k ⟨⟩; omega)
    clear hfb hlk hgf hc1 hcc1 hd1
    go_region
  all_goals
    go_wp2_with fail
    refine bodyPost_ret (v := .tuple #[.slice p1 xs.length c1, .agg #[.int .i64 pc', .int .i64 job', .int .i64 s0, .int .i64 s1, .int .i64 s2, .int .i64 s3, .int .i64 s4, .int .i64 s5, .int .i64 s6, .int .i64 s7, .bool d', .int .i64 o'], .int .i64 0]) (by simp [results, Try.results12, go_sem, hdc3]) rfl ⟨p1, c1, rfl, ?_, ?_⟩
    · refine ext_drew ?_
      iterate 12 (refine ext_set ?_ _ _ (by omega))
      exact hE3
    · refine rd_fr_of_owns (e := 3) (base := w1.heap.size + 1) ?_ (by omega)
      refine own_drew ?_
      iterate 12 (refine ownsRow_setCell_below ?_ (by simp; omega) _)
      exact owns_mono hown3 (by simp)

end Go.Proofs.Ytdnajckhnknlcaa

/-! One step of a worker, in the program: where its access is refused. -/
namespace Go.Proofs.Ytdnajckhnknlcaa
set_option linter.unusedVariables false
set_option linter.unusedSimpArgs false
open Go.RowKit

theorem Rd.grownN {w w' : World} {row : Option Nat} {size : Nat} {p : Option Addr} {n c : Nat} {cs : List Value} (h : Rd w size p n c cs) (hg : w.grownBy w' row) (hne : ∀ b, row = some b → NeN b p n) : Rd w' size p n c cs := by
  by_cases hn : 0 < n
  · exact h.grown hg (fun b hb a ha => hne b hb a ha hn)
  · have h0 : n = 0 := by omega
    subst h0
    have hcs : cs = [] := List.eq_nil_of_length_eq_zero (by simpa using h.len)
    subst hcs
    exact ⟨h.len, h.cap, h.max, h.nil, fun a ha j u hu => by simp at hu⟩

set_option maxHeartbeats 4000000 in
set_option maxRecDepth 100000 in
theorem step_err (p : Option Addr) (c : Nat) (xs : List Int) (at_ room : Int) (i : Nat) (job r0 r1 r2 r3 r4 r5 r6 r7 out : Int) (w : World) (hr : Rd w 1 p xs.length c (ints xs)) (hlen : xs.length ≤ 100000)
    (hr1 : 1 ≤ room) (hr2 : room ≤ 1000) (hat : 0 ≤ at_) (fs : Array Value) (hfs : fs.size ≤ 10) (F : Nat) (hi : i < fs.size) (hF : fs[i]? = some (fnV F)) (R : DoR) (x' : Wk) (he0 : R.e = 2) (hlx : R.xs.length = xs.length)
    (hcf : ∀ w args, (callFunc F args).run Try.prog w = .ok (.enter F args) w)
    (hlook : ∀ w1 r, JobsAt w1 r → ∃ g, (Instr.lookup 51 (.map (some r)) (.int .i64 job) false).run Try.prog w1 = .ok (.slice (some ⟨g, 0, none⟩) fs.size fs.size) w1 ∧ Blk w1 g 58 fs)
    (hmeth : ∀ W b p c, Rd W 1 p xs.length c (ints xs) → NeN b p xs.length →
      Blk W b 57 #[.int .i64 i, .int .i64 job, .int .i64 r0, .int .i64 r1, .int .i64 r2, .int .i64 r3, .int .i64 r4, .int .i64 r5, .int .i64 r6, .int .i64 r7, .bool false, .int .i64 out, .slice p xs.length c, .int .i64 at_, .int .i64 room, .int .i64 0] →
      Calls Try.prog F #[.pointer (some ⟨b, 0, none⟩)] W fun e w' => e = .returned (.tuple #[]) ∧ HS W w' b xs.length (fun p c => hdV x' p xs.length c at_ room R.e) R.xs) :
    Calls Try.prog 12 #[.slice p xs.length c, .int .i64 at_, .int .i64 room, (⟨i, job, r0, r1, r2, r3, r4, r5, r6, r7, false, out⟩ : Wk).v] w fun e w' =>
      ∃ p' c', e = .returned (.tuple #[.slice p' xs.length c', (⟨i, job, r0, r1, r2, r3, r4, r5, r6, r7, false, out⟩ : Wk).v, .int .i64 2]) ∧ Below w.heap.size w w' ∧ Rd w' 1 p' xs.length c' (ints xs) ∧ Fr w.heap.size p' := by
  obtain ⟨pc', job', s0, s1, s2, s3, s4, s5, s6, s7, d', o'⟩ := x'
  obtain ⟨e1, ys, x1, d1⟩ := R
  simp only at he0 hlx
  subst he0
  have HR := Lib.hid hr
  have HL := Lib.hid hlook
  have HM := Lib.hid hmeth
  have HX := Lib.hid hlx
  have HF := Lib.hid hF
  have H1 := Lib.hid (ints_one xs)
  clear hr hlook hmeth hlx hF
  simp only [Wk.v, Wk.cells]
  go_enter Try.func12, Try.ntmps12
  go_wp2_with fail
  go_region_with (go_at_call 30; go_must (refine (jobs_any _).mono ?_; rintro e w1 ⟨r, rfl, hb1, hj⟩; obtain ⟨g, hlk, hfb⟩ := HL.out w1 r hj; clear hj; have hc1 := ((Blk.new w 25 #[.int .i64 i, .int .i64 job, .int .i64 r0, .int .i64 r1, .int .i64 r2, .int .i64 r3, .int .i64 r4, .int .i64 r5, .int .i64 r6, .int .i64 r7, .bool false, .int .i64 out]).alloc (.cells #[.int .i64 0, .int .i64 0, .int .i64 0, .int .i64 0, .int .i64 0, .int .i64 0, .int .i64 0, .int .i64 0, .int .i64 0, .int .i64 0, .bool false, .int .i64 0] 25)).drew.ext hb1; have hcc1 := hc1.cell; have hd1 := (Blk.new1 w (.cells #[.int .i64 i, .int .i64 job, .int .i64 r0, .int .i64 r1, .int .i64 r2, .int .i64 r3, .int .i64 r4, .int .i64 r5, .int .i64 r6, .int .i64 r7, .bool false, .int .i64 out] 25) 25 #[.int .i64 0, .int .i64 0, .int .i64 0, .int .i64 0, .int .i64 0, .int .i64 0, .int .i64 0, .int .i64 0, .int .i64 0, .int .i64 0, .bool false, .int .i64 0]).drew.ext hb1; have hlt0 := hc1.lt; have hlt1 : w.heap.size + 1 < w1.heap.size := (by have h9 := hb1.size; simp at h9; omega); have hgl := hfb.lt; have hgf : w1.cell? ⟨g, i, none⟩ = some (.func (.func F) #[] #[]) := (hfb.cell i).trans HF.out))
  all_goals go_wp2_with (go_at_call 31; go_must (refine (may_t room _ hr1 hr2).mono ?_; rintro e w2 ⟨rfl, rfl⟩))
  all_goals
    refine (HM.out _ w1.heap.size p c ?_ ?_ (Blk.new w1 57 _)).mono ?_
    · exact ((((HR.out.alloc _).alloc _).drew).ext hb1).alloc _
    · exact HR.out.neN (by decide) (Nat.le_trans (by simp) (Nat.le_of_lt hlt0))
    rintro e w3 ⟨rfl, p1, c1, hg3, h3, hown3⟩
    have hc3 := h3.cell
    simp only [hdV] at hc3
    have hd3 := (hd1.alloc (.cells #[.int .i64 i, .int .i64 job, .int .i64 r0, .int .i64 r1, .int .i64 r2, .int .i64 r3, .int .i64 r4, .int .i64 r5, .int .i64 r6, .int .i64 r7, .bool false, .int .i64 out, .slice p xs.length c, .int .i64 at_, .int .i64 room, .int .i64 0] 57)).grown hg3 (by simp; omega)
    have hdc3 := hd3.cell
    have hdf3 := hd3.frozen
    go_wp2_with fail
    have hE3 : Below w.heap.size w w3 := ext_grown (ext_alloc (ext_trans (ext_drew (ext_alloc (ext_alloc (Below.refl _ _) _) _)) hb1) _) hg3 (by rintro k ⟨⟩; omega)
    have hb3 := (hc1.alloc (.cells #[.int .i64 i, .int .i64 job, .int .i64 r0, .int .i64 r1, .int .i64 r2, .int .i64 r3, .int .i64 r4, .int .i64 r5, .int .i64 r6, .int .i64 r7, .bool false, .int .i64 out, .slice p xs.length c, .int .i64 at_, .int .i64 room, .int .i64 0] 57)).grown hg3 (by simp; omega)
    have hrd3 : Rd w3 1 p xs.length c (ints xs) := Rd.grownN (((((HR.out.alloc _).alloc _).drew).ext hb1).alloc _) hg3 (by rintro k ⟨⟩; exact HR.out.neN (by decide) (Nat.le_trans (by simp) (Nat.le_of_lt hlt0)))
    have HR3 := Lib.hid hrd3
    clear hrd3
    have h3' : Blk w3 w1.heap.size 57 #[.int .i64 pc', .int .i64 job', .int .i64 s0, .int .i64 s1, .int .i64 s2, .int .i64 s3, .int .i64 s4, .int .i64 s5, .int .i64 s6, .int .i64 s7, .bool d', .int .i64 o', .slice p1 xs.length c1, .int .i64 at_, .int .i64 room, .int .i64 2] := h3
    have hbc3 := hb3.cell
    clear hfb hlk hgf hc1 hcc1 hd1 h3
    go_region_with (go_at_call 32; go_must (refine (clone_int p xs.length c (ints xs) _ ?_ H1.out (by omega)).mono ?_; (· exact HR3.out.drew); rintro e w4 ⟨p2, c2, rfl, hb4, hown4⟩; have q1 := (h3'.drew.ext hb4).cell; have q2 := (hd3.drew.ext hb4).cell; have q3 := (hd3.drew.ext hb4).frozen; have q4 := (hb3.drew.ext hb4).cell))
  all_goals
    go_wp2_with fail
    refine bodyPost_ret (v := .tuple #[.slice p2 xs.length c2, .agg #[.int .i64 i, .int .i64 job, .int .i64 r0, .int .i64 r1, .int .i64 r2, .int .i64 r3, .int .i64 r4, .int .i64 r5, .int .i64 r6, .int .i64 r7, .bool false, .int .i64 out], .int .i64 2]) (by simp [results, Try.results12, go_sem, q2]) rfl ⟨p2, c2, rfl, ?_, ?_⟩
    · iterate 12 (refine ext_set ?_ _ _ (by omega))
      exact ext_trans (ext_drew hE3) hb4
    · refine rd_fr_of_owns (e := 3) (base := w3.heap.size) ?_ (by have := hd3.lt; omega)
      iterate 12 (refine ownsRow_setCell_below ?_ (hd3.lt) _)
      exact owns_mono hown4 (by simp)

end Go.Proofs.Ytdnajckhnknlcaa

/-! The reference's step: the walk of Step where there is none. -/
namespace Go.Proofs.Ytdnajckhnknlcaa
set_option linter.unusedVariables false
set_option linter.unusedSimpArgs false
open Go.RowKit

set_option maxHeartbeats 2000000 in
set_option maxRecDepth 100000 in
theorem rstep_bad_room (p : Option Addr) (c : Nat) (xs : List Int) (at_ room : Int) (pc job r0 r1 r2 r3 r4 r5 r6 r7 out : Int) (w : World) (hr : Rd w 1 p xs.length c (ints xs)) (hlen : xs.length ≤ 100000) (done : Bool) (hm : Hid (may room = false)) :
    Calls Try.prog 13 #[.slice p xs.length c, .int .i64 at_, .int .i64 room, (⟨pc, job, r0, r1, r2, r3, r4, r5, r6, r7, done, out⟩ : Wk).v] w fun e w' => ∃ p' c', e = .returned (.tuple #[.slice p' xs.length c', (⟨pc, job, r0, r1, r2, r3, r4, r5, r6, r7, done, out⟩ : Wk).v, .int .i64 1]) ∧ Below w.heap.size w w' ∧ Rd w' 1 p' xs.length c' (ints xs) := by
  have HR := Lib.hid hr
  clear hr
  simp only [Wk.v, Wk.cells]
  go_enter Try.func13, Try.ntmps13
  go_wp2_with (go_at_call 33; go_must (refine (rmay_f room _ hm.out).mono ?_; rintro e w2 ⟨rfl, rfl⟩))
  go_region
  all_goals
    go_wp2_with fail
    refine bodyPost_ret (v := .tuple #[.slice p xs.length c, .agg #[.int .i64 pc, .int .i64 job, .int .i64 r0, .int .i64 r1, .int .i64 r2, .int .i64 r3, .int .i64 r4, .int .i64 r5, .int .i64 r6, .int .i64 r7, .bool done, .int .i64 out], .int .i64 1]) (by simp [results, Try.results13, go_sem]) rfl ⟨p, c, rfl, ?_, ?_⟩
    · repeat (first | (with_reducible exact Below.refl _ _) | (with_reducible refine ext_set ?_ _ _ (by simp <;> omega)) | (with_reducible apply ext_drewN) | (with_reducible apply ext_drew) | (with_reducible apply ext_alloc))
    · refine Rd.drew ?_
      repeat (first | exact HR.out | (with_reducible apply Rd.alloc) | (with_reducible apply Rd.drew))

set_option maxHeartbeats 2000000 in
set_option maxRecDepth 100000 in
theorem rstep_bad_at (p : Option Addr) (c : Nat) (xs : List Int) (at_ room : Int) (pc job r0 r1 r2 r3 r4 r5 r6 r7 out : Int) (w : World) (hr : Rd w 1 p xs.length c (ints xs)) (hlen : xs.length ≤ 100000) (hr1 : 1 ≤ room) (hr2 : room ≤ 1000) (hat : at_ < 0) (done : Bool) :
    Calls Try.prog 13 #[.slice p xs.length c, .int .i64 at_, .int .i64 room, (⟨pc, job, r0, r1, r2, r3, r4, r5, r6, r7, done, out⟩ : Wk).v] w fun e w' => ∃ p' c', e = .returned (.tuple #[.slice p' xs.length c', (⟨pc, job, r0, r1, r2, r3, r4, r5, r6, r7, done, out⟩ : Wk).v, .int .i64 1]) ∧ Below w.heap.size w w' ∧ Rd w' 1 p' xs.length c' (ints xs) := by
  have HR := Lib.hid hr
  clear hr
  simp only [Wk.v, Wk.cells]
  go_enter Try.func13, Try.ntmps13
  go_wp2_with (go_at_call 33; go_must (refine (rmay_t room _ hr1 hr2).mono ?_; rintro e w2 ⟨rfl, rfl⟩))
  go_region
  all_goals
    go_wp2_with fail
    refine bodyPost_ret (v := .tuple #[.slice p xs.length c, .agg #[.int .i64 pc, .int .i64 job, .int .i64 r0, .int .i64 r1, .int .i64 r2, .int .i64 r3, .int .i64 r4, .int .i64 r5, .int .i64 r6, .int .i64 r7, .bool done, .int .i64 out], .int .i64 1]) (by simp [results, Try.results13, go_sem]) rfl ⟨p, c, rfl, ?_, ?_⟩
    · repeat (first | (with_reducible exact Below.refl _ _) | (with_reducible refine ext_set ?_ _ _ (by simp <;> omega)) | (with_reducible apply ext_drewN) | (with_reducible apply ext_drew) | (with_reducible apply ext_alloc))
    · refine Rd.drew ?_
      repeat (first | exact HR.out | (with_reducible apply Rd.alloc) | (with_reducible apply Rd.drew))

set_option maxHeartbeats 2000000 in
set_option maxRecDepth 100000 in
theorem rstep_bad_done (p : Option Addr) (c : Nat) (xs : List Int) (at_ room : Int) (pc job r0 r1 r2 r3 r4 r5 r6 r7 out : Int) (w : World) (hr : Rd w 1 p xs.length c (ints xs)) (hlen : xs.length ≤ 100000) (hr1 : 1 ≤ room) (hr2 : room ≤ 1000) (hat : 0 ≤ at_) :
    Calls Try.prog 13 #[.slice p xs.length c, .int .i64 at_, .int .i64 room, (⟨pc, job, r0, r1, r2, r3, r4, r5, r6, r7, true, out⟩ : Wk).v] w fun e w' => ∃ p' c', e = .returned (.tuple #[.slice p' xs.length c', (⟨pc, job, r0, r1, r2, r3, r4, r5, r6, r7, true, out⟩ : Wk).v, .int .i64 1]) ∧ Below w.heap.size w w' ∧ Rd w' 1 p' xs.length c' (ints xs) := by
  have HR := Lib.hid hr
  clear hr
  simp only [Wk.v, Wk.cells]
  go_enter Try.func13, Try.ntmps13
  go_wp2_with (go_at_call 33; go_must (refine (rmay_t room _ hr1 hr2).mono ?_; rintro e w2 ⟨rfl, rfl⟩))
  go_region
  all_goals
    go_wp2_with fail
    refine bodyPost_ret (v := .tuple #[.slice p xs.length c, .agg #[.int .i64 pc, .int .i64 job, .int .i64 r0, .int .i64 r1, .int .i64 r2, .int .i64 r3, .int .i64 r4, .int .i64 r5, .int .i64 r6, .int .i64 r7, .bool true, .int .i64 out], .int .i64 1]) (by simp [results, Try.results13, go_sem]) rfl ⟨p, c, rfl, ?_, ?_⟩
    · repeat (first | (with_reducible exact Below.refl _ _) | (with_reducible refine ext_set ?_ _ _ (by simp <;> omega)) | (with_reducible apply ext_drewN) | (with_reducible apply ext_drew) | (with_reducible apply ext_alloc))
    · refine Rd.drew ?_
      repeat (first | exact HR.out | (with_reducible apply Rd.alloc) | (with_reducible apply Rd.drew))

end Go.Proofs.Ytdnajckhnknlcaa

/-! The reference's step: the walk of Step where there is no access. -/
namespace Go.Proofs.Ytdnajckhnknlcaa
set_option linter.unusedVariables false
set_option linter.unusedSimpArgs false
open Go.RowKit

set_option maxHeartbeats 2000000 in
set_option maxRecDepth 100000 in
theorem rstep_none (p : Option Addr) (c : Nat) (xs : List Int) (at_ room : Int) (pc job r0 r1 r2 r3 r4 r5 r6 r7 out : Int) (w : World) (hr : Rd w 1 p xs.length c (ints xs)) (hlen : xs.length ≤ 100000) (hr1 : 1 ≤ room) (hr2 : room ≤ 1000) (hat : 0 ≤ at_)
    (hacc : ∀ W, Calls Try.prog 34 #[.int .i64 at_, .int .i64 room, .agg #[.int .i64 pc, .int .i64 job, .int .i64 r0, .int .i64 r1, .int .i64 r2, .int .i64 r3, .int .i64 r4, .int .i64 r5, .int .i64 r6, .int .i64 r7, .bool false, .int .i64 out]] W fun e w' => e = .returned (.tuple #[.agg #[.int .i64 0, .int .i64 0, .int .i64 0, .int .i64 0], .bool false]) ∧ Below W.heap.size W w') :
    Calls Try.prog 13 #[.slice p xs.length c, .int .i64 at_, .int .i64 room, (⟨pc, job, r0, r1, r2, r3, r4, r5, r6, r7, false, out⟩ : Wk).v] w fun e w' => ∃ p' c', e = .returned (.tuple #[.slice p' xs.length c', (⟨pc, job, r0, r1, r2, r3, r4, r5, r6, r7, false, out⟩ : Wk).v, .int .i64 1]) ∧ Below w.heap.size w w' ∧ Rd w' 1 p' xs.length c' (ints xs) := by
  have HR := Lib.hid hr
  have HA := Lib.hid hacc
  clear hr hacc
  simp only [Wk.v, Wk.cells]
  go_enter Try.func13, Try.ntmps13
  go_wp2_with (first | (go_at_call 33; go_must (refine (rmay_t room _ hr1 hr2).mono ?_; rintro e w2 ⟨rfl, rfl⟩)) | (go_at_call 34; go_must (refine (HA.out _).mono ?_; rintro e w2 ⟨rfl, hb2⟩; have a0 := Blk.ext ((Blk.new w 25 #[.int .i64 pc, .int .i64 job, .int .i64 r0, .int .i64 r1, .int .i64 r2, .int .i64 r3, .int .i64 r4, .int .i64 r5, .int .i64 r6, .int .i64 r7, .bool false, .int .i64 out]).alloc (.cells #[.int .i64 0, .int .i64 0, .int .i64 0, .int .i64 0, .int .i64 0, .int .i64 0, .int .i64 0, .int .i64 0, .int .i64 0, .int .i64 0, .bool false, .int .i64 0] 25)) hb2; have a1 := Blk.ext (Blk.new1 w (.cells #[.int .i64 pc, .int .i64 job, .int .i64 r0, .int .i64 r1, .int .i64 r2, .int .i64 r3, .int .i64 r4, .int .i64 r5, .int .i64 r6, .int .i64 r7, .bool false, .int .i64 out] 25) 25 #[.int .i64 0, .int .i64 0, .int .i64 0, .int .i64 0, .int .i64 0, .int .i64 0, .int .i64 0, .int .i64 0, .int .i64 0, .int .i64 0, .bool false, .int .i64 0]) hb2; have a0c := a0.cell; have a1c := a1.cell; have a1f := a1.frozen; have a0l := a0.lt; have a1l := a1.lt; have HR2 := Lib.hid (((HR.out.alloc (.cells #[.int .i64 pc, .int .i64 job, .int .i64 r0, .int .i64 r1, .int .i64 r2, .int .i64 r3, .int .i64 r4, .int .i64 r5, .int .i64 r6, .int .i64 r7, .bool false, .int .i64 out] 25)).alloc (.cells #[.int .i64 0, .int .i64 0, .int .i64 0, .int .i64 0, .int .i64 0, .int .i64 0, .int .i64 0, .int .i64 0, .int .i64 0, .int .i64 0, .bool false, .int .i64 0] 25)).ext hb2))))
  go_region
  all_goals
    go_wp2_with fail
    refine bodyPost_ret (v := .tuple #[.slice p xs.length c, .agg #[.int .i64 pc, .int .i64 job, .int .i64 r0, .int .i64 r1, .int .i64 r2, .int .i64 r3, .int .i64 r4, .int .i64 r5, .int .i64 r6, .int .i64 r7, .bool false, .int .i64 out], .int .i64 1]) (by simp [results, Try.results13, go_sem, a1c, a1l]) rfl ⟨p, c, rfl, ?_, ?_⟩
    · repeat (first | (with_reducible exact Below.refl _ _) | (with_reducible refine ext_trans ?_ (by with_reducible assumption)) | (with_reducible refine ext_set ?_ _ _ (by simp <;> omega)) | (with_reducible apply ext_drewN) | (with_reducible apply ext_drew) | (with_reducible apply ext_alloc))
    · repeat (first | (with_reducible exact HR2.out) | (with_reducible refine Rd.setOtherN ?_ ?_ _ _; rotate_left; (exact HR.out.neN (by decide) (by omega))) | (with_reducible apply Rd.alloc) | (with_reducible apply Rd.drew))

end Go.Proofs.Ytdnajckhnknlcaa

/-! The reference's step: the walk of Step where its access is refused. -/
namespace Go.Proofs.Ytdnajckhnknlcaa
set_option linter.unusedVariables false
set_option linter.unusedSimpArgs false
open Go.RowKit

set_option maxHeartbeats 2000000 in
set_option maxRecDepth 100000 in
theorem rstep_err (p : Option Addr) (c : Nat) (xs : List Int) (at_ room : Int) (pc job r0 r1 r2 r3 r4 r5 r6 r7 out : Int) (w : World) (hr : Rd w 1 p xs.length c (ints xs)) (hlen : xs.length ≤ 100000) (hr1 : 1 ≤ room) (hr2 : room ≤ 1000) (hat : 0 ≤ at_) (k a o n : Int) (hacc : ∀ W, Calls Try.prog 34 #[.int .i64 at_, .int .i64 room, .agg #[.int .i64 pc, .int .i64 job, .int .i64 r0, .int .i64 r1, .int .i64 r2, .int .i64 r3, .int .i64 r4, .int .i64 r5, .int .i64 r6, .int .i64 r7, .bool false, .int .i64 out]] W fun e w' => e = .returned (.tuple #[.agg #[.int .i64 k, .int .i64 a, .int .i64 o, .int .i64 n], .bool true]) ∧ Below W.heap.size W w') (R : DoR) (he : R.e = 2) (hlx : R.xs.length = xs.length) (hdo : ∀ W, Rd W 1 p xs.length c (ints xs) → Calls Try.prog 35 #[.slice p xs.length c, .agg #[.int .i64 k, .int .i64 a, .int .i64 o, .int .i64 n]] W fun e w' => ∃ p' c', e = .returned (.tuple #[.slice p' xs.length c', .int .i64 R.x, .bool R.done, .int .i64 R.e]) ∧ Below W.heap.size W w' ∧ w'.ownsRow W.heap.size 3 1 (.slice p' xs.length c') xs.length (ints R.xs)) :
    Calls Try.prog 13 #[.slice p xs.length c, .int .i64 at_, .int .i64 room, (⟨pc, job, r0, r1, r2, r3, r4, r5, r6, r7, false, out⟩ : Wk).v] w fun e w' => ∃ p' c', e = .returned (.tuple #[.slice p' xs.length c', (⟨pc, job, r0, r1, r2, r3, r4, r5, r6, r7, false, out⟩ : Wk).v, .int .i64 2]) ∧ Below w.heap.size w w' ∧ Rd w' 1 p' xs.length c' (ints xs) := by
  obtain ⟨e1, ys, x1, d1⟩ := R
  simp only at he hlx
  subst he
  have HR := Lib.hid hr
  have HA := Lib.hid hacc
  have HD := Lib.hid hdo
  clear hr hacc hdo hlx
  simp only [Wk.v, Wk.cells]
  go_enter Try.func13, Try.ntmps13
  go_wp2_with (first | (go_at_call 33; go_must (refine (rmay_t room _ hr1 hr2).mono ?_; rintro e w2 ⟨rfl, rfl⟩)) | (go_at_call 34; go_must (refine (HA.out _).mono ?_; rintro e w2 ⟨rfl, hb2⟩; have a0 := Blk.ext ((Blk.new w 25 #[.int .i64 pc, .int .i64 job, .int .i64 r0, .int .i64 r1, .int .i64 r2, .int .i64 r3, .int .i64 r4, .int .i64 r5, .int .i64 r6, .int .i64 r7, .bool false, .int .i64 out]).alloc (.cells #[.int .i64 0, .int .i64 0, .int .i64 0, .int .i64 0, .int .i64 0, .int .i64 0, .int .i64 0, .int .i64 0, .int .i64 0, .int .i64 0, .bool false, .int .i64 0] 25)) hb2; have a1 := Blk.ext (Blk.new1 w (.cells #[.int .i64 pc, .int .i64 job, .int .i64 r0, .int .i64 r1, .int .i64 r2, .int .i64 r3, .int .i64 r4, .int .i64 r5, .int .i64 r6, .int .i64 r7, .bool false, .int .i64 out] 25) 25 #[.int .i64 0, .int .i64 0, .int .i64 0, .int .i64 0, .int .i64 0, .int .i64 0, .int .i64 0, .int .i64 0, .int .i64 0, .int .i64 0, .bool false, .int .i64 0]) hb2; have a0c := a0.cell; have a1c := a1.cell; have a1f := a1.frozen; have a0l := a0.lt; have a1l := a1.lt; have HR2 := Lib.hid (((HR.out.alloc (.cells #[.int .i64 pc, .int .i64 job, .int .i64 r0, .int .i64 r1, .int .i64 r2, .int .i64 r3, .int .i64 r4, .int .i64 r5, .int .i64 r6, .int .i64 r7, .bool false, .int .i64 out] 25)).alloc (.cells #[.int .i64 0, .int .i64 0, .int .i64 0, .int .i64 0, .int .i64 0, .int .i64 0, .int .i64 0, .int .i64 0, .int .i64 0, .int .i64 0, .bool false, .int .i64 0] 25)).ext hb2))) | (go_at_call 35; go_must (refine (HD.out _ ?_).mono ?_; (· exact HR2.out.alloc _); rintro e w3 ⟨p3, c3, rfl, hb3, hown3⟩; have b0 := Blk.ext (a0.alloc (.cells #[.int .i64 k, .int .i64 a, .int .i64 o, .int .i64 n] 60)) hb3; have b1 := Blk.ext (a1.alloc (.cells #[.int .i64 k, .int .i64 a, .int .i64 o, .int .i64 n] 60)) hb3; have b0c := b0.cell; have b1c := b1.cell; have b1f := b1.frozen; have b1l := b1.lt; have b0l := b0.lt)))
  have HR3 := Lib.hid ((HR2.out.alloc (.cells #[.int .i64 k, .int .i64 a, .int .i64 o, .int .i64 n] 60)).ext hb3)
  go_region
  all_goals
    go_wp2_with fail
    refine bodyPost_ret (v := .tuple #[.slice p xs.length c, .agg #[.int .i64 pc, .int .i64 job, .int .i64 r0, .int .i64 r1, .int .i64 r2, .int .i64 r3, .int .i64 r4, .int .i64 r5, .int .i64 r6, .int .i64 r7, .bool false, .int .i64 out], .int .i64 2]) (by simp [results, Try.results13, go_sem, b1c]) rfl ⟨p, c, rfl, ?_, ?_⟩
    · repeat (first | (with_reducible exact Below.refl _ _) | (with_reducible refine ext_trans ?_ (by with_reducible assumption)) | (with_reducible refine ext_set ?_ _ _ (by simp <;> omega)) | (with_reducible apply ext_drewN) | (with_reducible apply ext_drew) | (with_reducible apply ext_alloc))
    · repeat (first | (with_reducible exact HR3.out) | (with_reducible refine Rd.setOtherN ?_ ?_ _ _; rotate_left; (exact HR.out.neN (by decide) (by omega))) | (with_reducible apply Rd.alloc) | (with_reducible apply Rd.drew))

end Go.Proofs.Ytdnajckhnknlcaa

/-! The reference's step: the walk of Step that goes well: job 7. -/
namespace Go.Proofs.Ytdnajckhnknlcaa
set_option linter.unusedVariables false
set_option linter.unusedSimpArgs false
open Go.RowKit

set_option maxHeartbeats 2000000 in
set_option maxRecDepth 100000 in
theorem rstep_ok_7 (p : Option Addr) (c : Nat) (xs : List Int) (at_ room : Int) (pc r0 r1 r2 r3 r4 r5 r6 r7 out : Int) (w : World) (hr : Rd w 1 p xs.length c (ints xs)) (hlen : xs.length ≤ 100000) (hr1 : 1 ≤ room) (hr2 : room ≤ 1000) (hat : 0 ≤ at_) (k a o n : Int) (hacc : ∀ W, Calls Try.prog 34 #[.int .i64 at_, .int .i64 room, .agg #[.int .i64 pc, .int .i64 7, .int .i64 r0, .int .i64 r1, .int .i64 r2, .int .i64 r3, .int .i64 r4, .int .i64 r5, .int .i64 r6, .int .i64 r7, .bool false, .int .i64 out]] W fun e w' => e = .returned (.tuple #[.agg #[.int .i64 k, .int .i64 a, .int .i64 o, .int .i64 n], .bool true]) ∧ Below W.heap.size W w') (R : DoR) (he : R.e = 0) (hlx : R.xs.length = xs.length) (hdo : ∀ W, Rd W 1 p xs.length c (ints xs) → Calls Try.prog 35 #[.slice p xs.length c, .agg #[.int .i64 k, .int .i64 a, .int .i64 o, .int .i64 n]] W fun e w' => ∃ p' c', e = .returned (.tuple #[.slice p' xs.length c', .int .i64 R.x, .bool R.done, .int .i64 R.e]) ∧ Below W.heap.size W w' ∧ w'.ownsRow W.heap.size 3 1 (.slice p' xs.length c') xs.length (ints R.xs)) (x' : Wk)
    (hbeh : ∀ W, Calls Try.prog 36 #[.agg #[.int .i64 pc, .int .i64 7, .int .i64 r0, .int .i64 r1, .int .i64 r2, .int .i64 r3, .int .i64 r4, .int .i64 r5, .int .i64 r6, .int .i64 r7, .bool false, .int .i64 out], .int .i64 R.x, .int .i64 room] W fun e w' => e = .returned x'.v ∧ Below W.heap.size W w') :
    Calls Try.prog 13 #[.slice p xs.length c, .int .i64 at_, .int .i64 room, (⟨pc, 7, r0, r1, r2, r3, r4, r5, r6, r7, false, out⟩ : Wk).v] w fun e w' => ∃ p' c', e = .returned (.tuple #[.slice p' xs.length c', x'.v, .int .i64 0]) ∧ Below w.heap.size w w' ∧ Rd w' 1 p' xs.length c' (ints R.xs) ∧ Fr w.heap.size p' := by
  obtain ⟨pc', job', s0, s1, s2, s3, s4, s5, s6, s7, d', o'⟩ := x'
  obtain ⟨e1, ys, x1, d1⟩ := R
  simp only at he hlx
  subst he
  simp only [Wk.v, Wk.cells] at hbeh
  have HR := Lib.hid hr
  have HA := Lib.hid hacc
  have HD := Lib.hid hdo
  have HB := Lib.hid hbeh
  clear hr hacc hdo hlx hbeh
  simp only [Wk.v, Wk.cells]
  go_enter Try.func13, Try.ntmps13
  go_wp2_with (first | (go_at_call 33; go_must (refine (rmay_t room _ hr1 hr2).mono ?_; rintro e w2 ⟨rfl, rfl⟩)) | (go_at_call 34; go_must (refine (HA.out _).mono ?_; rintro e w2 ⟨rfl, hb2⟩; have a0 := Blk.ext ((Blk.new w 25 #[.int .i64 pc, .int .i64 7, .int .i64 r0, .int .i64 r1, .int .i64 r2, .int .i64 r3, .int .i64 r4, .int .i64 r5, .int .i64 r6, .int .i64 r7, .bool false, .int .i64 out]).alloc (.cells #[.int .i64 0, .int .i64 0, .int .i64 0, .int .i64 0, .int .i64 0, .int .i64 0, .int .i64 0, .int .i64 0, .int .i64 0, .int .i64 0, .bool false, .int .i64 0] 25)) hb2; have a1 := Blk.ext (Blk.new1 w (.cells #[.int .i64 pc, .int .i64 7, .int .i64 r0, .int .i64 r1, .int .i64 r2, .int .i64 r3, .int .i64 r4, .int .i64 r5, .int .i64 r6, .int .i64 r7, .bool false, .int .i64 out] 25) 25 #[.int .i64 0, .int .i64 0, .int .i64 0, .int .i64 0, .int .i64 0, .int .i64 0, .int .i64 0, .int .i64 0, .int .i64 0, .int .i64 0, .bool false, .int .i64 0]) hb2; have a0c := a0.cell; have a1c := a1.cell; have a1f := a1.frozen; have a0l := a0.lt; have a1l := a1.lt; have HR2 := Lib.hid (((HR.out.alloc (.cells #[.int .i64 pc, .int .i64 7, .int .i64 r0, .int .i64 r1, .int .i64 r2, .int .i64 r3, .int .i64 r4, .int .i64 r5, .int .i64 r6, .int .i64 r7, .bool false, .int .i64 out] 25)).alloc (.cells #[.int .i64 0, .int .i64 0, .int .i64 0, .int .i64 0, .int .i64 0, .int .i64 0, .int .i64 0, .int .i64 0, .int .i64 0, .int .i64 0, .bool false, .int .i64 0] 25)).ext hb2))) | (go_at_call 35; go_must (refine (HD.out _ ?_).mono ?_; (· exact HR2.out.alloc _); rintro e w3 ⟨p3, c3, rfl, hb3, hown3⟩; have b0 := Blk.ext (a0.alloc (.cells #[.int .i64 k, .int .i64 a, .int .i64 o, .int .i64 n] 60)) hb3; have b1 := Blk.ext (a1.alloc (.cells #[.int .i64 k, .int .i64 a, .int .i64 o, .int .i64 n] 60)) hb3; have b0c := b0.cell; have b1c := b1.cell; have b1f := b1.frozen; have b1l := b1.lt; have b0l := b0.lt)) | (go_at_call 36; go_must (refine (HB.out _).mono ?_; rintro e w4 ⟨rfl, hb4⟩; have c1 := Blk.ext b1 hb4; have c1c := c1.cell; have c1f := c1.frozen; have c1l := c1.lt)))
  refine bodyPost_ret (v := .tuple #[.slice p3 xs.length c3, .agg #[.int .i64 pc', .int .i64 job', .int .i64 s0, .int .i64 s1, .int .i64 s2, .int .i64 s3, .int .i64 s4, .int .i64 s5, .int .i64 s6, .int .i64 s7, .bool d', .int .i64 o'], .int .i64 0]) (by simp [results, Try.results13, go_sem, c1c]) rfl ⟨p3, c3, rfl, ?_, ?_, ?_⟩
  · repeat (first | (with_reducible exact Below.refl _ _) | (with_reducible refine ext_trans ?_ (by with_reducible assumption)) | (with_reducible refine ext_set ?_ _ _ (by simp <;> omega)) | (with_reducible apply ext_drewN) | (with_reducible apply ext_drew) | (with_reducible apply ext_alloc))
  · refine (rd_fr_of_owns (e := 3) (base := w2.heap.size) (B := 0) ?_ (by omega)).1
    iterate 12 (with_reducible refine ownsRow_setCell_below ?_ (by simp; omega) _)
    exact owns_mono (own_ext hown3 hb4) (by simp)
  · exact (rd_fr_of_owns hown3 (by have := hb2.size; simp at this ⊢; omega)).2

end Go.Proofs.Ytdnajckhnknlcaa

/-! The reference's step: the walk of Step that goes well: job 6. -/
namespace Go.Proofs.Ytdnajckhnknlcaa
set_option linter.unusedVariables false
set_option linter.unusedSimpArgs false
open Go.RowKit

set_option maxHeartbeats 2000000 in
set_option maxRecDepth 100000 in
theorem rstep_ok_6 (p : Option Addr) (c : Nat) (xs : List Int) (at_ room : Int) (pc r0 r1 r2 r3 r4 r5 r6 r7 out : Int) (w : World) (hr : Rd w 1 p xs.length c (ints xs)) (hlen : xs.length ≤ 100000) (hr1 : 1 ≤ room) (hr2 : room ≤ 1000) (hat : 0 ≤ at_) (k a o n : Int) (hacc : ∀ W, Calls Try.prog 34 #[.int .i64 at_, .int .i64 room, .agg #[.int .i64 pc, .int .i64 6, .int .i64 r0, .int .i64 r1, .int .i64 r2, .int .i64 r3, .int .i64 r4, .int .i64 r5, .int .i64 r6, .int .i64 r7, .bool false, .int .i64 out]] W fun e w' => e = .returned (.tuple #[.agg #[.int .i64 k, .int .i64 a, .int .i64 o, .int .i64 n], .bool true]) ∧ Below W.heap.size W w') (R : DoR) (he : R.e = 0) (hlx : R.xs.length = xs.length) (hdo : ∀ W, Rd W 1 p xs.length c (ints xs) → Calls Try.prog 35 #[.slice p xs.length c, .agg #[.int .i64 k, .int .i64 a, .int .i64 o, .int .i64 n]] W fun e w' => ∃ p' c', e = .returned (.tuple #[.slice p' xs.length c', .int .i64 R.x, .bool R.done, .int .i64 R.e]) ∧ Below W.heap.size W w' ∧ w'.ownsRow W.heap.size 3 1 (.slice p' xs.length c') xs.length (ints R.xs)) (x' : Wk)
    (hbeh : ∀ W, Calls Try.prog 37 #[.agg #[.int .i64 pc, .int .i64 6, .int .i64 r0, .int .i64 r1, .int .i64 r2, .int .i64 r3, .int .i64 r4, .int .i64 r5, .int .i64 r6, .int .i64 r7, .bool false, .int .i64 out], .int .i64 R.x, .bool R.done] W fun e w' => e = .returned x'.v ∧ Below W.heap.size W w') :
    Calls Try.prog 13 #[.slice p xs.length c, .int .i64 at_, .int .i64 room, (⟨pc, 6, r0, r1, r2, r3, r4, r5, r6, r7, false, out⟩ : Wk).v] w fun e w' => ∃ p' c', e = .returned (.tuple #[.slice p' xs.length c', x'.v, .int .i64 0]) ∧ Below w.heap.size w w' ∧ Rd w' 1 p' xs.length c' (ints R.xs) ∧ Fr w.heap.size p' := by
  obtain ⟨pc', job', s0, s1, s2, s3, s4, s5, s6, s7, d', o'⟩ := x'
  obtain ⟨e1, ys, x1, d1⟩ := R
  simp only at he hlx
  subst he
  simp only [Wk.v, Wk.cells] at hbeh
  have HR := Lib.hid hr
  have HA := Lib.hid hacc
  have HD := Lib.hid hdo
  have HB := Lib.hid hbeh
  clear hr hacc hdo hlx hbeh
  simp only [Wk.v, Wk.cells]
  go_enter Try.func13, Try.ntmps13
  go_wp2_with (first | (go_at_call 33; go_must (refine (rmay_t room _ hr1 hr2).mono ?_; rintro e w2 ⟨rfl, rfl⟩)) | (go_at_call 34; go_must (refine (HA.out _).mono ?_; rintro e w2 ⟨rfl, hb2⟩; have a0 := Blk.ext ((Blk.new w 25 #[.int .i64 pc, .int .i64 6, .int .i64 r0, .int .i64 r1, .int .i64 r2, .int .i64 r3, .int .i64 r4, .int .i64 r5, .int .i64 r6, .int .i64 r7, .bool false, .int .i64 out]).alloc (.cells #[.int .i64 0, .int .i64 0, .int .i64 0, .int .i64 0, .int .i64 0, .int .i64 0, .int .i64 0, .int .i64 0, .int .i64 0, .int .i64 0, .bool false, .int .i64 0] 25)) hb2; have a1 := Blk.ext (Blk.new1 w (.cells #[.int .i64 pc, .int .i64 6, .int .i64 r0, .int .i64 r1, .int .i64 r2, .int .i64 r3, .int .i64 r4, .int .i64 r5, .int .i64 r6, .int .i64 r7, .bool false, .int .i64 out] 25) 25 #[.int .i64 0, .int .i64 0, .int .i64 0, .int .i64 0, .int .i64 0, .int .i64 0, .int .i64 0, .int .i64 0, .int .i64 0, .int .i64 0, .bool false, .int .i64 0]) hb2; have a0c := a0.cell; have a1c := a1.cell; have a1f := a1.frozen; have a0l := a0.lt; have a1l := a1.lt; have HR2 := Lib.hid (((HR.out.alloc (.cells #[.int .i64 pc, .int .i64 6, .int .i64 r0, .int .i64 r1, .int .i64 r2, .int .i64 r3, .int .i64 r4, .int .i64 r5, .int .i64 r6, .int .i64 r7, .bool false, .int .i64 out] 25)).alloc (.cells #[.int .i64 0, .int .i64 0, .int .i64 0, .int .i64 0, .int .i64 0, .int .i64 0, .int .i64 0, .int .i64 0, .int .i64 0, .int .i64 0, .bool false, .int .i64 0] 25)).ext hb2))) | (go_at_call 35; go_must (refine (HD.out _ ?_).mono ?_; (· exact HR2.out.alloc _); rintro e w3 ⟨p3, c3, rfl, hb3, hown3⟩; have b0 := Blk.ext (a0.alloc (.cells #[.int .i64 k, .int .i64 a, .int .i64 o, .int .i64 n] 60)) hb3; have b1 := Blk.ext (a1.alloc (.cells #[.int .i64 k, .int .i64 a, .int .i64 o, .int .i64 n] 60)) hb3; have b0c := b0.cell; have b1c := b1.cell; have b1f := b1.frozen; have b1l := b1.lt; have b0l := b0.lt)) | (go_at_call 37; go_must (refine (HB.out _).mono ?_; rintro e w4 ⟨rfl, hb4⟩; have c1 := Blk.ext b1 hb4; have c1c := c1.cell; have c1f := c1.frozen; have c1l := c1.lt)))
  refine bodyPost_ret (v := .tuple #[.slice p3 xs.length c3, .agg #[.int .i64 pc', .int .i64 job', .int .i64 s0, .int .i64 s1, .int .i64 s2, .int .i64 s3, .int .i64 s4, .int .i64 s5, .int .i64 s6, .int .i64 s7, .bool d', .int .i64 o'], .int .i64 0]) (by simp [results, Try.results13, go_sem, c1c]) rfl ⟨p3, c3, rfl, ?_, ?_, ?_⟩
  · repeat (first | (with_reducible exact Below.refl _ _) | (with_reducible refine ext_trans ?_ (by with_reducible assumption)) | (with_reducible refine ext_set ?_ _ _ (by simp <;> omega)) | (with_reducible apply ext_drewN) | (with_reducible apply ext_drew) | (with_reducible apply ext_alloc))
  · refine (rd_fr_of_owns (e := 3) (base := w2.heap.size) (B := 0) ?_ (by omega)).1
    iterate 12 (with_reducible refine ownsRow_setCell_below ?_ (by simp; omega) _)
    exact owns_mono (own_ext hown3 hb4) (by simp)
  · exact (rd_fr_of_owns hown3 (by have := hb2.size; simp at this ⊢; omega)).2

end Go.Proofs.Ytdnajckhnknlcaa

/-! The reference's step: the walk of Step that goes well: job 5. -/
namespace Go.Proofs.Ytdnajckhnknlcaa
set_option linter.unusedVariables false
set_option linter.unusedSimpArgs false
open Go.RowKit

set_option maxHeartbeats 2000000 in
set_option maxRecDepth 100000 in
theorem rstep_ok_5 (p : Option Addr) (c : Nat) (xs : List Int) (at_ room : Int) (pc r0 r1 r2 r3 r4 r5 r6 r7 out : Int) (w : World) (hr : Rd w 1 p xs.length c (ints xs)) (hlen : xs.length ≤ 100000) (hr1 : 1 ≤ room) (hr2 : room ≤ 1000) (hat : 0 ≤ at_) (k a o n : Int) (hacc : ∀ W, Calls Try.prog 34 #[.int .i64 at_, .int .i64 room, .agg #[.int .i64 pc, .int .i64 5, .int .i64 r0, .int .i64 r1, .int .i64 r2, .int .i64 r3, .int .i64 r4, .int .i64 r5, .int .i64 r6, .int .i64 r7, .bool false, .int .i64 out]] W fun e w' => e = .returned (.tuple #[.agg #[.int .i64 k, .int .i64 a, .int .i64 o, .int .i64 n], .bool true]) ∧ Below W.heap.size W w') (R : DoR) (he : R.e = 0) (hlx : R.xs.length = xs.length) (hdo : ∀ W, Rd W 1 p xs.length c (ints xs) → Calls Try.prog 35 #[.slice p xs.length c, .agg #[.int .i64 k, .int .i64 a, .int .i64 o, .int .i64 n]] W fun e w' => ∃ p' c', e = .returned (.tuple #[.slice p' xs.length c', .int .i64 R.x, .bool R.done, .int .i64 R.e]) ∧ Below W.heap.size W w' ∧ w'.ownsRow W.heap.size 3 1 (.slice p' xs.length c') xs.length (ints R.xs)) (x' : Wk)
    (hbeh : ∀ W, Calls Try.prog 38 #[.agg #[.int .i64 pc, .int .i64 5, .int .i64 r0, .int .i64 r1, .int .i64 r2, .int .i64 r3, .int .i64 r4, .int .i64 r5, .int .i64 r6, .int .i64 r7, .bool false, .int .i64 out], .int .i64 R.x, .bool R.done] W fun e w' => e = .returned x'.v ∧ Below W.heap.size W w') :
    Calls Try.prog 13 #[.slice p xs.length c, .int .i64 at_, .int .i64 room, (⟨pc, 5, r0, r1, r2, r3, r4, r5, r6, r7, false, out⟩ : Wk).v] w fun e w' => ∃ p' c', e = .returned (.tuple #[.slice p' xs.length c', x'.v, .int .i64 0]) ∧ Below w.heap.size w w' ∧ Rd w' 1 p' xs.length c' (ints R.xs) ∧ Fr w.heap.size p' := by
  obtain ⟨pc', job', s0, s1, s2, s3, s4, s5, s6, s7, d', o'⟩ := x'
  obtain ⟨e1, ys, x1, d1⟩ := R
  simp only at he hlx
  subst he
  simp only [Wk.v, Wk.cells] at hbeh
  have HR := Lib.hid hr
  have HA := Lib.hid hacc
  have HD := Lib.hid hdo
  have HB := Lib.hid hbeh
  clear hr hacc hdo hlx hbeh
  simp only [Wk.v, Wk.cells]
  go_enter Try.func13, Try.ntmps13
  go_wp2_with (first | (go_at_call 33; go_must (refine (rmay_t room _ hr1 hr2).mono ?_; rintro e w2 ⟨rfl, rfl⟩)) | (go_at_call 34; go_must (refine (HA.out _).mono ?_; rintro e w2 ⟨rfl, hb2⟩; have a0 := Blk.ext ((Blk.new w 25 #[.int .i64 pc, .int .i64 5, .int .i64 r0, .int .i64 r1, .int .i64 r2, .int .i64 r3, .int .i64 r4, .int .i64 r5, .int .i64 r6, .int .i64 r7, .bool false, .int .i64 out]).alloc (.cells #[.int .i64 0, .int .i64 0, .int .i64 0, .int .i64 0, .int .i64 0, .int .i64 0, .int .i64 0, .int .i64 0, .int .i64 0, .int .i64 0, .bool false, .int .i64 0] 25)) hb2; have a1 := Blk.ext (Blk.new1 w (.cells #[.int .i64 pc, .int .i64 5, .int .i64 r0, .int .i64 r1, .int .i64 r2, .int .i64 r3, .int .i64 r4, .int .i64 r5, .int .i64 r6, .int .i64 r7, .bool false, .int .i64 out] 25) 25 #[.int .i64 0, .int .i64 0, .int .i64 0, .int .i64 0, .int .i64 0, .int .i64 0, .int .i64 0, .int .i64 0, .int .i64 0, .int .i64 0, .bool false, .int .i64 0]) hb2; have a0c := a0.cell; have a1c := a1.cell; have a1f := a1.frozen; have a0l := a0.lt; have a1l := a1.lt; have HR2 := Lib.hid (((HR.out.alloc (.cells #[.int .i64 pc, .int .i64 5, .int .i64 r0, .int .i64 r1, .int .i64 r2, .int .i64 r3, .int .i64 r4, .int .i64 r5, .int .i64 r6, .int .i64 r7, .bool false, .int .i64 out] 25)).alloc (.cells #[.int .i64 0, .int .i64 0, .int .i64 0, .int .i64 0, .int .i64 0, .int .i64 0, .int .i64 0, .int .i64 0, .int .i64 0, .int .i64 0, .bool false, .int .i64 0] 25)).ext hb2))) | (go_at_call 35; go_must (refine (HD.out _ ?_).mono ?_; (· exact HR2.out.alloc _); rintro e w3 ⟨p3, c3, rfl, hb3, hown3⟩; have b0 := Blk.ext (a0.alloc (.cells #[.int .i64 k, .int .i64 a, .int .i64 o, .int .i64 n] 60)) hb3; have b1 := Blk.ext (a1.alloc (.cells #[.int .i64 k, .int .i64 a, .int .i64 o, .int .i64 n] 60)) hb3; have b0c := b0.cell; have b1c := b1.cell; have b1f := b1.frozen; have b1l := b1.lt; have b0l := b0.lt)) | (go_at_call 38; go_must (refine (HB.out _).mono ?_; rintro e w4 ⟨rfl, hb4⟩; have c1 := Blk.ext b1 hb4; have c1c := c1.cell; have c1f := c1.frozen; have c1l := c1.lt)))
  refine bodyPost_ret (v := .tuple #[.slice p3 xs.length c3, .agg #[.int .i64 pc', .int .i64 job', .int .i64 s0, .int .i64 s1, .int .i64 s2, .int .i64 s3, .int .i64 s4, .int .i64 s5, .int .i64 s6, .int .i64 s7, .bool d', .int .i64 o'], .int .i64 0]) (by simp [results, Try.results13, go_sem, c1c]) rfl ⟨p3, c3, rfl, ?_, ?_, ?_⟩
  · repeat (first | (with_reducible exact Below.refl _ _) | (with_reducible refine ext_trans ?_ (by with_reducible assumption)) | (with_reducible refine ext_set ?_ _ _ (by simp <;> omega)) | (with_reducible apply ext_drewN) | (with_reducible apply ext_drew) | (with_reducible apply ext_alloc))
  · refine (rd_fr_of_owns (e := 3) (base := w2.heap.size) (B := 0) ?_ (by omega)).1
    iterate 12 (with_reducible refine ownsRow_setCell_below ?_ (by simp; omega) _)
    exact owns_mono (own_ext hown3 hb4) (by simp)
  · exact (rd_fr_of_owns hown3 (by have := hb2.size; simp at this ⊢; omega)).2

end Go.Proofs.Ytdnajckhnknlcaa

/-! Plain laws on a step. -/
namespace Go.Proofs.Ytdnajckhnknlcaa
set_option linter.unusedVariables false
set_option linter.unusedSimpArgs false
open Go.RowKit

/-- How many steps a job has. -/
def nfF (job : Int) : Nat := if job = 7 then 4 else if job = 6 then 6 else if job = 5 then 4 else 0

theorem doF_e (xs : List Int) (k a o n : Int) : (doF xs k a o n).e = 0 ∨ (doF xs k a o n).e = 2 := by
  unfold doF; repeat (first | split | exact .inl rfl | exact .inr rfl)

theorem stepF_bad (xs : List Int) (at_ room : Int) (x : Wk) (h : may room = false ∨ at_ < 0 ∨ x.done = true) : stepF xs at_ room x = ⟨1, xs, x⟩ := by
  unfold stepF; rw [if_pos h]

theorem stepF_none (xs : List Int) (at_ room : Int) (x : Wk) (h : accF at_ room x = none) : stepF xs at_ room x = ⟨1, xs, x⟩ := by
  unfold stepF; split
  · rfl
  · rw [h]

theorem stepF_some (xs : List Int) (at_ room : Int) (x : Wk) (k a o n : Int) (hr1 : 1 ≤ room) (hr2 : room ≤ 1000) (hat : 0 ≤ at_) (hd : x.done = false) (h : accF at_ room x = some (k, a, o, n)) :
    stepF xs at_ room x = if (doF xs k a o n).e ≠ 0 then ⟨(doF xs k a o n).e, xs, x⟩ else ⟨0, (doF xs k a o n).xs, behF x (doF xs k a o n) room⟩ := by
  have hm : may room = true := by simp [may, hr1, hr2]
  unfold stepF
  rw [if_neg (by rw [hm, hd]; simp; omega), h]

end Go.Proofs.Ytdnajckhnknlcaa
