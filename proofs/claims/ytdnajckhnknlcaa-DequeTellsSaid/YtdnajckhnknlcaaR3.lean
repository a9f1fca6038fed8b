/-
  The contracts of the functions that these laws reach, part 3.
-/
import Derived.Test.YtdnajckhnknlcaaR2

/-! The map of jobs: made; what it holds of each job. -/
namespace Go.Proofs.Ytdnajckhnknlcaa
set_option linter.unusedVariables false
set_option linter.unusedSimpArgs false
open Go.RowKit

def giveFs : Array Value := #[fnV 46, fnV 47, fnV 48, fnV 49]
def takeFs : Array Value := #[fnV 50, fnV 51, fnV 52, fnV 53, fnV 54, fnV 55]
def stealFs : Array Value := #[fnV 56, fnV 57, fnV 58, fnV 59]

def jobEntries (g1 g2 g3 : Nat) : Array MapEntry :=
  #[{ key := .int .i64 7, val := .slice (some ⟨g1, 0, none⟩) 4 4, born := 0 }, { key := .int .i64 6, val := .slice (some ⟨g2, 0, none⟩) 6 6, born := 1 }, { key := .int .i64 5, val := .slice (some ⟨g3, 0, none⟩) 4 4, born := 2 }]

/-- The map of jobs lies in block r. -/
def JobsAt (w : World) (r : Nat) : Prop := ∃ g1 g2 g3, MapAt w r (jobEntries g1 g2 g3) 3 ∧ Blk w g1 58 giveFs ∧ Blk w g2 58 takeFs ∧ Blk w g3 58 stealFs

theorem ext_grownNew {a w w' : World} {r : Nat} (h : Below a.heap.size a w) (hg : w.grownBy w' (some r)) (hr : a.heap.size ≤ r) : Below a.heap.size a w' :=
  ext_grown h hg (by rintro k ⟨⟩; exact hr)

set_option maxHeartbeats 1000000 in
theorem jobs_any (w : World) : Calls Try.prog 30 #[] w fun e w' => ∃ r, e = .returned (.map (some r)) ∧ Below w.heap.size w w' ∧ JobsAt w' r := by
  have hmm := @run_makeMap Try.prog
  go_enter Try.func30, Try.ntmps30
  go_wp2_with (refine wpList_insert_new _ rfl (.tmp 1) (.const (.int .i64 7)) (.tmp 2) 51 3 50 rfl Try.underlying51 Try.underlying3 w.heap.size 0 #[] 7 (.slice (some ⟨w.heap.size + 1, 0, none⟩) 4 4) rfl rfl rfl ((MapAt.new _ _ _).alloc _) rfl ?_)
  intro w1 hg1 hm1
  have he1 : Below w.heap.size w w1 := ext_grownNew (ext_alloc (ext_alloc (Below.refl _ _) _) _) hg1 (Nat.le_refl _)
  have ht : Blk ((w.alloc (.map #[] 0)).alloc (.cells giveFs 58)) (w.heap.size + 1) 58 giveFs := by have t := Blk.new (w.alloc (.map #[] 0)) 58 giveFs; simpa using t
  have hb1 : Blk w1 (w.heap.size + 1) 58 giveFs := Blk.grown ht hg1 (by simp)
  clear ht
  have hl1 := hm1.lt
  clear hg1
  go_wp2_with (refine wpList_insert_new _ rfl (.tmp 1) (.const (.int .i64 6)) (.tmp 3) 51 3 50 rfl Try.underlying51 Try.underlying3 w.heap.size 1 _ 6 (.slice (some ⟨w1.heap.size, 0, none⟩) 6 6) rfl rfl rfl (hm1.alloc _) rfl ?_)
  intro w2 hg2 hm2
  have he2 : Below w.heap.size w w2 := ext_grownNew (ext_alloc he1 _) hg2 (Nat.le_refl _)
  have hb2 : Blk w2 (w.heap.size + 1) 58 giveFs := Blk.grown (hb1.alloc _) hg2 (by simp)
  have hc2 : Blk w2 w1.heap.size 58 takeFs := Blk.grown (Blk.new w1 58 takeFs) hg2 (by simp; omega)
  have hl2 := hm2.lt
  clear hg2 he1 hb1 hm1
  go_wp2_with (refine wpList_insert_new _ rfl (.tmp 1) (.const (.int .i64 5)) (.tmp 4) 51 3 50 rfl Try.underlying51 Try.underlying3 w.heap.size 2 _ 5 (.slice (some ⟨w2.heap.size, 0, none⟩) 4 4) rfl rfl rfl (hm2.alloc _) rfl ?_)
  intro w3 hg3 hm3
  have he3 : Below w.heap.size w w3 := ext_grownNew (ext_alloc he2 _) hg3 (Nat.le_refl _)
  have hb3 : Blk w3 (w.heap.size + 1) 58 giveFs := Blk.grown (hb2.alloc _) hg3 (by simp)
  have hc3 : Blk w3 w1.heap.size 58 takeFs := Blk.grown (hc2.alloc _) hg3 (by simp; omega)
  have hd3 : Blk w3 w2.heap.size 58 stealFs := Blk.grown (Blk.new w2 58 stealFs) hg3 (by simp; omega)
  go_wp2_with fail
  go_ret
  exact ⟨_, rfl, he3, _, _, _, hm3, hb3, hc3, hd3⟩

/-- What is looked up in the map of jobs. -/
theorem run_lookup_jobs (w : World) (r : Nat) (es : Array MapEntry) (c : Nat) (k : Int) (hb : MapAt w r es c) (v : Value)
    (hf : (∃ i, Instr.findNow (.int .i64) (.int .i64 k) es.toList 0 = some (some (i, v))) ∨ (Instr.findNow (.int .i64) (.int .i64 k) es.toList 0 = some none ∧ v = .slice none 0 0)) :
    (Instr.lookup 51 (.map (some r)) (.int .i64 k) false).run Try.prog w = .ok v w := by
  have hc : ∀ e, (Instr.checkKey e 10000 3 (.int .i64 k)).run Try.prog w = .ok () w := fun e => MapKept.run_checkKey (k := .int .i64 k) Try.underlying3 (by simp [MapKept.IsKey]) e 9999
  have hz : (zeroValue 50).run Try.prog w = .ok (.slice none 0 0) w := by kernel_rfl
  unfold MapAt at hb
  rcases hf with ⟨i, hf⟩ | ⟨hf, rfl⟩
  · simp [Instr.lookup, run_underlying Try.underlying51, MapKept.run_getObj_map hb, hc, MapKept.run_findKey Try.underlying3 hf, Result.andThen]
  · simp [Instr.lookup, run_underlying Try.underlying51, MapKept.run_getObj_map hb, hc, MapKept.run_findKey Try.underlying3 hf, Result.andThen, hz]

end Go.Proofs.Ytdnajckhnknlcaa

/-! The program's access to words: mem.Do, where it goes well. -/
namespace Go.Proofs.Ytdnajckhnknlcaa
set_option linter.unusedVariables false
set_option linter.unusedSimpArgs false
open Go.RowKit

theorem clone_form (p : Option Addr) (n c : Nat) (cs : List Value) (w : World) (hr : Rd w 1 p n c cs) (h1 : ∀ u ∈ cs, u.oneCell' = true) (hn : n * 8 ≤ 140737488355328) (h0 : 0 < n) :
    Calls Try.prog 32 #[.slice p n c] w fun e w' => ∃ g c', e = .returned (.slice (some ⟨g, 0, none⟩) n c') ∧ Below w.heap.size w w' ∧ w'.ownsRow w.heap.size 3 1 (.slice (some ⟨g, 0, none⟩) n c') n cs ∧
      g < w'.heap.size ∧ (∀ j, j < n → w'.cell? ⟨g, j, none⟩ = cs[j]?) ∧ ∀ j, w'.frozen? ⟨g, j, none⟩ = false := by
  refine (clone_int p n c cs w hr h1 hn).mono ?_
  rintro e w1 ⟨p', c', rfl, hb, hown⟩
  obtain ⟨g, cap, hv, hg, hlt, hcell, hfr⟩ := owns_form hown h0
  simp only [Value.slice.injEq, true_and] at hv
  obtain ⟨rfl, rfl⟩ := hv
  exact ⟨g, c', rfl, hb, hown, hlt, fun j hj => hcell j (by omega), hfr⟩

set_option maxHeartbeats 1000000 in
theorem do_load (p : Option Addr) (c : Nat) (xs : List Int) (i : Nat) (x old new : Int) (w : World) (hr : Rd w 1 p xs.length c (ints xs)) (hlen : xs.length ≤ 100000)
    (hi : i < xs.length) (hx : (ints xs)[i]? = some (.int .i64 x)) (he : (doF xs 1 i old new).e = 0) :
    Calls Try.prog 82 #[.slice p xs.length c, .agg #[.int .i64 1, .int .i64 i, .int .i64 old, .int .i64 new]] w fun e w' =>
      ∃ p' c', e = .returned (.tuple #[.slice p' xs.length c', .int .i64 x, .bool true, .int .i64 0]) ∧ Below w.heap.size w w' ∧ w'.ownsRow w.heap.size 3 1 (.slice p' xs.length c') xs.length (ints xs) := by
  have H1 := Lib.hid (ints_one xs)
  have HR := Lib.hid hr
  have HE := Lib.hid he
  have HX := Lib.hid hx
  clear hr he hx
  go_enter Try.func82, Try.ntmps82
  go_wp2_with fail
  go_region_with (go_at_call 32; go_must (refine (clone_form p xs.length c (ints xs) _ ?_ H1.out (by omega) (by omega)).mono ?_; (· repeat (first | exact HR.out | apply Rd.drew | apply Rd.alloc)); rintro e w1 ⟨g, c', rfl, hb, hown, hlt, hcell, hfr⟩; have hcg := (hcell i hi).trans HX.out; clear hcell; have hc1 := ((Blk.new w 60 #[.int .i64 1, .int .i64 i, .int .i64 old, .int .i64 new]).drew.below hb (by simp)).cell))
  all_goals
    go_wp2_with (go_at_call 83; go_must (refine (wrong_any w1.heap.size _ xs 1 i old new _ c' (by omega) (by omega) hlen (Blk.new w1 93 #[.int .i64 1, .int .i64 i, .int .i64 old, .int .i64 new, .slice (some ⟨g, 0, none⟩) xs.length c'])).mono ?_; rintro e w2 ⟨rfl, k, rfl⟩; rw [HE.out]))
    go_quiet (fail)
    go_wp2_with fail
    refine bodyPost_ret (v := .tuple #[.slice (some ⟨g, 0, none⟩) xs.length c', .int .i64 x, .bool true, .int .i64 0]) (by simp [results, Try.results82, go_sem]) rfl ⟨_, c', rfl, ?_, ?_⟩
    · repeat (first | exact Below.refl _ _ | apply ext_drewN | apply ext_drew | apply ext_alloc | refine ext_trans ?_ (by assumption))
    · repeat (first | exact owns_mono hown (by simp) | apply own_drewN | apply own_drew | apply own_alloc)

end Go.Proofs.Ytdnajckhnknlcaa

/-! The program's access to words: mem.Do, where it goes well: a swap that is not done. -/
namespace Go.Proofs.Ytdnajckhnknlcaa
set_option linter.unusedVariables false
set_option linter.unusedSimpArgs false
open Go.RowKit

set_option maxHeartbeats 1000000 in
theorem do_swap_no (p : Option Addr) (c : Nat) (xs : List Int) (i : Nat) (x old new : Int) (w : World) (hr : Rd w 1 p xs.length c (ints xs)) (hlen : xs.length ≤ 100000)
    (hi : i < xs.length) (hx : (ints xs)[i]? = some (.int .i64 x)) (hxo : (x == old) = false) (he : (doF xs 3 i old new).e = 0) :
    Calls Try.prog 82 #[.slice p xs.length c, .agg #[.int .i64 3, .int .i64 i, .int .i64 old, .int .i64 new]] w fun e w' =>
      ∃ p' c', e = .returned (.tuple #[.slice p' xs.length c', .int .i64 x, .bool false, .int .i64 0]) ∧ Below w.heap.size w w' ∧ w'.ownsRow w.heap.size 3 1 (.slice p' xs.length c') xs.length (ints xs) := by
  have H1 := Lib.hid (ints_one xs)
  have HR := Lib.hid hr
  have HE := Lib.hid he
  have HX := Lib.hid hx
  clear hr he hx
  go_enter Try.func82, Try.ntmps82
  go_wp2_with fail
  go_region_with (go_at_call 32; go_must (refine (clone_form p xs.length c (ints xs) _ ?_ H1.out (by omega) (by omega)).mono ?_; (· repeat (first | exact HR.out | apply Rd.drew | apply Rd.alloc)); rintro e w1 ⟨g, c', rfl, hb, hown, hlt, hcell, hfr⟩; have hcg := (hcell i hi).trans HX.out; clear hcell; have hc1 := ((Blk.new w 60 #[.int .i64 3, .int .i64 i, .int .i64 old, .int .i64 new]).drew.below hb (by simp)).cell))
  all_goals
    go_wp2_with (go_at_call 83; go_must (refine (wrong_any w1.heap.size _ xs 3 i old new _ c' (by omega) (by omega) hlen (Blk.new w1 93 #[.int .i64 3, .int .i64 i, .int .i64 old, .int .i64 new, .slice (some ⟨g, 0, none⟩) xs.length c'])).mono ?_; rintro e w2 ⟨rfl, k, rfl⟩; rw [HE.out]))
    go_quiet (fail)
    go_wp2_with fail
    refine bodyPost_ret (v := .tuple #[.slice (some ⟨g, 0, none⟩) xs.length c', .int .i64 x, .bool false, .int .i64 0]) (by simp [results, Try.results82, go_sem]) rfl ⟨_, c', rfl, ?_, ?_⟩
    · repeat (first | exact Below.refl _ _ | apply ext_drewN | apply ext_drew | apply ext_alloc | refine ext_trans ?_ (by assumption))
    · repeat (first | exact owns_mono hown (by simp) | apply own_drewN | apply own_drew | apply own_alloc)

end Go.Proofs.Ytdnajckhnknlcaa

/-! The program's access to words: mem.Do, where it goes well: a swap that is done. -/
namespace Go.Proofs.Ytdnajckhnknlcaa
set_option linter.unusedVariables false
set_option linter.unusedSimpArgs false
open Go.RowKit

set_option maxHeartbeats 1000000 in
theorem do_swap_yes (p : Option Addr) (c : Nat) (xs : List Int) (i : Nat) (x old new : Int) (w : World) (hr : Rd w 1 p xs.length c (ints xs)) (hlen : xs.length ≤ 100000)
    (hi : i < xs.length) (hx : (ints xs)[i]? = some (.int .i64 x)) (hxo : (x == old) = true) (he : (doF xs 3 i old new).e = 0) :
    Calls Try.prog 82 #[.slice p xs.length c, .agg #[.int .i64 3, .int .i64 i, .int .i64 old, .int .i64 new]] w fun e w' =>
      ∃ p' c', e = .returned (.tuple #[.slice p' xs.length c', .int .i64 x, .bool true, .int .i64 0]) ∧ Below w.heap.size w w' ∧ w'.ownsRow w.heap.size 3 1 (.slice p' xs.length c') xs.length (ints (xs.set i new)) := by
  have H1 := Lib.hid (ints_one xs)
  have HR := Lib.hid hr
  have HE := Lib.hid he
  have HX := Lib.hid hx
  clear hr he hx
  go_enter Try.func82, Try.ntmps82
  go_wp2_with fail
  go_region_with (go_at_call 32; go_must (refine (clone_form p xs.length c (ints xs) _ ?_ H1.out (by omega) (by omega)).mono ?_; (· repeat (first | exact HR.out | apply Rd.drew | apply Rd.alloc)); rintro e w1 ⟨g, c', rfl, hb, hown, hlt, hcell, hfr⟩; have hcg := (hcell i hi).trans HX.out; clear hcell; have hc1 := ((Blk.new w 60 #[.int .i64 3, .int .i64 i, .int .i64 old, .int .i64 new]).drew.below hb (by simp)).cell))
  all_goals
    go_wp2_with (go_at_call 83; go_must (refine (wrong_any w1.heap.size _ xs 3 i old new _ c' (by omega) (by omega) hlen (Blk.new w1 93 #[.int .i64 3, .int .i64 i, .int .i64 old, .int .i64 new, .slice (some ⟨g, 0, none⟩) xs.length c'])).mono ?_; rintro e w2 ⟨rfl, k, rfl⟩; rw [HE.out]))
    go_quiet (fail)
    go_wp2_with fail
    go_region_with (go_at_call 84; go_must (refine (to_any w1.heap.size _ 3 i old new (.slice (some ⟨g, 0, none⟩) xs.length c') (by omega) ?_).mono ?_; (· repeat (first | exact Blk.new w1 93 _ | apply Blk.drew | apply Blk.drewN)); rintro e w3 ⟨rfl, rfl⟩))
    all_goals
     go_wp2_with fail
     refine bodyPost_ret (v := .tuple #[.slice (some ⟨g, 0, none⟩) xs.length c', .int .i64 x, .bool true, .int .i64 0]) (by simp [results, Try.results82, go_sem]) rfl ⟨_, c', rfl, ?_, ?_⟩
     · repeat (first | exact Below.refl _ _ | (refine ext_set ?_ _ _ ?hg; case hg => have := hown.lt g rfl; simp at this; omega) | apply ext_drewN | apply ext_drew | apply ext_alloc | refine ext_trans ?_ (by assumption))
     · rw [ints_set]
       refine (World.ownsRow.stored ?_ _ _).1
       repeat (first | exact owns_mono hown (by simp) | apply own_drewN | apply own_drew | apply own_alloc)

end Go.Proofs.Ytdnajckhnknlcaa

/-! The program's access to words: mem.Do, where it goes well: a write. -/
namespace Go.Proofs.Ytdnajckhnknlcaa
set_option linter.unusedVariables false
set_option linter.unusedSimpArgs false
open Go.RowKit

set_option maxHeartbeats 1000000 in
theorem do_write (p : Option Addr) (c : Nat) (xs : List Int) (i : Nat) (x old new : Int) (w : World) (hr : Rd w 1 p xs.length c (ints xs)) (hlen : xs.length ≤ 100000)
    (hi : i < xs.length) (hx : (ints xs)[i]? = some (.int .i64 x)) (he : (doF xs 2 i old new).e = 0) :
    Calls Try.prog 82 #[.slice p xs.length c, .agg #[.int .i64 2, .int .i64 i, .int .i64 old, .int .i64 new]] w fun e w' =>
      ∃ p' c', e = .returned (.tuple #[.slice p' xs.length c', .int .i64 x, .bool true, .int .i64 0]) ∧ Below w.heap.size w w' ∧ w'.ownsRow w.heap.size 3 1 (.slice p' xs.length c') xs.length (ints (xs.set i new)) := by
  have H1 := Lib.hid (ints_one xs)
  have HR := Lib.hid hr
  have HE := Lib.hid he
  have HX := Lib.hid hx
  clear hr he hx
  go_enter Try.func82, Try.ntmps82
  go_wp2_with fail
  go_region_with (go_at_call 32; go_must (refine (clone_form p xs.length c (ints xs) _ ?_ H1.out (by omega) (by omega)).mono ?_; (· repeat (first | exact HR.out | apply Rd.drew | apply Rd.alloc)); rintro e w1 ⟨g, c', rfl, hb, hown, hlt, hcell, hfr⟩; have hcg := (hcell i hi).trans HX.out; clear hcell; have hc1 := ((Blk.new w 60 #[.int .i64 2, .int .i64 i, .int .i64 old, .int .i64 new]).drew.below hb (by simp)).cell))
  all_goals
    go_wp2_with (go_at_call 83; go_must (refine (wrong_any w1.heap.size _ xs 2 i old new _ c' (by omega) (by omega) hlen (Blk.new w1 93 #[.int .i64 2, .int .i64 i, .int .i64 old, .int .i64 new, .slice (some ⟨g, 0, none⟩) xs.length c'])).mono ?_; rintro e w2 ⟨rfl, k, rfl⟩; rw [HE.out]))
    go_quiet (fail)
    go_wp2_with fail
    go_region_with (go_at_call 84; go_must (refine (to_any w1.heap.size _ 2 i old new (.slice (some ⟨g, 0, none⟩) xs.length c') (by omega) ?_).mono ?_; (· repeat (first | exact Blk.new w1 93 _ | apply Blk.drew | apply Blk.drewN)); rintro e w3 ⟨rfl, rfl⟩))
    all_goals
     go_wp2_with fail
     refine bodyPost_ret (v := .tuple #[.slice (some ⟨g, 0, none⟩) xs.length c', .int .i64 x, .bool true, .int .i64 0]) (by simp [results, Try.results82, go_sem]) rfl ⟨_, c', rfl, ?_, ?_⟩
     · repeat (first | exact Below.refl _ _ | (refine ext_set ?_ _ _ ?hg; case hg => have := hown.lt g rfl; simp at this; omega) | apply ext_drewN | apply ext_drew | apply ext_alloc | refine ext_trans ?_ (by assumption))
     · rw [ints_set]
       refine (World.ownsRow.stored ?_ _ _).1
       repeat (first | exact owns_mono hown (by simp) | apply own_drewN | apply own_drew | apply own_alloc)

end Go.Proofs.Ytdnajckhnknlcaa

/-! The program's access to words, of whatever kind that is made here, in one law. -/
namespace Go.Proofs.Ytdnajckhnknlcaa
set_option linter.unusedVariables false
set_option linter.unusedSimpArgs false
open Go.RowKit

theorem do_any (p : Option Addr) (c : Nat) (xs : List Int) (kind at_ old new : Int) (w : World) (hr : Rd w 1 p xs.length c (ints xs)) (hk : kind = 1 ∨ kind = 2 ∨ kind = 3) (hlen : xs.length ≤ 100000) :
    Calls Try.prog 82 #[.slice p xs.length c, .agg #[.int .i64 kind, .int .i64 at_, .int .i64 old, .int .i64 new]] w fun e w' =>
      ∃ p' c', e = .returned (.tuple #[.slice p' xs.length c', .int .i64 (doF xs kind at_ old new).x, .bool (doF xs kind at_ old new).done, .int .i64 (doF xs kind at_ old new).e]) ∧ Below w.heap.size w w' ∧
        w'.ownsRow w.heap.size 3 1 (.slice p' xs.length c') xs.length (ints (doF xs kind at_ old new).xs) := by
  by_cases h1 : at_ < 0 ∨ (xs.length : Int) ≤ at_
  · have e : doF xs kind at_ old new = ⟨2, xs, 0, false⟩ := by simp only [doF]; rw [if_pos h1]
    rw [e]
    exact do_err p c xs kind at_ old new w hr (by omega) (by omega) hlen (by rw [e])
  · obtain ⟨i, rfl⟩ := Int.eq_ofNat_of_zero_le (show 0 ≤ at_ by omega)
    have hi : i < xs.length := by omega
    have hx := ints_get xs i hi
    by_cases h2 : kind ≠ 1 ∧ within new = false
    · have e : doF xs kind (i : Int) old new = ⟨2, xs, 0, false⟩ := by simp only [doF]; rw [if_neg h1, if_pos h2]
      rw [e]
      exact do_err p c xs kind i old new w hr (by omega) (by omega) hlen (by rw [e])
    · by_cases h3 : kind = 1
      · subst h3
        have e : doF xs 1 (i : Int) old new = ⟨0, xs, xs.getD i 0, true⟩ := by simp only [doF]; rw [if_neg h1, if_neg h2, if_pos trivial]; simp
        have := do_load p c xs i (xs.getD i 0) old new w hr hlen hi hx (by rw [e])
        rw [e]
        exact this
      · by_cases h4 : kind = 3 ∧ xs.getD i 0 ≠ old
        · have e : doF xs kind (i : Int) old new = ⟨0, xs, xs.getD i 0, false⟩ := by simp only [doF]; rw [if_neg h1, if_neg h2, if_neg h3, if_pos (by simpa using h4)]; simp
          obtain ⟨rfl, h4⟩ := h4
          have := do_swap_no p c xs i (xs.getD i 0) old new w hr hlen hi hx (by simpa using h4) (by rw [e])
          rw [e]
          exact this
        · have e : doF xs kind (i : Int) old new = ⟨0, xs.set i new, xs.getD i 0, true⟩ := by simp only [doF]; rw [if_neg h1, if_neg h2, if_neg h3, if_neg (by simpa using h4)]; simp
          rcases hk with hk | rfl | rfl
          · exact absurd hk h3
          · have := do_write p c xs i (xs.getD i 0) old new w hr hlen hi hx (by rw [e])
            rw [e]
            exact this
          · have := do_swap_yes p c xs i (xs.getD i 0) old new w hr hlen hi hx (by have h5 : xs.getD i 0 = old := Classical.byContradiction fun h => h4 ⟨rfl, h⟩; exact beq_iff_eq.2 h5) (by rw [e])
            rw [e]
            exact this

end Go.Proofs.Ytdnajckhnknlcaa

/-! The small methods of one that works on a deque: an access, a load, a write, a place, an end. -/
namespace Go.Proofs.Ytdnajckhnknlcaa
set_option linter.unusedVariables false
set_option linter.unusedSimpArgs false
open Go.RowKit

theorem Blk.set' {w : World} {b T : Nat} {cs cs' : Array Value} {o : Nat} {v : Value} (h : Blk w b T cs) (e : cs.setIfInBounds o v = cs') : Blk (w.setCell ⟨b, o, none⟩ v) b T cs' := e ▸ h.set o v
theorem grownBy_of_drew {a w : World} {row : Option Nat} (h : a.drew.grownBy w row) : a.grownBy w row := ⟨h.os, h.tape, h.output, h.size, h.block⟩
theorem grownBy_of_drewN {a w : World} {row : Option Nat} {k : Nat} (h : (a.drewN k).grownBy w row) : a.grownBy w row := ⟨h.os, h.tape, h.output, h.size, h.block⟩
theorem grownBy_drewN {a w : World} {row : Option Nat} (h : a.grownBy w row) (k : Nat) : a.grownBy (w.drewN k) row := ⟨h.os, h.tape, h.output, h.size, h.block⟩

theorem ext_grownBy {a w : World} {row : Option Nat} (h : Below a.heap.size a w) : a.grownBy w row := ⟨h.os, h.tape, h.output, h.size, fun k hk _ => h.block k hk⟩

/-- The one that works on a deque lies in block b; behind a method: nothing that was there has turned but block b; its words are new memory that reads as xs. -/
def HS (w w' : World) (b n : Nat) (cells : Option Addr → Nat → Array Value) (xs : List Int) : Prop :=
  ∃ p c, w.grownBy w' (some b) ∧ Blk w' b 57 (cells p c) ∧ w'.ownsRow w.heap.size 3 1 (.slice p n c) n (ints xs)

set_option maxHeartbeats 400000 in
theorem touch_any (b : Nat) (pc job r0 r1 r2 r3 r4 r5 r6 r7 : Int) (done : Bool) (out : Int) (p : Option Addr) (c : Nat) (at_ room er : Int) (xs : List Int) (w : World) (kind a old new : Int) (hk : kind = 1 ∨ kind = 2 ∨ kind = 3) (hr : Rd w 1 p xs.length c (ints xs)) (hlen : xs.length ≤ 100000)
    (h : Blk w b 57 #[.int .i64 pc, .int .i64 job, .int .i64 r0, .int .i64 r1, .int .i64 r2, .int .i64 r3, .int .i64 r4, .int .i64 r5, .int .i64 r6, .int .i64 r7, .bool done, .int .i64 out, .slice p xs.length c, .int .i64 at_, .int .i64 room, .int .i64 er]) :
    Calls Try.prog 76 #[.pointer (some ⟨b, 0, none⟩), .int .i64 kind, .int .i64 a, .int .i64 old, .int .i64 new] w fun e w' =>
      e = .returned (.tuple #[.int .i64 (doF xs kind a old new).x, .bool (doF xs kind a old new).done]) ∧ HS w w' b xs.length (fun p c => #[.int .i64 pc, .int .i64 job, .int .i64 r0, .int .i64 r1, .int .i64 r2, .int .i64 r3, .int .i64 r4, .int .i64 r5, .int .i64 r6, .int .i64 r7, .bool done, .int .i64 out, .slice p xs.length c, .int .i64 at_, .int .i64 room, .int .i64 (doF xs kind a old new).e]) ((doF xs kind a old new).xs) := by
  have hc : ∀ o, w.cell? ⟨b, o, none⟩ = (#[.int .i64 pc, .int .i64 job, .int .i64 r0, .int .i64 r1, .int .i64 r2, .int .i64 r3, .int .i64 r4, .int .i64 r5, .int .i64 r6, .int .i64 r7, .bool done, .int .i64 out, .slice p xs.length c, .int .i64 at_, .int .i64 room, .int .i64 er] : Array Value)[o]? := h.cell
  have hf := h.frozen
  have HR := Lib.hid hr
  have HK := Lib.hid hk
  clear hr hk
  have hd := do_any p c xs kind a old new w HR.out HK.out hlen
  obtain ⟨e1, he1⟩ : ∃ e1, (doF xs kind a old new).e = e1 := ⟨_, rfl⟩
  obtain ⟨x1, hx1⟩ : ∃ x1, (doF xs kind a old new).x = x1 := ⟨_, rfl⟩
  obtain ⟨d1, hd1⟩ : ∃ d1, (doF xs kind a old new).done = d1 := ⟨_, rfl⟩
  obtain ⟨ys, hys⟩ : ∃ ys, (doF xs kind a old new).xs = ys := ⟨_, rfl⟩
  rw [he1, hx1, hd1, hys] at hd
  rw [he1, hx1, hd1, hys]
  clear he1 hx1 hd1 hys
  have HD := Lib.hid hd
  clear hd
  go_enter Try.func76, Try.ntmps76
  go_wp2_with (go_at_call 82; go_must (refine HD.out.mono ?_; rintro e w1 ⟨p1, c1, rfl, hb, hown⟩; have h1 := h.ext hb; have hc1 := h1.cell; have hf1 := h1.frozen))
  go_ret2
  refine ⟨rfl, p1, c1, ?_, ?_, ?_⟩
  · repeat (first | exact ext_grownBy hb | apply grownBy_set | apply grownBy_drewN | apply grownBy_drew)
  · repeat (first | assumption | apply Blk.set' | apply Blk.drewN | apply Blk.drew)
    all_goals rfl
  · repeat (first | assumption | (refine ownsRow_setCell_below ?_ ?_ _; rotate_left; (exact h.lt)) | apply own_drewN | apply own_drew)


set_option maxHeartbeats 400000 in
theorem load_1 (b : Nat) (pc job r0 r1 r2 r3 r4 r5 r6 r7 : Int) (done : Bool) (out : Int) (p : Option Addr) (c : Nat) (at_ room er : Int) (xs : List Int) (w : World) (pc' a : Int) (hpc : wrap64 (pc + 1) = pc') (hr : Rd w 1 p xs.length c (ints xs)) (hlen : xs.length ≤ 100000)
    (h : Blk w b 57 #[.int .i64 pc, .int .i64 job, .int .i64 r0, .int .i64 r1, .int .i64 r2, .int .i64 r3, .int .i64 r4, .int .i64 r5, .int .i64 r6, .int .i64 r7, .bool done, .int .i64 out, .slice p xs.length c, .int .i64 at_, .int .i64 room, .int .i64 er]) :
    Calls Try.prog 75 #[.pointer (some ⟨b, 0, none⟩), .int .i64 1, .int .i64 a] w fun e w' =>
      e = .returned (.int .i64 (doF xs 1 a 0 0).x) ∧ HS w w' b xs.length (fun p c => #[.int .i64 pc', .int .i64 job, .int .i64 r0, .int .i64 (doF xs 1 a 0 0).x, .int .i64 r2, .int .i64 r3, .int .i64 r4, .int .i64 r5, .int .i64 r6, .int .i64 r7, .bool done, .int .i64 out, .slice p xs.length c, .int .i64 at_, .int .i64 room, .int .i64 (doF xs 1 a 0 0).e]) ((doF xs 1 a 0 0).xs) := by
  have hc : ∀ o, w.cell? ⟨b, o, none⟩ = (#[.int .i64 pc, .int .i64 job, .int .i64 r0, .int .i64 r1, .int .i64 r2, .int .i64 r3, .int .i64 r4, .int .i64 r5, .int .i64 r6, .int .i64 r7, .bool done, .int .i64 out, .slice p xs.length c, .int .i64 at_, .int .i64 room, .int .i64 er] : Array Value)[o]? := h.cell
  have hf := h.frozen
  have HR := Lib.hid hr
  have HP := Lib.hid hpc
  clear hr hpc
  go_enter Try.func75, Try.ntmps75
  go_wp2_with fail
  go_region_with (go_at_call 76; go_must (refine (touch_any b pc job r0 r1 r2 r3 r4 r5 r6 r7 done out p c at_ room er xs _ 1 a 0 0 (by omega) ?_ hlen ?_).mono ?_; (· repeat (first | exact HR.out | apply Rd.drew | apply Rd.drewN)); (· exact h); rintro e w1 ⟨rfl, p1, c1, hg, h1, hown⟩; have hc1 := h1.cell; have hf1 := h1.frozen))
  go_wp2_with fail
  go_ret
  refine ⟨rfl, p1, c1, ?_, ?_, ?_⟩
  all_goals rw [HP.out]
  · repeat (first | assumption | exact grownBy_of_drew (by assumption) | exact grownBy_of_drewN (by assumption) | apply grownBy_set | apply grownBy_drewN | apply grownBy_drew)
  · repeat (first | assumption | apply Blk.set' | apply Blk.drewN | apply Blk.drew)
    all_goals rfl
  · repeat (first | assumption | (refine ownsRow_setCell_below ?_ ?_ _; rotate_left; (exact h.lt)) | apply own_drewN | apply own_drew)

set_option maxHeartbeats 400000 in
theorem load_2 (b : Nat) (pc job r0 r1 r2 r3 r4 r5 r6 r7 : Int) (done : Bool) (out : Int) (p : Option Addr) (c : Nat) (at_ room er : Int) (xs : List Int) (w : World) (pc' a : Int) (hpc : wrap64 (pc + 1) = pc') (hr : Rd w 1 p xs.length c (ints xs)) (hlen : xs.length ≤ 100000)
    (h : Blk w b 57 #[.int .i64 pc, .int .i64 job, .int .i64 r0, .int .i64 r1, .int .i64 r2, .int .i64 r3, .int .i64 r4, .int .i64 r5, .int .i64 r6, .int .i64 r7, .bool done, .int .i64 out, .slice p xs.length c, .int .i64 at_, .int .i64 room, .int .i64 er]) :
    Calls Try.prog 75 #[.pointer (some ⟨b, 0, none⟩), .int .i64 2, .int .i64 a] w fun e w' =>
      e = .returned (.int .i64 (doF xs 1 a 0 0).x) ∧ HS w w' b xs.length (fun p c => #[.int .i64 pc', .int .i64 job, .int .i64 r0, .int .i64 r1, .int .i64 (doF xs 1 a 0 0).x, .int .i64 r3, .int .i64 r4, .int .i64 r5, .int .i64 r6, .int .i64 r7, .bool done, .int .i64 out, .slice p xs.length c, .int .i64 at_, .int .i64 room, .int .i64 (doF xs 1 a 0 0).e]) ((doF xs 1 a 0 0).xs) := by
  have hc : ∀ o, w.cell? ⟨b, o, none⟩ = (#[.int .i64 pc, .int .i64 job, .int .i64 r0, .int .i64 r1, .int .i64 r2, .int .i64 r3, .int .i64 r4, .int .i64 r5, .int .i64 r6, .int .i64 r7, .bool done, .int .i64 out, .slice p xs.length c, .int .i64 at_, .int .i64 room, .int .i64 er] : Array Value)[o]? := h.cell
  have hf := h.frozen
  have HR := Lib.hid hr
  have HP := Lib.hid hpc
  clear hr hpc
  go_enter Try.func75, Try.ntmps75
  go_wp2_with fail
  go_region_with (go_at_call 76; go_must (refine (touch_any b pc job r0 r1 r2 r3 r4 r5 r6 r7 done out p c at_ room er xs _ 1 a 0 0 (by omega) ?_ hlen ?_).mono ?_; (· repeat (first | exact HR.out | apply Rd.drew | apply Rd.drewN)); (· exact h); rintro e w1 ⟨rfl, p1, c1, hg, h1, hown⟩; have hc1 := h1.cell; have hf1 := h1.frozen))
  go_wp2_with fail
  go_ret
  refine ⟨rfl, p1, c1, ?_, ?_, ?_⟩
  all_goals rw [HP.out]
  · repeat (first | assumption | exact grownBy_of_drew (by assumption) | exact grownBy_of_drewN (by assumption) | apply grownBy_set | apply grownBy_drewN | apply grownBy_drew)
  · repeat (first | assumption | apply Blk.set' | apply Blk.drewN | apply Blk.drew)
    all_goals rfl
  · repeat (first | assumption | (refine ownsRow_setCell_below ?_ ?_ _; rotate_left; (exact h.lt)) | apply own_drewN | apply own_drew)

set_option maxHeartbeats 400000 in
theorem load_3 (b : Nat) (pc job r0 r1 r2 r3 r4 r5 r6 r7 : Int) (done : Bool) (out : Int) (p : Option Addr) (c : Nat) (at_ room er : Int) (xs : List Int) (w : World) (pc' a : Int) (hpc : wrap64 (pc + 1) = pc') (hr : Rd w 1 p xs.length c (ints xs)) (hlen : xs.length ≤ 100000)
    (h : Blk w b 57 #[.int .i64 pc, .int .i64 job, .int .i64 r0, .int .i64 r1, .int .i64 r2, .int .i64 r3, .int .i64 r4, .int .i64 r5, .int .i64 r6, .int .i64 r7, .bool done, .int .i64 out, .slice p xs.length c, .int .i64 at_, .int .i64 room, .int .i64 er]) :
    Calls Try.prog 75 #[.pointer (some ⟨b, 0, none⟩), .int .i64 3, .int .i64 a] w fun e w' =>
      e = .returned (.int .i64 (doF xs 1 a 0 0).x) ∧ HS w w' b xs.length (fun p c => #[.int .i64 pc', .int .i64 job, .int .i64 r0, .int .i64 r1, .int .i64 r2, .int .i64 (doF xs 1 a 0 0).x, .int .i64 r4, .int .i64 r5, .int .i64 r6, .int .i64 r7, .bool done, .int .i64 out, .slice p xs.length c, .int .i64 at_, .int .i64 room, .int .i64 (doF xs 1 a 0 0).e]) ((doF xs 1 a 0 0).xs) := by
  have hc : ∀ o, w.cell? ⟨b, o, none⟩ = (#[.int .i64 pc, .int .i64 job, .int .i64 r0, .int .i64 r1, .int .i64 r2, .int .i64 r3, .int .i64 r4, .int .i64 r5, .int .i64 r6, .int .i64 r7, .bool done, .int .i64 out, .slice p xs.length c, .int .i64 at_, .int .i64 room, .int .i64 er] : Array Value)[o]? := h.cell
  have hf := h.frozen
  have HR := Lib.hid hr
  have HP := Lib.hid hpc
  clear hr hpc
  go_enter Try.func75, Try.ntmps75
  go_wp2_with fail
  go_region_with (go_at_call 76; go_must (refine (touch_any b pc job r0 r1 r2 r3 r4 r5 r6 r7 done out p c at_ room er xs _ 1 a 0 0 (by omega) ?_ hlen ?_).mono ?_; (· repeat (first | exact HR.out | apply Rd.drew | apply Rd.drewN)); (· exact h); rintro e w1 ⟨rfl, p1, c1, hg, h1, hown⟩; have hc1 := h1.cell; have hf1 := h1.frozen))
  go_wp2_with fail
  go_ret
  refine ⟨rfl, p1, c1, ?_, ?_, ?_⟩
  all_goals rw [HP.out]
  · repeat (first | assumption | exact grownBy_of_drew (by assumption) | exact grownBy_of_drewN (by assumption) | apply grownBy_set | apply grownBy_drewN | apply grownBy_drew)
  · repeat (first | assumption | apply Blk.set' | apply Blk.drewN | apply Blk.drew)
    all_goals rfl
  · repeat (first | assumption | (refine ownsRow_setCell_below ?_ ?_ _; rotate_left; (exact h.lt)) | apply own_drewN | apply own_drew)

set_option maxHeartbeats 400000 in
theorem write_any (b : Nat) (pc job r0 r1 r2 r3 r4 r5 r6 r7 : Int) (done : Bool) (out : Int) (p : Option Addr) (c : Nat) (at_ room er : Int) (xs : List Int) (w : World) (pc' a to : Int) (hpc : wrap64 (pc + 1) = pc') (hr : Rd w 1 p xs.length c (ints xs)) (hlen : xs.length ≤ 100000)
    (h : Blk w b 57 #[.int .i64 pc, .int .i64 job, .int .i64 r0, .int .i64 r1, .int .i64 r2, .int .i64 r3, .int .i64 r4, .int .i64 r5, .int .i64 r6, .int .i64 r7, .bool done, .int .i64 out, .slice p xs.length c, .int .i64 at_, .int .i64 room, .int .i64 er]) :
    Calls Try.prog 73 #[.pointer (some ⟨b, 0, none⟩), .int .i64 a, .int .i64 to] w fun e w' =>
      e = .returned (.tuple #[]) ∧ HS w w' b xs.length (fun p c => #[.int .i64 pc', .int .i64 job, .int .i64 r0, .int .i64 r1, .int .i64 r2, .int .i64 r3, .int .i64 r4, .int .i64 r5, .int .i64 r6, .int .i64 r7, .bool done, .int .i64 out, .slice p xs.length c, .int .i64 at_, .int .i64 room, .int .i64 (doF xs 2 a 0 to).e]) ((doF xs 2 a 0 to).xs) := by
  have hc : ∀ o, w.cell? ⟨b, o, none⟩ = (#[.int .i64 pc, .int .i64 job, .int .i64 r0, .int .i64 r1, .int .i64 r2, .int .i64 r3, .int .i64 r4, .int .i64 r5, .int .i64 r6, .int .i64 r7, .bool done, .int .i64 out, .slice p xs.length c, .int .i64 at_, .int .i64 room, .int .i64 er] : Array Value)[o]? := h.cell
  have hf := h.frozen
  have HR := Lib.hid hr
  have HP := Lib.hid hpc
  clear hr hpc
  go_enter Try.func73, Try.ntmps73
  go_wp2_with (go_at_call 76; go_must (refine (touch_any b pc job r0 r1 r2 r3 r4 r5 r6 r7 done out p c at_ room er xs _ 2 a 0 to (by omega) ?_ hlen ?_).mono ?_; (· repeat (first | exact HR.out | apply Rd.drew | apply Rd.drewN)); (· exact h); rintro e w1 ⟨rfl, p1, c1, hg, h1, hown⟩; have hc1 := h1.cell; have hf1 := h1.frozen))
  go_end0
  refine ⟨rfl, p1, c1, ?_, ?_, ?_⟩
  all_goals rw [HP.out]
  · repeat (first | assumption | exact grownBy_of_drew (by assumption) | exact grownBy_of_drewN (by assumption) | apply grownBy_set | apply grownBy_drewN | apply grownBy_drew)
  · repeat (first | assumption | apply Blk.set' | apply Blk.drewN | apply Blk.drew)
    all_goals rfl
  · repeat (first | assumption | (refine ownsRow_setCell_below ?_ ?_ _; rotate_left; (exact h.lt)) | apply own_drewN | apply own_drew)

set_option maxHeartbeats 400000 in
theorem end_any (b : Nat) (pc job r0 r1 r2 r3 r4 r5 r6 r7 : Int) (done : Bool) (out : Int) (words : Value) (at_ room er : Int) (w : World) (pc' out' : Int) (hpc : wrap64 (pc - 1) = pc')
    (h : Blk w b 57 #[.int .i64 pc, .int .i64 job, .int .i64 r0, .int .i64 r1, .int .i64 r2, .int .i64 r3, .int .i64 r4, .int .i64 r5, .int .i64 r6, .int .i64 r7, .bool done, .int .i64 out, words, .int .i64 at_, .int .i64 room, .int .i64 er]) :
    Calls Try.prog 72 #[.pointer (some ⟨b, 0, none⟩), .int .i64 out'] w fun e w' =>
      e = .returned (.tuple #[]) ∧ w.grownBy w' (some b) ∧ Blk w' b 57 #[.int .i64 pc', .int .i64 job, .int .i64 r0, .int .i64 r1, .int .i64 r2, .int .i64 r3, .int .i64 r4, .int .i64 r5, .int .i64 r6, .int .i64 r7, .bool true, .int .i64 out', words, .int .i64 at_, .int .i64 room, .int .i64 er] ∧
      ∀ base v n ys, b < base → w.ownsRow base 3 1 v n ys → w'.ownsRow base 3 1 v n ys := by
  have hc := h.cell
  have hf := h.frozen
  have HP := Lib.hid hpc
  clear hpc
  go_enter Try.func72, Try.ntmps72
  go_wp2_with fail
  go_end0
  rw [HP.out]
  refine ⟨rfl, ?_, ?_, fun base v n ys hbase ho => ?_⟩
  · repeat (first | exact grownBy_refl _ _ | apply grownBy_set)
  · repeat (first | assumption | apply Blk.set')
    all_goals rfl
  · repeat (first | assumption | (refine ownsRow_setCell_below ?_ ?_ _; rotate_left; (exact hbase)))

theorem place_any (b : Nat) (pc job r0 r1 r2 r3 r4 r5 r6 r7 : Int) (done : Bool) (out : Int) (words : Value) (at_ room er : Int) (w : World) (n : Int) (hr1 : 1 ≤ room) (hr2 : room ≤ 1000) (hat : 0 ≤ at_)
    (h : Blk w b 57 #[.int .i64 pc, .int .i64 job, .int .i64 r0, .int .i64 r1, .int .i64 r2, .int .i64 r3, .int .i64 r4, .int .i64 r5, .int .i64 r6, .int .i64 r7, .bool done, .int .i64 out, words, .int .i64 at_, .int .i64 room, .int .i64 er]) :
    Calls Try.prog 74 #[.pointer (some ⟨b, 0, none⟩), .int .i64 n] w fun e w' => e = .returned (.int .i64 (placeF at_ room n)) ∧ ∃ k, w.drewN k = w' := by
  have hc := h.cell
  by_cases hn : n < 0
  · have e : placeF at_ room n = -1 := by simp [placeF, hn]
    rw [e]
    go_enter Try.func74, Try.ntmps74
    go_wp2_with fail
    go_ret
    exact ⟨rfl, 0, rfl⟩
  · have e : placeF at_ room n = wrap64 (wrap64 (at_ + 2) + n % room) := by simp [placeF, hn]
    rw [e]
    go_enter Try.func74, Try.ntmps74
    go_wp2_with fail
    go_quiet (fail)
    go_wp2_with fail
    go_ret
    exact ⟨rfl, _, rfl⟩

set_option maxHeartbeats 400000 in
theorem top_1 (b : Nat) (pc job r0 r1 r2 r3 r4 r5 r6 r7 : Int) (done : Bool) (out : Int) (p : Option Addr) (c : Nat) (at_ room er : Int) (xs : List Int) (w : World) (pc' : Int) (hpc : wrap64 (pc + 1) = pc') (hr : Rd w 1 p xs.length c (ints xs)) (hlen : xs.length ≤ 100000)
    (h : Blk w b 57 #[.int .i64 pc, .int .i64 job, .int .i64 r0, .int .i64 r1, .int .i64 r2, .int .i64 r3, .int .i64 r4, .int .i64 r5, .int .i64 r6, .int .i64 r7, .bool done, .int .i64 out, .slice p xs.length c, .int .i64 at_, .int .i64 room, .int .i64 er]) :
    Calls Try.prog 71 #[.pointer (some ⟨b, 0, none⟩), .int .i64 1] w fun e w' =>
      e = .returned (.int .i64 (doF xs 1 at_ 0 0).x) ∧ HS w w' b xs.length (fun p c => #[.int .i64 pc', .int .i64 job, .int .i64 r0, .int .i64 (doF xs 1 at_ 0 0).x, .int .i64 r2, .int .i64 r3, .int .i64 r4, .int .i64 r5, .int .i64 r6, .int .i64 r7, .bool done, .int .i64 out, .slice p xs.length c, .int .i64 at_, .int .i64 room, .int .i64 (doF xs 1 at_ 0 0).e]) ((doF xs 1 at_ 0 0).xs) := by
  have hc : ∀ o, w.cell? ⟨b, o, none⟩ = (#[.int .i64 pc, .int .i64 job, .int .i64 r0, .int .i64 r1, .int .i64 r2, .int .i64 r3, .int .i64 r4, .int .i64 r5, .int .i64 r6, .int .i64 r7, .bool done, .int .i64 out, .slice p xs.length c, .int .i64 at_, .int .i64 room, .int .i64 er] : Array Value)[o]? := h.cell
  have hf := h.frozen
  have HR := Lib.hid hr
  have HP := Lib.hid hpc
  clear hr hpc
  go_enter Try.func71, Try.ntmps71
  go_wp2_with (go_at_call 75; go_must (refine (load_1 b pc job r0 r1 r2 r3 r4 r5 r6 r7 done out p c at_ room er xs _ pc' _ HP.out HR.out hlen h).mono ?_; rintro e w1 ⟨rfl, hs⟩))
  go_ret
  exact ⟨rfl, hs⟩

set_option maxHeartbeats 400000 in
theorem top_2 (b : Nat) (pc job r0 r1 r2 r3 r4 r5 r6 r7 : Int) (done : Bool) (out : Int) (p : Option Addr) (c : Nat) (at_ room er : Int) (xs : List Int) (w : World) (pc' : Int) (hpc : wrap64 (pc + 1) = pc') (hr : Rd w 1 p xs.length c (ints xs)) (hlen : xs.length ≤ 100000)
    (h : Blk w b 57 #[.int .i64 pc, .int .i64 job, .int .i64 r0, .int .i64 r1, .int .i64 r2, .int .i64 r3, .int .i64 r4, .int .i64 r5, .int .i64 r6, .int .i64 r7, .bool done, .int .i64 out, .slice p xs.length c, .int .i64 at_, .int .i64 room, .int .i64 er]) :
    Calls Try.prog 71 #[.pointer (some ⟨b, 0, none⟩), .int .i64 2] w fun e w' =>
      e = .returned (.int .i64 (doF xs 1 at_ 0 0).x) ∧ HS w w' b xs.length (fun p c => #[.int .i64 pc', .int .i64 job, .int .i64 r0, .int .i64 r1, .int .i64 (doF xs 1 at_ 0 0).x, .int .i64 r3, .int .i64 r4, .int .i64 r5, .int .i64 r6, .int .i64 r7, .bool done, .int .i64 out, .slice p xs.length c, .int .i64 at_, .int .i64 room, .int .i64 (doF xs 1 at_ 0 0).e]) ((doF xs 1 at_ 0 0).xs) := by
  have hc : ∀ o, w.cell? ⟨b, o, none⟩ = (#[.int .i64 pc, .int .i64 job, .int .i64 r0, .int .i64 r1, .int .i64 r2, .int .i64 r3, .int .i64 r4, .int .i64 r5, .int .i64 r6, .int .i64 r7, .bool done, .int .i64 out, .slice p xs.length c, .int .i64 at_, .int .i64 room, .int .i64 er] : Array Value)[o]? := h.cell
  have hf := h.frozen
  have HR := Lib.hid hr
  have HP := Lib.hid hpc
  clear hr hpc
  go_enter Try.func71, Try.ntmps71
  go_wp2_with (go_at_call 75; go_must (refine (load_2 b pc job r0 r1 r2 r3 r4 r5 r6 r7 done out p c at_ room er xs _ pc' _ HP.out HR.out hlen h).mono ?_; rintro e w1 ⟨rfl, hs⟩))
  go_ret
  exact ⟨rfl, hs⟩

set_option maxHeartbeats 400000 in
theorem bottom_1 (b : Nat) (pc job r0 r1 r2 r3 r4 r5 r6 r7 : Int) (done : Bool) (out : Int) (p : Option Addr) (c : Nat) (at_ room er : Int) (xs : List Int) (w : World) (pc' : Int) (hpc : wrap64 (pc + 1) = pc') (hr : Rd w 1 p xs.length c (ints xs)) (hlen : xs.length ≤ 100000)
    (h : Blk w b 57 #[.int .i64 pc, .int .i64 job, .int .i64 r0, .int .i64 r1, .int .i64 r2, .int .i64 r3, .int .i64 r4, .int .i64 r5, .int .i64 r6, .int .i64 r7, .bool done, .int .i64 out, .slice p xs.length c, .int .i64 at_, .int .i64 room, .int .i64 er]) :
    Calls Try.prog 70 #[.pointer (some ⟨b, 0, none⟩), .int .i64 1] w fun e w' =>
      e = .returned (.int .i64 (doF xs 1 (wrap64 (at_ + 1)) 0 0).x) ∧ HS w w' b xs.length (fun p c => #[.int .i64 pc', .int .i64 job, .int .i64 r0, .int .i64 (doF xs 1 (wrap64 (at_ + 1)) 0 0).x, .int .i64 r2, .int .i64 r3, .int .i64 r4, .int .i64 r5, .int .i64 r6, .int .i64 r7, .bool done, .int .i64 out, .slice p xs.length c, .int .i64 at_, .int .i64 room, .int .i64 (doF xs 1 (wrap64 (at_ + 1)) 0 0).e]) ((doF xs 1 (wrap64 (at_ + 1)) 0 0).xs) := by
  have hc : ∀ o, w.cell? ⟨b, o, none⟩ = (#[.int .i64 pc, .int .i64 job, .int .i64 r0, .int .i64 r1, .int .i64 r2, .int .i64 r3, .int .i64 r4, .int .i64 r5, .int .i64 r6, .int .i64 r7, .bool done, .int .i64 out, .slice p xs.length c, .int .i64 at_, .int .i64 room, .int .i64 er] : Array Value)[o]? := h.cell
  have hf := h.frozen
  have HR := Lib.hid hr
  have HP := Lib.hid hpc
  clear hr hpc
  go_enter Try.func70, Try.ntmps70
  go_wp2_with (go_at_call 75; go_must (refine (load_1 b pc job r0 r1 r2 r3 r4 r5 r6 r7 done out p c at_ room er xs _ pc' _ HP.out HR.out hlen h).mono ?_; rintro e w1 ⟨rfl, hs⟩))
  go_ret
  exact ⟨rfl, hs⟩

set_option maxHeartbeats 400000 in
theorem bottom_2 (b : Nat) (pc job r0 r1 r2 r3 r4 r5 r6 r7 : Int) (done : Bool) (out : Int) (p : Option Addr) (c : Nat) (at_ room er : Int) (xs : List Int) (w : World) (pc' : Int) (hpc : wrap64 (pc + 1) = pc') (hr : Rd w 1 p xs.length c (ints xs)) (hlen : xs.length ≤ 100000)
    (h : Blk w b 57 #[.int .i64 pc, .int .i64 job, .int .i64 r0, .int .i64 r1, .int .i64 r2, .int .i64 r3, .int .i64 r4, .int .i64 r5, .int .i64 r6, .int .i64 r7, .bool done, .int .i64 out, .slice p xs.length c, .int .i64 at_, .int .i64 room, .int .i64 er]) :
    Calls Try.prog 70 #[.pointer (some ⟨b, 0, none⟩), .int .i64 2] w fun e w' =>
      e = .returned (.int .i64 (doF xs 1 (wrap64 (at_ + 1)) 0 0).x) ∧ HS w w' b xs.length (fun p c => #[.int .i64 pc', .int .i64 job, .int .i64 r0, .int .i64 r1, .int .i64 (doF xs 1 (wrap64 (at_ + 1)) 0 0).x, .int .i64 r3, .int .i64 r4, .int .i64 r5, .int .i64 r6, .int .i64 r7, .bool done, .int .i64 out, .slice p xs.length c, .int .i64 at_, .int .i64 room, .int .i64 (doF xs 1 (wrap64 (at_ + 1)) 0 0).e]) ((doF xs 1 (wrap64 (at_ + 1)) 0 0).xs) := by
  have hc : ∀ o, w.cell? ⟨b, o, none⟩ = (#[.int .i64 pc, .int .i64 job, .int .i64 r0, .int .i64 r1, .int .i64 r2, .int .i64 r3, .int .i64 r4, .int .i64 r5, .int .i64 r6, .int .i64 r7, .bool done, .int .i64 out, .slice p xs.length c, .int .i64 at_, .int .i64 room, .int .i64 er] : Array Value)[o]? := h.cell
  have hf := h.frozen
  have HR := Lib.hid hr
  have HP := Lib.hid hpc
  clear hr hpc
  go_enter Try.func70, Try.ntmps70
  go_wp2_with (go_at_call 75; go_must (refine (load_2 b pc job r0 r1 r2 r3 r4 r5 r6 r7 done out p c at_ room er xs _ pc' _ HP.out HR.out hlen h).mono ?_; rintro e w1 ⟨rfl, hs⟩))
  go_ret
  exact ⟨rfl, hs⟩

end Go.Proofs.Ytdnajckhnknlcaa

/-! What a worker does at each step: the methods that the map of jobs holds. -/
namespace Go.Proofs.Ytdnajckhnknlcaa
set_option linter.unusedVariables false
set_option linter.unusedSimpArgs false
open Go.RowKit

theorem gb_trans {a b c : World} {row : Option Nat} (h : a.grownBy b row) (k : b.grownBy c row) : a.grownBy c row := h.trans k

set_option maxHeartbeats 1000000 in
theorem job_giveBottom (b : Nat) (r0 r1 r2 r3 r4 r5 r6 r7 : Int) (out : Int) (p : Option Addr) (c : Nat) (at_ room : Int) (xs : List Int) (w : World) (hr1 : 1 ≤ room) (hr2 : room ≤ 1000) (hat : 0 ≤ at_) (hr : Rd w 1 p xs.length c (ints xs)) (hlen : xs.length ≤ 100000)
    (h : Blk w b 57 #[.int .i64 0, .int .i64 7, .int .i64 r0, .int .i64 r1, .int .i64 r2, .int .i64 r3, .int .i64 r4, .int .i64 r5, .int .i64 r6, .int .i64 r7, .bool false, .int .i64 out, .slice p xs.length c, .int .i64 at_, .int .i64 room, .int .i64 0]) :
    Calls Try.prog 46 #[.pointer (some ⟨b, 0, none⟩)] w fun e w' => e = .returned (.tuple #[]) ∧
      HS w w' b xs.length (fun p c => hdV (behF ⟨0, 7, r0, r1, r2, r3, r4, r5, r6, r7, false, out⟩ (doF xs 1 (wrap64 (at_ + 1)) 0 0) room) p xs.length c at_ room (doF xs 1 (wrap64 (at_ + 1)) 0 0).e) (doF xs 1 (wrap64 (at_ + 1)) 0 0).xs := by
  have hc := h.cell
  have hf := h.frozen
  have HR := Lib.hid hr
  clear hr
  obtain ⟨⟨e1, ys, x1, d1⟩, HQ⟩ : ∃ q, Hid (doF xs 1 (wrap64 (at_ + 1)) 0 0 = q) := ⟨_, rfl⟩
  rw [HQ.out]
  have ht := fun (W : World) (hR : Rd W 1 p xs.length c (ints xs)) (hB : Blk W b 57 #[.int .i64 0, .int .i64 7, .int .i64 r0, .int .i64 r1, .int .i64 r2, .int .i64 r3, .int .i64 r4, .int .i64 r5, .int .i64 r6, .int .i64 r7, .bool false, .int .i64 out, .slice p xs.length c, .int .i64 at_, .int .i64 room, .int .i64 0]) => bottom_1 b 0 7 r0 r1 r2 r3 r4 r5 r6 r7 false out p c at_ room 0 xs W 1 (by unfold wrap64; omega) hR hlen hB
  rw [HQ.out] at ht
  have HT := Lib.hid ht
  clear ht
  · clear hlen
    have hbe : behF ⟨0, 7, r0, r1, r2, r3, r4, r5, r6, r7, false, out⟩ ⟨e1, ys, x1, d1⟩ room = ⟨1, 7, r0, x1, r2, r3, r4, r5, r6, r7, false, out⟩ := by simp [behF]
    rw [hbe]
    clear hbe
    go_enter Try.func46, Try.ntmps46
    go_wp2_with (go_at_call 70; go_must ((try simp only [IntWalk.i64_left]); refine (HT.out _ ?_ ?_).mono ?_; (· repeat (first | exact HR.out | apply Rd.drew | apply Rd.drewN)); (· exact h); rintro e w1 ⟨rfl, p1, c1, hg, h1, hown⟩; have hc1 := h1.cell; have hf1 := h1.frozen))
    all_goals
     go_end0
     refine ⟨rfl, p1, c1, ?_, ?_, ?_⟩
     · repeat (first | exact grownBy_refl _ _ | apply grownBy_set | apply grownBy_drewN | apply grownBy_drew | refine gb_trans ?_ (by assumption))
     · repeat (first | assumption | apply Blk.set' | apply Blk.drewN | apply Blk.drew)
       all_goals rfl
     · repeat (first | exact hown | (refine hend _ _ _ _ h.lt ?_) | (refine ownsRow_setCell_below ?_ ?_ _; rotate_left; (exact h.lt)) | apply own_drewN | apply own_drew)

set_option maxHeartbeats 1000000 in
theorem job_giveTop (b : Nat) (r0 r1 r2 r3 r4 r5 r6 r7 : Int) (out : Int) (p : Option Addr) (c : Nat) (at_ room : Int) (xs : List Int) (w : World) (hr1 : 1 ≤ room) (hr2 : room ≤ 1000) (hat : 0 ≤ at_) (hr : Rd w 1 p xs.length c (ints xs)) (hlen : xs.length ≤ 100000)
    (h : Blk w b 57 #[.int .i64 1, .int .i64 7, .int .i64 r0, .int .i64 r1, .int .i64 r2, .int .i64 r3, .int .i64 r4, .int .i64 r5, .int .i64 r6, .int .i64 r7, .bool false, .int .i64 out, .slice p xs.length c, .int .i64 at_, .int .i64 room, .int .i64 0]) :
    Calls Try.prog 47 #[.pointer (some ⟨b, 0, none⟩)] w fun e w' => e = .returned (.tuple #[]) ∧
      HS w w' b xs.length (fun p c => hdV (behF ⟨1, 7, r0, r1, r2, r3, r4, r5, r6, r7, false, out⟩ (doF xs 1 at_ 0 0) room) p xs.length c at_ room (doF xs 1 at_ 0 0).e) (doF xs 1 at_ 0 0).xs := by
  have hc := h.cell
  have hf := h.frozen
  have HR := Lib.hid hr
  clear hr
  obtain ⟨⟨e1, ys, x1, d1⟩, HQ⟩ : ∃ q, Hid (doF xs 1 at_ 0 0 = q) := ⟨_, rfl⟩
  rw [HQ.out]
  have ht := fun (W : World) (hR : Rd W 1 p xs.length c (ints xs)) (hB : Blk W b 57 #[.int .i64 1, .int .i64 7, .int .i64 r0, .int .i64 r1, .int .i64 r2, .int .i64 r3, .int .i64 r4, .int .i64 r5, .int .i64 r6, .int .i64 r7, .bool false, .int .i64 out, .slice p xs.length c, .int .i64 at_, .int .i64 room, .int .i64 0]) => top_2 b 1 7 r0 r1 r2 r3 r4 r5 r6 r7 false out p c at_ room 0 xs W 2 (by unfold wrap64; omega) hR hlen hB
  rw [HQ.out] at ht
  have HT := Lib.hid ht
  clear ht
  by_cases hcd : room ≤ wrap64 (r1 - x1)
  · clear hlen
    have hbe : behF ⟨1, 7, r0, r1, r2, r3, r4, r5, r6, r7, false, out⟩ ⟨e1, ys, x1, d1⟩ room = ⟨1, 7, r0, r1, x1, r3, r4, r5, r6, r7, true, (-1)⟩ := by simp only [behF]; simp [hcd]
    rw [hbe]
    clear hbe
    go_enter Try.func47, Try.ntmps47
    go_wp2_with (go_at_call 71; go_must ((try simp only [IntWalk.i64_left]); refine (HT.out _ ?_ ?_).mono ?_; (· repeat (first | exact HR.out | apply Rd.drew | apply Rd.drewN)); (· exact h); rintro e w1 ⟨rfl, p1, c1, hg, h1, hown⟩; have hc1 := h1.cell; have hf1 := h1.frozen))
    go_quiet (fail)
    go_wp2_with (go_at_call 72; go_must (refine (end_any b 2 7 r0 r1 x1 r3 r4 r5 r6 r7 false out (.slice p1 xs.length c1) at_ room e1 _ 1 (-1) (by unfold wrap64; omega) ?_).mono ?_; (· exact h1); rintro e w2 ⟨rfl, hg2, h2, hend⟩))
    all_goals
     go_end0
     refine ⟨rfl, p1, c1, ?_, ?_, ?_⟩
     · repeat (first | exact grownBy_refl _ _ | apply grownBy_set | apply grownBy_drewN | apply grownBy_drew | refine gb_trans ?_ (by assumption))
     · repeat (first | assumption | apply Blk.set' | apply Blk.drewN | apply Blk.drew)
       all_goals rfl
     · repeat (first | exact hown | (refine hend _ _ _ _ h.lt ?_) | (refine ownsRow_setCell_below ?_ ?_ _; rotate_left; (exact h.lt)) | apply own_drewN | apply own_drew)
  · clear hlen
    have hbe : behF ⟨1, 7, r0, r1, r2, r3, r4, r5, r6, r7, false, out⟩ ⟨e1, ys, x1, d1⟩ room = ⟨2, 7, r0, r1, x1, r3, r4, r5, r6, r7, false, out⟩ := by simp only [behF]; simp [hcd]
    rw [hbe]
    clear hbe
    go_enter Try.func47, Try.ntmps47
    go_wp2_with (go_at_call 71; go_must ((try simp only [IntWalk.i64_left]); refine (HT.out _ ?_ ?_).mono ?_; (· repeat (first | exact HR.out | apply Rd.drew | apply Rd.drewN)); (· exact h); rintro e w1 ⟨rfl, p1, c1, hg, h1, hown⟩; have hc1 := h1.cell; have hf1 := h1.frozen))
    go_quiet (fail)
    go_wp2_with fail
    all_goals
     go_end0
     refine ⟨rfl, p1, c1, ?_, ?_, ?_⟩
     · repeat (first | exact grownBy_refl _ _ | apply grownBy_set | apply grownBy_drewN | apply grownBy_drew | refine gb_trans ?_ (by assumption))
     · repeat (first | assumption | apply Blk.set' | apply Blk.drewN | apply Blk.drew)
       all_goals rfl
     · repeat (first | exact hown | (refine hend _ _ _ _ h.lt ?_) | (refine ownsRow_setCell_below ?_ ?_ _; rotate_left; (exact h.lt)) | apply own_drewN | apply own_drew)

set_option maxHeartbeats 1000000 in
theorem job_giveTask (b : Nat) (r0 r1 r2 r3 r4 r5 r6 r7 : Int) (out : Int) (p : Option Addr) (c : Nat) (at_ room : Int) (xs : List Int) (w : World) (hr1 : 1 ≤ room) (hr2 : room ≤ 1000) (hat : 0 ≤ at_) (hr : Rd w 1 p xs.length c (ints xs)) (hlen : xs.length ≤ 100000)
    (h : Blk w b 57 #[.int .i64 2, .int .i64 7, .int .i64 r0, .int .i64 r1, .int .i64 r2, .int .i64 r3, .int .i64 r4, .int .i64 r5, .int .i64 r6, .int .i64 r7, .bool false, .int .i64 out, .slice p xs.length c, .int .i64 at_, .int .i64 room, .int .i64 0]) :
    Calls Try.prog 48 #[.pointer (some ⟨b, 0, none⟩)] w fun e w' => e = .returned (.tuple #[]) ∧
      HS w w' b xs.length (fun p c => hdV (behF ⟨2, 7, r0, r1, r2, r3, r4, r5, r6, r7, false, out⟩ (doF xs 2 (placeF at_ room r1) 0 r0) room) p xs.length c at_ room (doF xs 2 (placeF at_ room r1) 0 r0).e) (doF xs 2 (placeF at_ room r1) 0 r0).xs := by
  have hc := h.cell
  have hf := h.frozen
  have HR := Lib.hid hr
  clear hr
  obtain ⟨⟨e1, ys, x1, d1⟩, HQ⟩ : ∃ q, Hid (doF xs 2 (placeF at_ room r1) 0 r0 = q) := ⟨_, rfl⟩
  rw [HQ.out]
  have ht := fun (W : World) (hR : Rd W 1 p xs.length c (ints xs)) (hB : Blk W b 57 #[.int .i64 2, .int .i64 7, .int .i64 r0, .int .i64 r1, .int .i64 r2, .int .i64 r3, .int .i64 r4, .int .i64 r5, .int .i64 r6, .int .i64 r7, .bool false, .int .i64 out, .slice p xs.length c, .int .i64 at_, .int .i64 room, .int .i64 0]) => write_any b 2 7 r0 r1 r2 r3 r4 r5 r6 r7 false out p c at_ room 0 xs W 3 (placeF at_ room r1) r0 (by unfold wrap64; omega) hR hlen hB
  rw [HQ.out] at ht
  have HT := Lib.hid ht
  clear ht
  · clear hlen
    have hbe : behF ⟨2, 7, r0, r1, r2, r3, r4, r5, r6, r7, false, out⟩ ⟨e1, ys, x1, d1⟩ room = ⟨3, 7, r0, r1, r2, r3, r4, r5, r6, r7, false, out⟩ := by simp [behF]
    rw [hbe]
    clear hbe
    go_enter Try.func48, Try.ntmps48
    go_wp2_with fail
    go_region_with (first | (go_at_call 74; go_must (refine (place_any b 2 7 r0 r1 r2 r3 r4 r5 r6 r7 false out (.slice p xs.length c) at_ room 0 _ r1 hr1 hr2 hat ?_).mono ?_; (· exact h); rintro e w3 ⟨rfl, k3, rfl⟩)) | (go_at_call 73; go_must ((try simp only [IntWalk.i64_left]); refine (HT.out _ ?_ ?_).mono ?_; (· repeat (first | exact HR.out | apply Rd.drew | apply Rd.drewN)); (· exact h); rintro e w1 ⟨rfl, p1, c1, hg, h1, hown⟩; have hc1 := h1.cell; have hf1 := h1.frozen)))
    all_goals go_wp2_with fail
    all_goals
     go_end0
     refine ⟨rfl, p1, c1, ?_, ?_, ?_⟩
     · repeat (first | exact grownBy_refl _ _ | apply grownBy_set | apply grownBy_drewN | apply grownBy_drew | refine gb_trans ?_ (by assumption))
     · repeat (first | assumption | apply Blk.set' | apply Blk.drewN | apply Blk.drew)
       all_goals rfl
     · repeat (first | exact hown | (refine hend _ _ _ _ h.lt ?_) | (refine ownsRow_setCell_below ?_ ?_ _; rotate_left; (exact h.lt)) | apply own_drewN | apply own_drew)

set_option maxHeartbeats 1000000 in
theorem job_giveEnd (b : Nat) (r0 r1 r2 r3 r4 r5 r6 r7 : Int) (out : Int) (p : Option Addr) (c : Nat) (at_ room : Int) (xs : List Int) (w : World) (hr1 : 1 ≤ room) (hr2 : room ≤ 1000) (hat : 0 ≤ at_) (hr : Rd w 1 p xs.length c (ints xs)) (hlen : xs.length ≤ 100000)
    (h : Blk w b 57 #[.int .i64 3, .int .i64 7, .int .i64 r0, .int .i64 r1, .int .i64 r2, .int .i64 r3, .int .i64 r4, .int .i64 r5, .int .i64 r6, .int .i64 r7, .bool false, .int .i64 out, .slice p xs.length c, .int .i64 at_, .int .i64 room, .int .i64 0]) :
    Calls Try.prog 49 #[.pointer (some ⟨b, 0, none⟩)] w fun e w' => e = .returned (.tuple #[]) ∧
      HS w w' b xs.length (fun p c => hdV (behF ⟨3, 7, r0, r1, r2, r3, r4, r5, r6, r7, false, out⟩ (doF xs 2 (wrap64 (at_ + 1)) 0 (wrap64 (r1 + 1))) room) p xs.length c at_ room (doF xs 2 (wrap64 (at_ + 1)) 0 (wrap64 (r1 + 1))).e) (doF xs 2 (wrap64 (at_ + 1)) 0 (wrap64 (r1 + 1))).xs := by
  have hc := h.cell
  have hf := h.frozen
  have HR := Lib.hid hr
  clear hr
  obtain ⟨⟨e1, ys, x1, d1⟩, HQ⟩ : ∃ q, Hid (doF xs 2 (wrap64 (at_ + 1)) 0 (wrap64 (r1 + 1)) = q) := ⟨_, rfl⟩
  rw [HQ.out]
  have ht := fun (W : World) (hR : Rd W 1 p xs.length c (ints xs)) (hB : Blk W b 57 #[.int .i64 3, .int .i64 7, .int .i64 r0, .int .i64 r1, .int .i64 r2, .int .i64 r3, .int .i64 r4, .int .i64 r5, .int .i64 r6, .int .i64 r7, .bool false, .int .i64 out, .slice p xs.length c, .int .i64 at_, .int .i64 room, .int .i64 0]) => write_any b 3 7 r0 r1 r2 r3 r4 r5 r6 r7 false out p c at_ room 0 xs W 4 (wrap64 (at_ + 1)) (wrap64 (r1 + 1)) (by unfold wrap64; omega) hR hlen hB
  rw [HQ.out] at ht
  have HT := Lib.hid ht
  clear ht
  · clear hlen
    have hbe : behF ⟨3, 7, r0, r1, r2, r3, r4, r5, r6, r7, false, out⟩ ⟨e1, ys, x1, d1⟩ room = ⟨3, 7, r0, r1, r2, r3, r4, r5, r6, r7, true, r0⟩ := by simp [behF]
    rw [hbe]
    clear hbe
    go_enter Try.func49, Try.ntmps49
    go_wp2_with fail
    go_region_with (go_at_call 73; go_must ((try simp only [IntWalk.i64_left]); refine (HT.out _ ?_ ?_).mono ?_; (· repeat (first | exact HR.out | apply Rd.drew | apply Rd.drewN)); (· exact h); rintro e w1 ⟨rfl, p1, c1, hg, h1, hown⟩; have hc1 := h1.cell; have hf1 := h1.frozen))
    all_goals go_wp2_with (go_at_call 72; go_must (refine (end_any b 4 7 r0 r1 r2 r3 r4 r5 r6 r7 false out (.slice p1 xs.length c1) at_ room e1 _ 3 r0 (by unfold wrap64; omega) ?_).mono ?_; (· exact h1); rintro e w2 ⟨rfl, hg2, h2, hend⟩))
    all_goals
     go_end0
     refine ⟨rfl, p1, c1, ?_, ?_, ?_⟩
     · repeat (first | exact grownBy_refl _ _ | apply grownBy_set | apply grownBy_drewN | apply grownBy_drew | refine gb_trans ?_ (by assumption))
     · repeat (first | assumption | apply Blk.set' | apply Blk.drewN | apply Blk.drew)
       all_goals rfl
     · repeat (first | exact hown | (refine hend _ _ _ _ h.lt ?_) | (refine ownsRow_setCell_below ?_ ?_ _; rotate_left; (exact h.lt)) | apply own_drewN | apply own_drew)

end Go.Proofs.Ytdnajckhnknlcaa
