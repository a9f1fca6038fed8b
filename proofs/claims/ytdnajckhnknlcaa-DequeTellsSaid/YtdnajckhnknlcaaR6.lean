/-
  The contracts of the functions that these laws reach, part 6.
-/
import Derived.Test.YtdnajckhnknlcaaR5

/-! The reference: how many are left; how many steps each has left. -/
namespace Go.Proofs.Ytdnajckhnknlcaa
set_option linter.unusedVariables false
set_option linter.unusedSimpArgs false
open Go.RowKit

set_option maxHeartbeats 1000000 in
theorem many69 (p : Option Addr) (n c : Nat) (xs : List Int) (w : World) (hx : Rd w 1 p n c (ints xs)) (hn : n ≤ 1000000) :
    Calls Try.prog 69 #[.slice p n c] w fun e w' => e = .returned (.int .i64 (alive xs n).length) ∧ w = w' := by
  have hl : xs.length = n := by have := hx.len; rw [ints_len] at this; omega
  have HX := Lib.hid hx
  have HL := Lib.hid hl
  clear hx hl
  go_enter Try.func69, Try.ntmps69
  go_wp2_with fail
  go_loop [3, 4] (fun m i => ∃ k : Nat, k ≤ n ∧ i = .int .i64 k ∧ m = .int .i64 (alive xs k).length) (fun _ i => n - (intOf i).toNat)
  case atStart => exact ⟨0, Nat.zero_le _, rfl, rfl⟩
  case round =>
    obtain ⟨k, hk, rfl, rfl⟩ := hrel
    have ha := alive_le xs k
    by_cases hlt : k < n
    · obtain ⟨b, off, rfl⟩ := HX.out.addr (by omega) (by decide)
      have hc := HX.out.cell k _ (ints_get xs k (by rw [HL.out]; exact hlt))
      obtain ⟨x, hx⟩ : ∃ x, Hid (xs.getD k 0 = x) := ⟨_, rfl⟩
      rw [hx.out] at hc
      by_cases h0 : 0 < x
      · have hs := alive_yes xs k (by rw [hx.out]; exact h0)
        have HS := Lib.hid hs
        clear hs
        go_wp2_with fail
        go_round
        case rel => exact ⟨k + 1, by omega, by go_num, by rw [HS.out]; simp⟩
        case measure => simp [intOf]; omega
      · have hs := alive_no xs k (by rw [hx.out]; exact h0)
        have HS := Lib.hid hs
        clear hs
        go_wp2_with fail
        go_round
        case rel => exact ⟨k + 1, by omega, by go_num, by rw [HS.out]⟩
        case measure => simp [intOf]; omega
    · have hkn : k = n := by omega
      subst hkn
      go_wp2_with fail
      go_ret
      exact ⟨rfl, rfl⟩

theorem notDone_yes (ws : List Wk) (k : Nat) (x : Wk) (h : ws[k]? = some x) (hd : x.done = false) : notDone (ws.take (k + 1)) = notDone (ws.take k) + 1 := by
  have hk := (List.getElem?_eq_some_iff.1 h).1
  rw [List.take_succ_eq_append_getElem hk, (List.getElem?_eq_some_iff.1 h).2]
  simp [notDone, List.filter_append, hd]
theorem notDone_no (ws : List Wk) (k : Nat) (x : Wk) (h : ws[k]? = some x) (hd : x.done = true) : notDone (ws.take (k + 1)) = notDone (ws.take k) := by
  have hk := (List.getElem?_eq_some_iff.1 h).1
  rw [List.take_succ_eq_append_getElem hk, (List.getElem?_eq_some_iff.1 h).2]
  simp [notDone, List.filter_append, hd]
theorem notDone_le (ws : List Wk) : notDone ws ≤ ws.length := List.length_filter_le _ _

theorem owns_of_blk {w : World} {g T : Nat} {cs : Array Value} {base : Nat} (h : Blk w g T cs) (hb : base ≤ g) (n : Nat) (hn : cs.size = n) (hm : n ≤ maxLen) : w.ownsRow base T 1 (.slice (some ⟨g, 0, none⟩) n n) n cs.toList :=
  ⟨by simpa using hn, .inr ⟨g, n, cs, rfl, hb, h, Nat.le_refl _, hm, by omega, List.take_of_length_le (by simp; omega)⟩⟩

/-- What 'append(s, x)' first lays. -/
theorem rd_one (w : World) (T : Nat) (x : Value) : Rd (w.alloc (.cells #[x] T)) 1 (some ⟨w.heap.size, 0, none⟩) 1 1 [x] :=
  ⟨rfl, Nat.le_refl _, by decide, by simp, fun a ha => by cases ha; exact cell_one_new w x T⟩

set_option maxHeartbeats 2000000 in
theorem left44 (p q : Option Addr) (n m c d : Nat) (own all : List Wk) (w : World) (hx : Rd w 12 p n c (wkCells own)) (hy : Rd w 12 q m d (wkCells all)) (hn : n ≤ 1000) (hm : m ≤ 1000) :
    Calls Try.prog 44 #[.slice p n c, .slice q m d] w fun e w' => ∃ p' c', e = .returned (.slice p' (m + 1) c') ∧ Below w.heap.size w w' ∧ w'.ownsRow w.heap.size 3 1 (.slice p' (m + 1) c') (m + 1) (ints (leftF own all)) := by
  have hl := hx.wlen
  have hl' := hy.wlen
  have HX := Lib.hid hx
  have HL := Lib.hid hl
  have HY := Lib.hid hy
  have HL' := Lib.hid hl'
  clear hx hl hy hl'
  go_enter Try.func44, Try.ntmps44
  go_wp2_with fail
  go_loopw [6] (fun i wr => ∃ k : Nat, k ≤ n ∧ i = .int .i64 k ∧ Blk wr w.heap.size 3 #[.int .i64 (notDone (own.take k))] ∧ Below w.heap.size w wr) (fun i _ => n - (intOf i).toNat)
  case atStart => exact ⟨0, Nat.zero_le _, rfl, Blk.new w 3 #[.int .i64 0], ext_alloc (Below.refl _ _) _⟩
  case round =>
    obtain ⟨k, hk, rfl, HB, HW⟩ := hrel
    have hnd := notDone_le (own.take k)
    rw [List.length_take] at hnd
    have hbc := HB.cell
    have hbf := HB.frozen
    by_cases hlt : k < n
    · obtain ⟨b, off, rfl⟩ := HX.out.addr (by omega) (by decide)
      obtain ⟨x, hx⟩ : ∃ x, own[k]? = some x := ⟨own[k]'(by rw [HL.out]; exact hlt), by simp [HL.out, hlt]⟩
      have hc := ((HX.out.ext HW).wk k x hx).1 10 (by omega)
      obtain ⟨pc, job, r0, r1, r2, r3, r4, r5, r6, r7, dd, o⟩ := x
      have hc' : wr.cell? ⟨b, off + k * 12 + 10, none⟩ = some (.bool dd) := hc
      clear hc
      cases dd
      · have hs := notDone_yes own k _ hx rfl
        have HS := Lib.hid hs
        clear hs hx
        go_wp2_with fail
        go_roundw
        case rel => exact ⟨k + 1, by omega, by go_num, by rw [HS.out]; exact Blk.set' HB rfl, ext_set HW _ _ (Nat.le_refl _)⟩
        case measure => simp [intOf]; omega
      · have hs := notDone_no own k _ hx rfl
        have HS := Lib.hid hs
        clear hs hx
        go_wp2_with fail
        go_roundw
        case rel => exact ⟨k + 1, by omega, by go_num, by rw [HS.out]; exact HB, HW⟩
        case measure => simp [intOf]; omega
    · have hkn : k = n := by omega
      subst hkn
      rw [List.take_of_length_le (by rw [HL.out]; exact Nat.le_refl _)] at HB
      clear hbc hbf hnd hlt
      have HO : wr.ownsRow w.heap.size 3 1 (.slice (some ⟨w.heap.size, 0, none⟩) 1 1) 1 (ints ((notDone own : Int) :: (all.take 0).map fun x => if x.done then 0 else 1)) := owns_of_blk HB (Nat.le_refl _) 1 rfl (by decide)
      obtain ⟨wo, rfl⟩ : ∃ wo : World, wo = wr := ⟨_, rfl⟩
      go_wp2_with fail
      go_loopw [5, 7] (fun v i wr => ∃ k : Nat, k ≤ m ∧ i = .int .i64 k ∧ wr.ownsRow w.heap.size 3 1 v (1 + k) (ints ((notDone own : Int) :: (all.take k).map fun x => if x.done then 0 else 1)) ∧ Below w.heap.size w wr) (fun _ i _ => m - (intOf i).toNat)
      case atStart => exact ⟨0, Nat.zero_le _, rfl, HO, HW⟩
      case round =>
        obtain ⟨j, hj, rfl, HO2, HW2⟩ := hrel
        by_cases hlt : j < m
        · obtain ⟨b, off, rfl⟩ := HY.out.addr (by omega) (by decide)
          obtain ⟨x, hx⟩ : ∃ x, all[j]? = some x := ⟨all[j]'(by rw [HL'.out]; exact hlt), by simp [HL'.out, hlt]⟩
          have hc := ((HY.out.ext HW2).wk j x hx).1 10 (by omega)
          have ht : all.take (j + 1) = all.take j ++ [x] := by
            have hk := (List.getElem?_eq_some_iff.1 hx).1
            rw [List.take_succ_eq_append_getElem hk, (List.getElem?_eq_some_iff.1 hx).2]
          obtain ⟨pc, job, r0, r1, r2, r3, r4, r5, r6, r7, dd, o⟩ := x
          have hc' : wr.cell? ⟨b, off + j * 12 + 10, none⟩ = some (.bool dd) := hc
          have HT := Lib.hid ht
          clear hc hx ht
          cases dd
          · go_wp2_with (at_builtin; go_must (refine wpList_append_rd _ rfl (.tmp 40) (.tmp 41) 22 rfl w.heap.size 3 (.int .i64 0) 1 8 Try.underlying22 info_3 rfl (by decide) _ (1 + j) _ rfl (HO2.alloc _) (some ⟨wr.heap.size, 0, none⟩) 1 1 [.int .i64 1] rfl (rd_one wr 3 _) (by simp [Value.oneCell']) (by unfold maxLen; omega) (by omega) (by have := HW2.size; simp; omega) ?_))
            intro v' w1 hown1 hg1 _
            have HE := Lib.hid (owns_grown (HO2.alloc _) (ext_alloc HW2 _) hg1 (Nat.le_refl _) (by have := HW2.size; simp; omega))
            have HO3 := Lib.hid hown1
            clear hown1 hg1
            go_wp2_with fail
            go_roundw
            case rel => exact ⟨j + 1, by omega, by go_num, by rw [HT.out, ← Nat.add_assoc]; have := HO3.out; simpa [ints] using this, HE.out⟩
            case measure => simp [intOf]; omega
          · go_wp2_with (at_builtin; go_must (refine wpList_append_rd _ rfl (.tmp 37) (.tmp 38) 22 rfl w.heap.size 3 (.int .i64 0) 1 8 Try.underlying22 info_3 rfl (by decide) _ (1 + j) _ rfl (HO2.alloc _) (some ⟨wr.heap.size, 0, none⟩) 1 1 [.int .i64 0] rfl (rd_one wr 3 _) (by simp [Value.oneCell']) (by unfold maxLen; omega) (by omega) (by have := HW2.size; simp; omega) ?_))
            intro v' w1 hown1 hg1 _
            have HE := Lib.hid (owns_grown (HO2.alloc _) (ext_alloc HW2 _) hg1 (Nat.le_refl _) (by have := HW2.size; simp; omega))
            have HO3 := Lib.hid hown1
            clear hown1 hg1
            go_wp2_with fail
            go_roundw
            case rel => exact ⟨j + 1, by omega, by go_num, by rw [HT.out, ← Nat.add_assoc]; have := HO3.out; simpa [ints] using this, HE.out⟩
            case measure => simp [intOf]; omega
        · have hkn : j = m := by omega
          subst hkn
          rw [List.take_of_length_le (by rw [HL'.out]; exact Nat.le_refl _)] at HO2
          obtain ⟨p', c', hv, _, _⟩ := Rd.of_owns HO2
          subst hv
          go_wp2_with fail
          go_ret
          exact ⟨p', c', by rw [Nat.add_comm]; rfl, HW2, by rw [Nat.add_comm j 1]; exact HO2⟩

end Go.Proofs.Ytdnajckhnknlcaa

/-! Plain laws on those that are left. -/
namespace Go.Proofs.Ytdnajckhnknlcaa
set_option linter.unusedVariables false
set_option linter.unusedSimpArgs false
open Go.RowKit

theorem alive_find (l : List Int) (n : Nat) (last : Int) (i : Nat) (hi : i < n) (ha : 0 < l.getD i 0) (hl : last < (i : Int)) (hno : ∀ j, j < i → last < (j : Int) → ¬ 0 < l.getD j 0) :
    ((alive l n).find? fun (i : Nat) => decide (last < (i : Int))) = some i := by
  unfold alive
  rw [List.find?_filter, List.find?_range_eq_some]
  refine ⟨?_, by simpa using hi, ?_⟩
  · simp only [Bool.and_eq_true, decide_eq_true_eq]; exact ⟨ha, hl⟩
  · intro j hj
    simp only [Bool.not_eq_true', Bool.and_eq_true, decide_eq_true_eq, Bool.and_eq_false_imp, decide_eq_false_iff_not, not_and]
    intro h1 h2
    exact hno j hj h2 h1

theorem alive_find_none (l : List Int) (n : Nat) (last : Int) (hno : ∀ j, j < n → last < (j : Int) → ¬ 0 < l.getD j 0) :
    ((alive l n).find? fun (i : Nat) => decide (last < (i : Int))) = none := by
  unfold alive
  rw [List.find?_filter, List.find?_range_eq_none]
  intro j hj
  simp only [Bool.not_eq_true', Bool.and_eq_true, decide_eq_true_eq, Bool.and_eq_false_imp, decide_eq_false_iff_not, not_and]
  intro h1 h2
  exact hno j hj h2 h1

theorem alive_head (l : List Int) (n i : Nat) (hi : i < n) (ha : 0 < l.getD i 0) (hno : ∀ j, j < i → ¬ 0 < l.getD j 0) : (alive l n).getD 0 0 = i := by
  have h : (alive l n).head? = some i := by
    unfold alive
    rw [List.head?_filter, List.find?_range_eq_some]
    exact ⟨by simpa using ha, by simpa using hi, fun j hj => by simpa using hno j hj⟩
  rw [List.getD_eq_getElem?_getD, ← List.head?_eq_getElem?, h]; rfl

theorem alive_prefix (l : List Int) (k n : Nat) (h : k ≤ n) (j : Nat) (hj : j < (alive l k).length) : (alive l n)[j]? = (alive l k)[j]? := by
  induction n with
  | zero => have : k = 0 := by omega
            subst this; rfl
  | succ n ih =>
    by_cases hk : k = n + 1
    · subst hk; rfl
    · have := ih (by omega)
      by_cases h0 : 0 < l.getD n 0
      · rw [alive_yes l n h0, List.getElem?_append_left]
        · exact this
        · rcases Nat.lt_or_ge j (alive l n).length with h1 | h1
          · exact h1
          · rw [List.getElem?_eq_none h1] at this
            rw [List.getElem?_eq_getElem hj] at this
            cases this
      · rw [alive_no l n h0]; exact this

theorem alive_at (l : List Int) (k n : Nat) (hk : k < n) (ha : 0 < l.getD k 0) : (alive l n).getD (alive l k).length 0 = k := by
  have h := alive_prefix l (k + 1) n (by omega) (alive l k).length (by rw [alive_yes l k ha]; simp)
  rw [alive_yes l k ha] at h
  rw [List.getD_eq_getElem?_getD, h]; simp

theorem alive_mono (l : List Int) (k n : Nat) (h : k ≤ n) : (alive l k).length ≤ (alive l n).length := by
  induction n with
  | zero => have : k = 0 := by omega
            subst this; exact Nat.le_refl _
  | succ n ih =>
    by_cases hk : k = n + 1
    · subst hk; exact Nat.le_refl _
    · have := ih (by omega)
      by_cases h0 : 0 < l.getD n 0
      · rw [alive_yes l n h0]; simp; omega
      · rw [alive_no l n h0]; exact this

theorem alive_some (l : List Int) (n : Nat) (h : 0 < (alive l n).length) : ∃ i, i < n ∧ 0 < l.getD i 0 := by
  obtain ⟨i, hi⟩ : ∃ i, i ∈ alive l n := List.exists_mem_of_length_pos h
  exact ⟨i, alive_lt l n i hi⟩

theorem alive_mem (l : List Int) (n i : Nat) (hi : i < n) (h : 0 < l.getD i 0) : i ∈ alive l n := by
  unfold alive; simpa using ⟨hi, h⟩

end Go.Proofs.Ytdnajckhnknlcaa

/-! slices.IndexFunc and slices.ContainsFunc at workers; the functions that are handed to them. -/
namespace Go.Proofs.Ytdnajckhnknlcaa
set_option linter.unusedVariables false
set_option linter.unusedSimpArgs false
open Go.RowKit

def idxF (f : Wk → Bool) (ws : List Wk) : Int := match ws.findIdx? f with | none => -1 | some i => i

theorem idxF_some (f : Wk → Bool) (ws : List Wk) (k : Nat) (x : Wk) (hx : ws[k]? = some x) (hno : ∀ (j : Nat) (y : Wk), j < k → ws[j]? = some y → f y = false) (hf : f x = true) : idxF f ws = k := by
  unfold idxF; rw [findIdx_take f ws k x hx hno hf]
theorem idxF_none (f : Wk → Bool) (ws : List Wk) (hno : ∀ (j : Nat) (y : Wk), ws[j]? = some y → f y = false) : idxF f ws = -1 := by
  unfold idxF; rw [findIdx_none f ws hno]
theorem idxF_neg (f : Wk → Bool) (ws : List Wk) : decide (0 ≤ idxF f ws) = ws.any f := by
  unfold idxF
  cases h : ws.findIdx? f with
  | none =>
    rw [List.findIdx?_eq_none_iff] at h
    have h2 : ws.any f = false := by rw [List.any_eq_false]; intro x hx; simp [h x hx]
    rw [h2]; rfl
  | some i =>
    have h2 : ws.any f = true := by
      rw [List.findIdx?_eq_some_iff_getElem] at h
      obtain ⟨h1, h2, _⟩ := h
      rw [List.any_eq_true]; exact ⟨_, List.getElem_mem h1, h2⟩
    rw [h2]; simp
theorem idxF_lo (f : Wk → Bool) (ws : List Wk) : -1 ≤ idxF f ws := by unfold idxF; split <;> omega

set_option maxHeartbeats 1000000 in
theorem index77 (F : Nat) (f : Wk → Bool) (hcf : ∀ w args, (callFunc F args).run Try.prog w = .ok (.enter F args) w)
    (hF : ∀ (x : Wk) W, Calls Try.prog F #[x.v] W fun e w' => e = .returned (.bool (f x)) ∧ Below W.heap.size W w')
    (p : Option Addr) (n c : Nat) (ws : List Wk) (w : World) (hx : Rd w 12 p n c (wkCells ws)) (hn : n ≤ 1000000) :
    Calls Try.prog 77 #[.slice p n c, .func (.func F) #[] #[]] w fun e w' => e = .returned (.int .i64 (idxF f ws)) ∧ Below w.heap.size w w' := by
  have hl := hx.wlen
  have HX := Lib.hid hx
  have HL := Lib.hid hl
  have HF := Lib.hid hF
  clear hx hl hF
  go_enter Try.func77, Try.ntmps77
  go_wp2_with fail
  go_loopw [8] (fun i wr => ∃ k : Nat, k ≤ n ∧ i = .int .i64 k ∧ Hid (∀ (j : Nat) (y : Wk), j < k → ws[j]? = some y → f y = false) ∧ Below w.heap.size w wr) (fun i _ => n - (intOf i).toNat)
  case atStart => exact ⟨0, Nat.zero_le _, rfl, fun j y hj => absurd hj (by omega), Below.refl _ _⟩
  case round =>
    obtain ⟨k, hk, rfl, HA, HW⟩ := hrel
    by_cases hlt : k < n
    · obtain ⟨b, off, rfl⟩ := HX.out.addr (by omega) (by decide)
      obtain ⟨x, hx⟩ : ∃ x, ws[k]? = some x := ⟨ws[k]'(by rw [HL.out]; exact hlt), by simp [HL.out, hlt]⟩
      have hc := (HX.out.ext HW).wk k x hx
      have HX1 := Lib.hid hx
      clear hx
      obtain ⟨hc1, hc2⟩ := hc
      have hc3 : ∀ j, j < 12 → wr.cell? ⟨b, off + k * 12 + j, none⟩ = (#[.int .i64 x.pc, .int .i64 x.job, .int .i64 x.r0, .int .i64 x.r1, .int .i64 x.r2, .int .i64 x.r3, .int .i64 x.r4, .int .i64 x.r5, .int .i64 x.r6, .int .i64 x.r7, .bool x.done, .int .i64 x.out] : Array Value)[j]? := hc1
      clear hc1
      obtain ⟨fx, hfx⟩ : ∃ fx, Hid (f x = fx) := ⟨_, rfl⟩
      go_wp2_with fail
      refine (HF.out x wr).mono ?_
      rintro e w2 ⟨rfl, hb2⟩
      rw [hfx.out]
      have HE := Lib.hid (ext_trans HW hb2)
      clear hb2 hc2 hc3
      cases fx
      · go_wp2_with fail
        go_roundw
        case rel =>
          refine ⟨k + 1, by omega, by go_num, fun j y hj hy => ?_, HE.out⟩
          rcases Nat.lt_succ_iff_lt_or_eq.1 hj with h | rfl
          · exact HA.out j y h hy
          · rw [HX1.out] at hy; cases hy; exact hfx.out
        case measure => simp [intOf]; omega
      · have hfin := idxF_some f ws k x HX1.out HA.out hfx.out
        have HFI := Lib.hid hfin
        clear hfin
        go_wp2_with fail
        go_ret
        exact ⟨by rw [HFI.out]; rfl, HE.out⟩
    · have hfin := idxF_none f ws (fun j y hy => HA.out j y (by have := (List.getElem?_eq_some_iff.1 hy).1; rw [HL.out] at this; omega) hy)
      have HFI := Lib.hid hfin
      clear hfin
      go_wp2_with fail
      go_ret
      exact ⟨by rw [HFI.out]; rfl, HW⟩

theorem contains65 (F : Nat) (f : Wk → Bool) (hcf : ∀ w args, (callFunc F args).run Try.prog w = .ok (.enter F args) w)
    (hF : ∀ (x : Wk) W, Calls Try.prog F #[x.v] W fun e w' => e = .returned (.bool (f x)) ∧ Below W.heap.size W w')
    (p : Option Addr) (n c : Nat) (ws : List Wk) (w : World) (hx : Rd w 12 p n c (wkCells ws)) (hn : n ≤ 1000000) :
    Calls Try.prog 65 #[.slice p n c, .func (.func F) #[] #[]] w fun e w' => e = .returned (.bool (ws.any f)) ∧ Below w.heap.size w w' := by
  have h := index77 F f hcf hF p n c ws w hx hn
  have he := idxF_neg f ws
  obtain ⟨v, hv⟩ : ∃ v, idxF f ws = v := ⟨_, rfl⟩
  rw [hv] at h he
  have H := Lib.hid h
  have HE := Lib.hid he
  clear h he hx hF hv
  go_enter Try.func65, Try.ntmps65
  go_wp2_with (go_at_call 77; go_must (refine H.out.mono ?_; rintro e w2 ⟨rfl, hb2⟩))
  go_ret
  exact ⟨by rw [← HE.out]; rfl, hb2⟩

def isSteal (x : Wk) : Bool := x.job == 5
def isOther (x : Wk) : Bool := x.job != 5
def isLeft (x : Wk) : Bool := !x.done

theorem f63 (x : Wk) (W : World) : Calls Try.prog 63 #[x.v] W fun e w' => e = .returned (.bool (isSteal x)) ∧ Below W.heap.size W w' := by
  simp only [Wk.v, Wk.cells, isSteal]
  go_enter Try.func63, Try.ntmps63
  go_wp2_with fail
  go_ret
  exact ⟨rfl, ext_alloc (Below.refl _ _) _⟩
theorem f64 (x : Wk) (W : World) : Calls Try.prog 64 #[x.v] W fun e w' => e = .returned (.bool (isOther x)) ∧ Below W.heap.size W w' := by
  simp only [Wk.v, Wk.cells, isOther]
  go_enter Try.func64, Try.ntmps64
  go_wp2_with fail
  go_ret
  exact ⟨rfl, ext_alloc (Below.refl _ _) _⟩
theorem f81 (x : Wk) (W : World) : Calls Try.prog 81 #[x.v] W fun e w' => e = .returned (.bool (isLeft x)) ∧ Below W.heap.size W w' := by
  simp only [Wk.v, Wk.cells, isLeft]
  go_enter Try.func81, Try.ntmps81
  go_wp2_with fail
  go_ret
  exact ⟨rfl, ext_alloc (Below.refl _ _) _⟩

theorem cf63 (w : World) (args : Array Value) : (callFunc 63 args).run Try.prog w = .ok (.enter 63 args) w := by kernel_rfl
theorem cf64 (w : World) (args : Array Value) : (callFunc 64 args).run Try.prog w = .ok (.enter 64 args) w := by kernel_rfl
theorem cf81 (w : World) (args : Array Value) : (callFunc 81 args).run Try.prog w = .ok (.enter 81 args) w := by kernel_rfl

end Go.Proofs.Ytdnajckhnknlcaa

/-! A crew: how many steps each has left; a copy; is one odd. -/
namespace Go.Proofs.Ytdnajckhnknlcaa
set_option linter.unusedVariables false
set_option linter.unusedSimpArgs false
open Go.RowKit

def one0 (x : Wk) : Int := if x.done then 0 else 1

/-- The words of left behind the first j thieves. -/
def leftTo (nd : Int) (all : List Wk) (m j : Nat) : List Int := nd :: ((all.take j).map one0 ++ List.replicate (m - j) 0)

theorem leftTo_step1 (nd : Int) (all : List Wk) (m j : Nat) (x : Wk) (hx : all[j]? = some x) (hm : all.length = m) (hd : x.done = false) :
    (leftTo nd all m j).set (j + 1) 1 = leftTo nd all m (j + 1) := by
  have hj := (List.getElem?_eq_some_iff.1 hx).1
  unfold leftTo
  rw [List.take_succ_eq_append_getElem hj, (List.getElem?_eq_some_iff.1 hx).2, List.set_cons_succ]
  congr 1
  rw [List.set_append_right _ _ (by simp; omega)]
  have h1 : j - ((all.take j).map one0).length = 0 := by simp; omega
  rw [h1, show m - j = (m - (j + 1)) + 1 from by omega, List.replicate_succ]
  simp [one0, hd]

theorem leftTo_step0 (nd : Int) (all : List Wk) (m j : Nat) (x : Wk) (hx : all[j]? = some x) (hm : all.length = m) (hd : x.done = true) :
    leftTo nd all m j = leftTo nd all m (j + 1) := by
  have hj := (List.getElem?_eq_some_iff.1 hx).1
  unfold leftTo
  rw [List.take_succ_eq_append_getElem hj, (List.getElem?_eq_some_iff.1 hx).2]
  rw [show m - j = (m - (j + 1)) + 1 from by omega, List.replicate_succ]
  simp [one0, hd]

theorem leftTo_end (own all : List Wk) (m : Nat) (hm : all.length = m) : leftTo (notDone own) all m m = leftF own all := by
  unfold leftTo leftF
  rw [List.take_of_length_le (by omega), Nat.sub_self]
  simp [one0]

set_option maxHeartbeats 4000000 in
theorem left67 (p q : Option Addr) (n m c d : Nat) (own all : List Wk) (w : World) (hx : Rd w 12 p n c (wkCells own)) (hy : Rd w 12 q m d (wkCells all)) (hn : n ≤ 1000) (hm : m ≤ 1000) :
    Calls Try.prog 67 #[.agg #[.slice p n c, .slice q m d]] w fun e w' => ∃ p' c', e = .returned (.slice p' (m + 1) c') ∧ Below w.heap.size w w' ∧ w'.ownsRow w.heap.size 3 1 (.slice p' (m + 1) c') (m + 1) (ints (leftF own all)) := by
  have hl := hx.wlen
  have hl' := hy.wlen
  have HX := Lib.hid hx
  have HL := Lib.hid hl
  have HY := Lib.hid hy
  have HL' := Lib.hid hl'
  clear hx hl hy hl'
  obtain ⟨i0, hi, hz0, hz1, hz2⟩ := info_parts info_3
  go_enter Try.func67, Try.ntmps67
  go_wp2_with (at_make; go_must (refine wpList_make_full _ rfl (.tmp 11) (.tmp 11) 22 rfl (w.heap.size + 1) 3 i0 (.int .i64 0) 1 Try.underlying22 hi hz0 hz1 .i64 .i64 _ _ (m + 1) rfl rfl (by omega) (by omega) (by rw [hz2]; omega) (by unfold maxLen; omega) (by simp) ?_))
  intro w1 hown hg
  have ho : w1.ownsRow (w.heap.size + 1) 3 1 (.slice (some ⟨w.heap.size + 1, 0, none⟩) (m + 1) (m + 1)) (m + 1) (ints (leftTo 0 all m 0)) := by
    have e : (madeCells #[Value.int .i64 0] ((m + 1) * 1)).toList = ints (leftTo 0 all m 0) := by
      rw [madeCells_ints]; simp [leftTo, List.replicate_succ]
    rw [← e]; simpa [Value.cells] using hown
  have hE := ext_grown (ext_alloc (Below.refl _ w) (.cells #[.slice p n c, .slice q m d] 68)) hg (by intro k hk; cases hk)
  have hB : Blk w1 w.heap.size 68 #[.slice p n c, .slice q m d] := (Blk.new w 68 _).grown hg (by simp)
  have HO := Lib.hid ho
  have HE := Lib.hid hE
  have hBc := hB.cell
  have hBl := hB.lt
  clear hown hg ho hE hi hz0 hz1 hz2
  go_wp2_with fail
  have HR0 : w1.ownsRow (w.heap.size + 1) 3 1 (.slice (some ⟨w.heap.size + 1, 0, none⟩) (m + 1) (m + 1)) (m + 1) (ints (leftTo (notDone (own.take 0)) all m 0)) := HO.out
  have HE0 := HE.out
  go_loopw [16] (fun i wr => ∃ k : Nat, k ≤ n ∧ i = .int .i64 k ∧ wr.ownsRow (w.heap.size + 1) 3 1 (.slice (some ⟨w.heap.size + 1, 0, none⟩) (m + 1) (m + 1)) (m + 1) (ints (leftTo (notDone (own.take k)) all m 0)) ∧ Below w.heap.size w wr ∧ Blk wr w.heap.size 68 #[.slice p n c, .slice q m d]) (fun i _ => n - (intOf i).toNat)
  case atStart => exact ⟨0, Nat.zero_le _, rfl, HR0, HE0, hB⟩
  case round =>
    obtain ⟨k, hk, rfl, HO2, HW, HB2⟩ := hrel
    clear HR0 HE0 hBc hBl hB
    have hnd := notDone_le (own.take k)
    rw [List.length_take] at hnd
    have hoc : wr.cell? ⟨w.heap.size + 1, 0, none⟩ = some (.int .i64 (notDone (own.take k))) := HO2.cellAt 0 (by omega)
    have hof := fun j => HO2.frozenAt j
    have hol : w.heap.size + 1 < wr.heap.size := (HO2.lt _ rfl).2
    have hbc := HB2.cell
    have hbl0 := HB2.lt
    by_cases hlt : k < n
    · obtain ⟨b, off, rfl⟩ := HX.out.addr (by omega) (by decide)
      obtain ⟨x, hx⟩ : ∃ x, own[k]? = some x := ⟨own[k]'(by rw [HL.out]; exact hlt), by simp [HL.out, hlt]⟩
      obtain ⟨hc1, hc2⟩ := (HX.out.ext HW).wk k x hx
      have hbl := (HX.out.ext HW).lt (by decide) _ rfl (by omega)
      simp only at hbl
      have HX1 := Lib.hid hx
      clear hx
      obtain ⟨pc, job, r0, r1, r2, r3, r4, r5, r6, r7, dd, o⟩ := x
      have hc3 : ∀ j, j < 12 → wr.cell? ⟨b, off + k * 12 + j, none⟩ = (#[.int .i64 pc, .int .i64 job, .int .i64 r0, .int .i64 r1, .int .i64 r2, .int .i64 r3, .int .i64 r4, .int .i64 r5, .int .i64 r6, .int .i64 r7, .bool dd, .int .i64 o] : Array Value)[j]? := hc1
      clear hc1
      cases dd
      · have hs := notDone_yes own k _ HX1.out rfl
        have HS := Lib.hid hs
        clear hs
        go_wp2_with fail
        go_roundw
        case rel =>
          refine ⟨k + 1, by omega, by go_num, ?_, ?_, ?_⟩
          · rw [HS.out]
            have h9 : ints (leftTo ((notDone (own.take k) + 1 : Nat) : Int) all m 0) = (ints (leftTo (notDone (own.take k)) all m 0)).set 0 (.int .i64 (notDone (own.take k) + 1)) := by simp [leftTo, ints]
            rw [h9]
            repeat (first | (with_reducible exact HO2) | (with_reducible refine own_alloc ?_ _) | (with_reducible refine (World.ownsRow.stored ?_ _ _).1))
          · repeat (first | (with_reducible exact HW) | (with_reducible refine ext_alloc ?_ _) | (with_reducible refine ext_set ?_ _ _ (by omega)))
          · repeat (first | (with_reducible exact HB2) | (with_reducible refine Blk.alloc ?_ _) | (with_reducible refine Blk.setOther ?_ (by simp) _))
        case measure => simp [intOf]; omega
      · have hs := notDone_no own k _ HX1.out rfl
        have HS := Lib.hid hs
        clear hs
        go_wp2_with fail
        go_roundw
        case rel =>
          refine ⟨k + 1, by omega, by go_num, ?_, ?_, ?_⟩
          · rw [HS.out]
            repeat (first | (with_reducible exact HO2) | (with_reducible refine own_alloc ?_ _) | (with_reducible refine (World.ownsRow.stored ?_ _ _).1))
          · repeat (first | (with_reducible exact HW) | (with_reducible refine ext_alloc ?_ _) | (with_reducible refine ext_set ?_ _ _ (by omega)))
          · repeat (first | (with_reducible exact HB2) | (with_reducible refine Blk.alloc ?_ _) | (with_reducible refine Blk.setOther ?_ (by simp) _))
        case measure => simp [intOf]; omega
    · have hkn : k = n := by omega
      subst hkn
      rw [List.take_of_length_le (by rw [HL.out]; exact Nat.le_refl _)] at HO2
      clear hoc hof hnd hlt
      obtain ⟨wo, rfl⟩ : ∃ wo : World, wo = wr := ⟨_, rfl⟩
      go_wp2_with fail
      go_loopw [32] (fun i wr => ∃ k : Nat, k ≤ m ∧ i = .int .i64 k ∧ wr.ownsRow (w.heap.size + 1) 3 1 (.slice (some ⟨w.heap.size + 1, 0, none⟩) (m + 1) (m + 1)) (m + 1) (ints (leftTo (notDone own) all m k)) ∧ Below w.heap.size w wr) (fun i _ => m - (intOf i).toNat)
      case atStart => exact ⟨0, Nat.zero_le _, rfl, HO2, HW⟩
      case round =>
        clear HO2 HW HB2 hbc hbl0 hol
        obtain ⟨k, hk, rfl, HO2, HW⟩ := hrel
        have hof := fun j => HO2.frozenAt j
        have hol : w.heap.size + 1 < wr.heap.size := (HO2.lt _ rfl).2
        by_cases hlt : k < m
        · obtain ⟨b, off, rfl⟩ := HY.out.addr (by omega) (by decide)
          obtain ⟨x, hx⟩ : ∃ x, all[k]? = some x := ⟨all[k]'(by rw [HL'.out]; exact hlt), by simp [HL'.out, hlt]⟩
          obtain ⟨hc1, hc2⟩ := (HY.out.ext HW).wk k x hx
          have hbl := (HY.out.ext HW).lt (by decide) _ rfl (by omega)
          simp only at hbl
          have HX1 := Lib.hid hx
          clear hx
          obtain ⟨pc, job, r0, r1, r2, r3, r4, r5, r6, r7, dd, o⟩ := x
          have hc3 : ∀ j, j < 12 → wr.cell? ⟨b, off + k * 12 + j, none⟩ = (#[.int .i64 pc, .int .i64 job, .int .i64 r0, .int .i64 r1, .int .i64 r2, .int .i64 r3, .int .i64 r4, .int .i64 r5, .int .i64 r6, .int .i64 r7, .bool dd, .int .i64 o] : Array Value)[j]? := hc1
          clear hc1
          obtain ⟨u, hu⟩ : ∃ u, (ints (leftTo (notDone own) all m k))[k + 1]? = some u := ⟨_, List.getElem?_eq_getElem (by have := HO2.1; omega)⟩
          have hoc : wr.cell? ⟨w.heap.size + 1, k + 1, none⟩ = some u := (HO2.cellAt (k + 1) (by omega)).trans hu
          clear hu
          cases dd
          · have hs := leftTo_step1 (notDone own) all m k _ HX1.out HL'.out rfl
            have HS := Lib.hid hs
            clear hs
            go_wp2_with fail
            go_roundw
            case rel =>
              refine ⟨k + 1, by omega, by go_num, ?_, ?_⟩
              · rw [← HS.out, ints_set]
                repeat (first | (with_reducible exact HO2) | (with_reducible refine own_alloc ?_ _) | (with_reducible refine (World.ownsRow.stored ?_ _ _).1))
              · repeat (first | (with_reducible exact HW) | (with_reducible refine ext_alloc ?_ _) | (with_reducible refine ext_set ?_ _ _ (by omega)))
            case measure => simp [intOf]; omega
          · have hs := leftTo_step0 (notDone own) all m k _ HX1.out HL'.out rfl
            have HS := Lib.hid hs
            clear hs
            go_wp2_with fail
            go_roundw
            case rel =>
              refine ⟨k + 1, by omega, by go_num, ?_, ?_⟩
              · rw [← HS.out]
                repeat (first | (with_reducible exact HO2) | (with_reducible refine own_alloc ?_ _) | (with_reducible refine (World.ownsRow.stored ?_ _ _).1))
              · repeat (first | (with_reducible exact HW) | (with_reducible refine ext_alloc ?_ _) | (with_reducible refine ext_set ?_ _ _ (by omega)))
            case measure => simp [intOf]; omega
        · have hkn : k = m := by omega
          subst hkn
          rw [leftTo_end own all k HL'.out] at HO2
          clear hof
          go_wp2_with fail
          go_ret
          exact ⟨_, _, rfl, HW, owns_mono HO2 (Nat.le_succ _)⟩

end Go.Proofs.Ytdnajckhnknlcaa

/-! A run of an owner and thieves, in plain Lean. -/
namespace Go.Proofs.Ytdnajckhnknlcaa
set_option linter.unusedVariables false
set_option linter.unusedSimpArgs false
open Go.RowKit

def noWk : Wk := ⟨0, 0, 0, 0, 0, 0, 0, 0, 0, 0, false, 0⟩

/-- What came of a run: the error, the words, the owner's workers, the thieves. -/
structure RunR where
  e : Int
  xs : List Int
  own : List Wk
  all : List Wk

def pickW (own all : List Wk) (i : Int) : Wk := if i = 0 then own.getD (firstF own) noWk else all.getD (i - 1).toNat noWk
def putO (own : List Wk) (i : Int) (x : Wk) : List Wk := if i = 0 then own.set (firstF own) x else own
def putT (all : List Wk) (i : Int) (x : Wk) : List Wk := if i = 0 then all else all.set (i - 1).toNat x

def runF (at_ room : Int) (picks : List Int) : Nat → List Int → List Wk → List Wk → Int → RunR
  | 0, xs, own, all, last => if nextF picks 100000 (leftF own all) last < 0 then ⟨0, xs, own, all⟩ else ⟨3, xs, own, all⟩
  | f + 1, xs, own, all, last =>
    let i := nextF picks (100000 - (f + 1)) (leftF own all) last
    if i < 0 then ⟨0, xs, own, all⟩
    else
      let s := stepF xs at_ room (pickW own all i)
      if s.e ≠ 0 then ⟨s.e, xs, own, all⟩ else runF at_ room picks f s.xs (putO own i s.x) (putT all i s.x) i

theorem nextF_mem (picks : List Int) (step : Nat) (l : List Int) (last : Int) (h : ¬ nextF picks step l last < 0) : ∃ k : Nat, nextF picks step l last = k ∧ k < l.length ∧ 0 < l.getD k 0 := by
  have key : ∀ k : Nat, k ∈ alive l l.length → k < l.length ∧ 0 < l.getD k 0 := fun k hk => alive_lt l _ k hk
  by_cases h0 : alive l l.length = []
  · exfalso; apply h; simp [nextF, h0]
  · have hpos : 0 < (alive l l.length).length := List.length_pos_iff.2 h0
    have hget : ∀ j, j < (alive l l.length).length → (alive l l.length).getD j 0 ∈ alive l l.length := by
      intro j hj
      rw [List.getD_eq_getElem?_getD, List.getElem?_eq_getElem hj]; exact List.getElem_mem hj
    by_cases hs : step < picks.length
    · have e : nextF picks step l last = ((alive l l.length).getD (pickF (picks.getD step 0) (alive l l.length).length).toNat 0 : Nat) := by
        simp only [nextF]; rw [if_neg h0, if_pos hs]
      refine ⟨_, e, key _ (hget _ ?_)⟩
      have h1 := pickF_lo (picks.getD step 0) (alive l l.length).length (by omega)
      have h2 := pickF_hi (picks.getD step 0) (alive l l.length).length (by omega)
      omega
    · have e : nextF picks step l last = ((if 0 ≤ last then ((alive l l.length).find? fun (i : Nat) => decide (last < (i : Int))).getD ((alive l l.length).getD 0 0) else (alive l l.length).getD 0 0 : Nat) : Int) := by
        simp only [nextF]; rw [if_neg h0, if_neg hs]
      refine ⟨_, e, key _ ?_⟩
      split
      · cases hf : (alive l l.length).find? fun (i : Nat) => decide (last < (i : Int)) with
        | none => exact hget 0 hpos
        | some v => exact List.mem_of_find?_eq_some hf
      · exact hget 0 hpos

theorem stepF_len (xs : List Int) (at_ room : Int) (x : Wk) : (stepF xs at_ room x).xs.length = xs.length := by
  unfold stepF
  split
  · rfl
  · split
    · rfl
    · dsimp only; split
      · rfl
      · exact doF_len _ _ _ _ _

theorem runF_len (at_ room : Int) (picks : List Int) (f : Nat) : ∀ (xs : List Int) (own all : List Wk) (last : Int),
    (runF at_ room picks f xs own all last).xs.length = xs.length ∧ (runF at_ room picks f xs own all last).own.length = own.length ∧ (runF at_ room picks f xs own all last).all.length = all.length := by
  induction f with
  | zero => intro xs own all last; unfold runF; split <;> exact ⟨rfl, rfl, rfl⟩
  | succ f ih =>
    intro xs own all last
    unfold runF
    dsimp only
    split
    · exact ⟨rfl, rfl, rfl⟩
    · split
      · exact ⟨rfl, rfl, rfl⟩
      · obtain ⟨h1, h2, h3⟩ := ih (stepF xs at_ room (pickW own all (nextF picks (100000 - (f + 1)) (leftF own all) last))).xs (putO own (nextF picks (100000 - (f + 1)) (leftF own all) last) (stepF xs at_ room (pickW own all (nextF picks (100000 - (f + 1)) (leftF own all) last))).x) (putT all (nextF picks (100000 - (f + 1)) (leftF own all) last) (stepF xs at_ room (pickW own all (nextF picks (100000 - (f + 1)) (leftF own all) last))).x) (nextF picks (100000 - (f + 1)) (leftF own all) last)
        refine ⟨by rw [h1, stepF_len], ?_, ?_⟩
        · rw [h2]; unfold putO; split <;> simp
        · rw [h3]; unfold putT; split <;> simp

theorem notDone_pos (own : List Wk) (h : 0 < notDone own) : ∃ k, own.findIdx? (fun x => !x.done) = some k ∧ k < own.length ∧ firstF own = k := by
  obtain ⟨x, hx⟩ : ∃ x, x ∈ own.filter fun x => !x.done := List.exists_mem_of_length_pos h
  rw [List.mem_filter] at hx
  cases hf : own.findIdx? (fun x => !x.done) with
  | none => rw [List.findIdx?_eq_none_iff] at hf; have := hf x hx.1; rw [hx.2] at this; cases this
  | some k =>
    refine ⟨k, rfl, ?_, by simp [firstF, hf]⟩
    rw [List.findIdx?_eq_some_iff_getElem] at hf
    exact hf.1

/-- Has one a job that is not its own, or are there too many? -/
def oddF (own all : List Wk) : Bool := decide (64 ≤ all.length) || own.any (fun x => x.job == 5) || all.any (fun x => x.job != 5)

def dRunF (at_ room : Int) (picks xs : List Int) (own all : List Wk) : RunR :=
  if oddF own all = true then ⟨1, xs, own, all⟩
  else if (runF at_ room picks 100000 xs own all (-1)).e ≠ 0 then ⟨(runF at_ room picks 100000 xs own all (-1)).e, xs, own, all⟩
  else runF at_ room picks 100000 xs own all (-1)

end Go.Proofs.Ytdnajckhnknlcaa

/-! A crew: a copy; is one odd; who makes a step. -/
namespace Go.Proofs.Ytdnajckhnknlcaa
set_option linter.unusedVariables false
set_option linter.unusedSimpArgs false
open Go.RowKit

set_option maxHeartbeats 1000000 in
theorem odd40 (p q : Option Addr) (n m c d : Nat) (own all : List Wk) (w : World) (hx : Rd w 12 p n c (wkCells own)) (hy : Rd w 12 q m d (wkCells all)) (hn : n ≤ 1000) (hm : m ≤ 1000) :
    Calls Try.prog 40 #[.agg #[.slice p n c, .slice q m d]] w fun e w' => e = .returned (.bool (oddF own all)) ∧ Below w.heap.size w w' := by
  have hl' := hy.wlen
  have HX := Lib.hid hx
  have HY := Lib.hid hy
  have hof : oddF own all = (decide (64 ≤ all.length) || own.any isSteal || all.any isOther) := rfl
  rw [hof, hl']
  clear hof
  clear hx hy hl'
  by_cases hm64 : 64 ≤ m
  · have e : decide (64 ≤ m) = true := by simpa using hm64
    rw [e]
    clear e
    go_enter Try.func40, Try.ntmps40
    go_wp2_with fail
    go_ret
    exact ⟨rfl, ext_alloc (Below.refl _ _) _⟩
  · have e : decide (64 ≤ m) = false := by simpa using hm64
    rw [e]
    clear e
    obtain ⟨b1, hb1⟩ : ∃ b, Hid (own.any isSteal = b) := ⟨_, rfl⟩
    obtain ⟨b2, hb2⟩ : ∃ b, Hid (all.any isOther = b) := ⟨_, rfl⟩
    rw [hb1.out, hb2.out]
    go_enter Try.func40, Try.ntmps40
    go_wp2_with fail
    refine (contains65 63 isSteal cf63 f63 p n c own _ (HX.out.alloc _) (by omega)).mono ?_
    rintro e w2 ⟨rfl, hb⟩
    rw [hb1.out]
    have q1 := ((Blk.new w 68 #[.slice p n c, .slice q m d]).ext hb).cell
    cases b1
    · go_wp2_with fail
      refine (contains65 64 isOther cf64 f64 q m d all _ ((HY.out.alloc _).ext hb) (by omega)).mono ?_
      rintro e w3 ⟨rfl, hb3⟩
      rw [hb2.out]
      go_wp2_with fail
      go_ret
      exact ⟨by simp; intro h; omega, ext_trans (ext_trans (ext_alloc (Below.refl _ _) _) hb) hb3⟩
    · go_wp2_with fail
      go_ret
      exact ⟨by simp, ext_trans (ext_alloc (Below.refl _ _) _) hb⟩

set_option maxHeartbeats 1000000 in
theorem at68_thief (p q : Option Addr) (n m c d : Nat) (w : World) (b off j : Nat) (hq : q = some ⟨b, off, none⟩) (hj : j < m) (hm : m ≤ 1000) :
    Calls Try.prog 68 #[.agg #[.slice p n c, .slice q m d], .int .i64 (j + 1)] w fun e w' => e = .returned (.pointer (some ⟨b, off + j * 12, none⟩)) ∧ Below w.heap.size w w' := by
  subst hq
  go_enter Try.func68, Try.ntmps68
  go_wp2_with fail
  go_ret
  exact ⟨rfl, ext_alloc (Below.refl _ _) _⟩

set_option maxHeartbeats 1000000 in
theorem at68_owner (p q : Option Addr) (n m c d : Nat) (own : List Wk) (w : World) (b off k : Nat) (hp : p = some ⟨b, off, none⟩) (hx : Rd w 12 p n c (wkCells own)) (hk : idxF isLeft own = k) (hkn : k < n) (hn : n ≤ 1000) :
    Calls Try.prog 68 #[.agg #[.slice p n c, .slice q m d], .int .i64 0] w fun e w' => e = .returned (.pointer (some ⟨b, off + k * 12, none⟩)) ∧ Below w.heap.size w w' := by
  subst hp
  have HX := Lib.hid hx
  have HK := Lib.hid hk
  clear hx hk
  go_enter Try.func68, Try.ntmps68
  go_wp2_with fail
  go_region_with (go_at_call 77; go_must (refine (index77 81 isLeft cf81 f81 _ n c own _ ?_ (by omega)).mono ?_; (· exact (HX.out.alloc _).drew); rintro e w2 ⟨rfl, hb⟩; rw [HK.out]; have q1 := (((Blk.new w 68 #[.slice (some ⟨b, off, none⟩) n c, .slice q m d]).drew).ext hb).cell))
  all_goals
    go_wp2_with fail
    go_ret
    refine ⟨rfl, ?_⟩
    repeat (first | (with_reducible exact Below.refl _ _) | (with_reducible refine ext_trans ?_ (by with_reducible assumption)) | (with_reducible apply ext_drew) | (with_reducible apply ext_alloc))

set_option maxHeartbeats 1000000 in
theorem own39 (p q : Option Addr) (n m c d : Nat) (own all : List Wk) (w : World) (hx : Rd w 12 p n c (wkCells own)) (hy : Rd w 12 q m d (wkCells all)) (hn : n ≤ 1000) (hm : m ≤ 1000) :
    Calls Try.prog 39 #[.agg #[.slice p n c, .slice q m d]] w fun e w' => ∃ p1 c1 p2 c2 B, e = .returned (.agg #[.slice p1 n c1, .slice p2 m c2]) ∧ Below w.heap.size w w' ∧
      w'.ownsRow w.heap.size 25 12 (.slice p1 n c1) n (wkCells own) ∧ w'.ownsRow B 25 12 (.slice p2 m c2) m (wkCells all) ∧ (∀ a, p1 = some a → a.block < B) ∧ w.heap.size ≤ B := by
  have HX := Lib.hid hx
  have HY := Lib.hid hy
  have H1 := Lib.hid (wk_one own)
  have H2 := Lib.hid (wk_one all)
  clear hx hy
  go_enter Try.func39, Try.ntmps39
  go_wp2_with fail
  go_region_with (first
    | (go_at_call_of 42 (Value.slice p n c); go_must (refine (clone_wk p n c (wkCells own) _ ?_ H1.out (by omega)).mono ?_; (· exact ((HX.out.alloc _).alloc _).drew); rintro e w1 ⟨p1, c1, rfl, hb1, hown1⟩; have q1 := (((Blk.new w 68 #[.slice p n c, .slice q m d]).alloc (.cells #[.slice none 0 0, .slice none 0 0] 68)).drew.ext hb1).cell; have HY1 := Lib.hid ((((HY.out.alloc (.cells #[.slice p n c, .slice q m d] 68)).alloc (.cells #[.slice none 0 0, .slice none 0 0] 68)).drew).ext hb1); have r1 := (Blk.new1 w (.cells #[.slice p n c, .slice q m d] 68) 68 #[.slice none 0 0, .slice none 0 0]).drew.ext hb1))
    | (go_at_call_of 42 (Value.slice q m d); go_must (refine (clone_wk q m d (wkCells all) _ ?_ H2.out (by omega)).mono ?_; (· exact HY1.out); rintro e w2 ⟨p2, c2, rfl, hb2, hown2⟩; have r2 := (r1.ext hb2).cell; have r3 := (r1.ext hb2).frozen; have r4 := (r1.ext hb2).lt)))
  all_goals
    go_wp2_with fail
    refine bodyPost_ret (v := .agg #[.slice p1 n c1, .slice p2 m c2]) (by simp [results, Try.results39, go_sem, r2]) rfl ⟨p1, c1, p2, c2, w1.heap.size, rfl, ?_, ?_, ?_, ?_, ?_⟩
    · repeat (first | (with_reducible exact Below.refl _ _) | (with_reducible refine ext_trans ?_ (by with_reducible assumption)) | (with_reducible refine ext_set ?_ _ _ (by omega)) | (with_reducible apply ext_drew) | (with_reducible apply ext_alloc))
    · refine owns_mono (base := w.heap.size + 2) ?_ (by omega)
      iterate 2 (with_reducible refine ownsRow_setCell_below ?_ (by simp) _)
      exact own_ext (owns_mono hown1 (by simp)) hb2
    · have := r1.lt
      iterate 2 (with_reducible refine ownsRow_setCell_below ?_ (by simp; omega) _)
      exact hown2
    · rintro a rfl
      exact (hown1.lt _ rfl).2
    · exact Nat.le_of_lt (Nat.lt_of_succ_lt r1.lt)

end Go.Proofs.Ytdnajckhnknlcaa
