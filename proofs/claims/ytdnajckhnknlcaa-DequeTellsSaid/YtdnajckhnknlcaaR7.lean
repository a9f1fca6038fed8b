/-
  The contracts of the functions that these laws reach, part 7.
-/
import Derived.Test.YtdnajckhnknlcaaR6

/-! The reference: who is next. -/
namespace Go.Proofs.Ytdnajckhnknlcaa
set_option linter.unusedVariables false
set_option linter.unusedSimpArgs false
open Go.RowKit

def Bd (xs : List Int) : Prop := ∀ i, i < xs.length → -9223372036854775808 ≤ xs.getD i 0 ∧ xs.getD i 0 ≤ 9223372036854775807

set_option maxHeartbeats 1000000 in
theorem rnext_none (p q : Option Addr) (np cp n c : Nat) (step : Nat) (last : Int) (l : List Int) (w : World) (hq : Rd w 1 q n c (ints l)) (hn : n ≤ 1000) (h0 : alive l n = []) :
    Calls Try.prog 43 #[.slice p np cp, .int .i64 step, .slice q n c, .int .i64 last] w fun e w' => e = .returned (.int .i64 (-1)) ∧ w = w' := by
  have HQ := Lib.hid hq
  have H0 := Lib.hid h0
  clear hq h0
  go_enter Try.func43, Try.ntmps43
  go_wp2_with (go_at_call 69; go_must (refine (many69 q n c l _ HQ.out (by omega)).mono ?_; rintro e w2 ⟨rfl, rfl⟩; rw [H0.out]))
  go_ret
  exact ⟨rfl, rfl⟩

set_option maxHeartbeats 2000000 in
theorem rnext_pick (p q : Option Addr) (np cp n c : Nat) (step : Nat) (last : Int) (picks l : List Int) (w : World) (hp : Rd w 1 p np cp (ints picks)) (hq : Rd w 1 q n c (ints l)) (hn : n ≤ 1000) (hbd : Bd picks) (hstep : step < np) (hs2 : step ≤ 1000000)
    (h0 : 0 < (alive l n).length) :
    Calls Try.prog 43 #[.slice p np cp, .int .i64 step, .slice q n c, .int .i64 last] w fun e w' =>
      e = .returned (.int .i64 ((alive l n).getD (pickF (picks.getD step 0) (alive l n).length).toNat 0 : Nat)) ∧ w = w' := by
  have hl : l.length = n := by have := hq.len; rw [ints_len] at this; omega
  have hlp : picks.length = np := by have := hp.len; rw [ints_len] at this; omega
  obtain ⟨b, off, rfl⟩ := hp.addr (by omega) (by decide)
  have hc := hp.cell step _ (ints_get picks step (by omega))
  obtain ⟨x, hx⟩ : ∃ x, picks.getD step 0 = x := ⟨_, rfl⟩
  have hb := hbd step (by omega)
  rw [hx] at hc hb ⊢
  have hal := alive_le l n
  obtain ⟨A, hA⟩ : ∃ A, (alive l n).length = A := ⟨_, rfl⟩
  rw [hA] at h0 hal ⊢
  obtain ⟨K, hK⟩ : ∃ K : Nat, pickF x A = K := ⟨(pickF x A).toNat, by have := pickF_lo x A (by omega); omega⟩
  have hKA : K < A := by have := pickF_hi x A (by omega); omega
  rw [hK]
  have HQ := Lib.hid hq
  have HL := Lib.hid hl
  have HA := Lib.hid hA
  have hK2 := hK
  unfold pickF at hK2
  clear hp hq hl hlp hx hA hbd
  have hz : ((A : Int) == 0) = false := by simp; omega
  rw [Int.toNat_natCast]
  by_cases hneg : x < 0
  · rw [if_pos hneg] at hK2
    have hb1 : 0 ≤ -(x + 1) := by omega
    have hb2 : -(x + 1) ≤ 9223372036854775807 := by omega
    have hm : -((x + 1).tmod A) = (K : Int) := by rw [← Int.neg_tmod, ← hK2]; exact Int.tmod_eq_emod_of_nonneg hb1
    clear hK hK2
    go_enter Try.func43, Try.ntmps43
    go_wp2_with (go_at_call 69; go_must (refine (many69 q n c l _ HQ.out (by omega)).mono ?_; rintro e w2 ⟨rfl, rfl⟩; rw [HA.out]))
    go_loop [11, 12] (fun kc i => ∃ k r : Nat, k ≤ n ∧ i = .int .i64 k ∧ kc = .int .i64 r ∧ Hid (r + (alive l k).length = K)) (fun _ i => n - (intOf i).toNat)
    case atStart => exact ⟨0, K, Nat.zero_le _, rfl, rfl, by simp [Hid, alive_zero]⟩
    case round =>
      obtain ⟨k, r, hk, rfl, rfl, HR⟩ := hrel
      by_cases hlt : k < n
      · obtain ⟨b', off', rfl⟩ := HQ.out.addr (by omega) (by decide)
        have hcl := HQ.out.cell k _ (ints_get l k (by rw [HL.out]; exact hlt))
        obtain ⟨y, hy⟩ : ∃ y, Hid (l.getD k 0 = y) := ⟨_, rfl⟩
        rw [hy.out] at hcl
        have hr1000 : r ≤ 1000 := by have := HR.out; omega
        by_cases hy0 : 0 < y
        · cases r with
          | zero =>
            have hf : (alive l n).getD K 0 = k := by
              have h1 := alive_at l k n hlt (by rw [hy.out]; exact hy0)
              have h2 := HR.out
              rw [Nat.zero_add] at h2
              rw [← h2]; exact h1
            have HF := Lib.hid hf
            clear hf
            go_wp2_with fail
            go_ret
            exact ⟨congrArg (fun (t : Nat) => Ending.returned (Value.int .i64 (t : Int))) HF.out.symm, rfl⟩
          | succ r =>
            have ha := alive_yes l k (by rw [hy.out]; exact hy0)
            have HS := Lib.hid ha
            clear ha
            have hrz : (((r : Int) + 1) == 0) = false := by simp; omega
            go_wp2_with fail
            go_round
            case rel => exact ⟨k + 1, r, by omega, by go_num, by go_num, by have := HR.out; show _ = _; rw [HS.out]; simp; omega⟩
            case measure => simp [intOf]; omega
        · have ha := alive_no l k (by rw [hy.out]; exact hy0)
          have HS := Lib.hid ha
          clear ha
          go_wp2_with fail
          go_round
          case rel => exact ⟨k + 1, r, by omega, by go_num, rfl, by have := HR.out; show _ = _; rw [HS.out]; exact this⟩
          case measure => simp [intOf]; omega
      · exfalso
        have h1 := alive_mono l k n hk
        have h2 := HR.out
        have h3 : k = n := by omega
        subst h3
        have := HA.out
        omega
  · rw [if_neg hneg] at hK2
    have hm : x.tmod A = (K : Int) := by rw [← hK2]; exact Int.tmod_eq_emod_of_nonneg (by omega)
    have hm2 : x % A = (K : Int) := hK2
    clear hK hK2
    go_enter Try.func43, Try.ntmps43
    go_wp2_with (go_at_call 69; go_must (refine (many69 q n c l _ HQ.out (by omega)).mono ?_; rintro e w2 ⟨rfl, rfl⟩; rw [HA.out]))
    go_loop [11, 12] (fun kc i => ∃ k r : Nat, k ≤ n ∧ i = .int .i64 k ∧ kc = .int .i64 r ∧ Hid (r + (alive l k).length = K)) (fun _ i => n - (intOf i).toNat)
    case atStart => exact ⟨0, K, Nat.zero_le _, rfl, rfl, by simp [Hid, alive_zero]⟩
    case round =>
      obtain ⟨k, r, hk, rfl, rfl, HR⟩ := hrel
      by_cases hlt : k < n
      · obtain ⟨b', off', rfl⟩ := HQ.out.addr (by omega) (by decide)
        have hcl := HQ.out.cell k _ (ints_get l k (by rw [HL.out]; exact hlt))
        obtain ⟨y, hy⟩ : ∃ y, Hid (l.getD k 0 = y) := ⟨_, rfl⟩
        rw [hy.out] at hcl
        have hr1000 : r ≤ 1000 := by have := HR.out; omega
        by_cases hy0 : 0 < y
        · cases r with
          | zero =>
            have hf : (alive l n).getD K 0 = k := by
              have h1 := alive_at l k n hlt (by rw [hy.out]; exact hy0)
              have h2 := HR.out
              rw [Nat.zero_add] at h2
              rw [← h2]; exact h1
            have HF := Lib.hid hf
            clear hf
            go_wp2_with fail
            go_ret
            exact ⟨congrArg (fun (t : Nat) => Ending.returned (Value.int .i64 (t : Int))) HF.out.symm, rfl⟩
          | succ r =>
            have ha := alive_yes l k (by rw [hy.out]; exact hy0)
            have HS := Lib.hid ha
            clear ha
            have hrz : (((r : Int) + 1) == 0) = false := by simp; omega
            go_wp2_with fail
            go_round
            case rel => exact ⟨k + 1, r, by omega, by go_num, by go_num, by have := HR.out; show _ = _; rw [HS.out]; simp; omega⟩
            case measure => simp [intOf]; omega
        · have ha := alive_no l k (by rw [hy.out]; exact hy0)
          have HS := Lib.hid ha
          clear ha
          go_wp2_with fail
          go_round
          case rel => exact ⟨k + 1, r, by omega, by go_num, rfl, by have := HR.out; show _ = _; rw [HS.out]; exact this⟩
          case measure => simp [intOf]; omega
      · exfalso
        have h1 := alive_mono l k n hk
        have h2 := HR.out
        have h3 : k = n := by omega
        subst h3
        have := HA.out
        omega

theorem mod_one (f i n : Nat) (h : f + i < n) : (f + i) % n = f + i := Nat.mod_eq_of_lt h
theorem mod_two (f i n : Nat) (h : n ≤ f + i) (h2 : f + i < 2 * n) : (f + i) % n = f + i - n := by
  rw [Nat.mod_eq_sub_mod h]; exact Nat.mod_eq_of_lt (by omega)

set_option maxHeartbeats 2000000 in
/-- .. behind the picks. -/
theorem rnext_turn (p q : Option Addr) (np cp n c : Nat) (step : Nat) (last : Int) (l : List Int) (w : World) (hq : Rd w 1 q n c (ints l)) (hn : n ≤ 1000) (hstep : np ≤ step) (hs2 : step ≤ 1000000)
    (hl0 : -1 ≤ last) (hl1 : last ≤ 100000) (h0 : 0 < (alive l n).length) (from_ : Nat) (hf : (from_ : Int) = if 0 ≤ last ∧ last < n then last + 1 else 0) (v : Nat)
    (hv : ∀ i : Nat, i < n + n → 0 < l.getD ((from_ + i) % n) 0 → (∀ j, j < i → ¬ 0 < l.getD ((from_ + j) % n) 0) → (from_ + i) % n = v) :
    Calls Try.prog 43 #[.slice p np cp, .int .i64 step, .slice q n c, .int .i64 last] w fun e w' => e = .returned (.int .i64 v) ∧ w = w' := by
  have hl : l.length = n := by have := hq.len; rw [ints_len] at this; omega
  have hn0 : 0 < n := by have := alive_le l n; omega
  have hfn : from_ ≤ n := by split at hf <;> omega
  obtain ⟨i0, hi0, ha0⟩ := alive_some l n h0
  obtain ⟨A, hA⟩ : ∃ A, (alive l n).length = A := ⟨_, rfl⟩
  rw [hA] at h0
  have hal : A ≤ n := by rw [← hA]; exact alive_le l n
  have hz : ((A : Int) == 0) = false := by simp; omega
  have hex : ∃ i, i < n + n ∧ (from_ + i) % n = i0 := by
    by_cases h : from_ ≤ i0
    · exact ⟨i0 - from_, by omega, by rw [mod_one _ _ _ (by omega)]; omega⟩
    · exact ⟨n + i0 - from_, by omega, by rw [mod_two _ _ _ (by omega) (by omega)]; omega⟩
  have HQ := Lib.hid hq
  have HL := Lib.hid hl
  have HA := Lib.hid hA
  have HV := Lib.hid hv
  have HE := Lib.hid hex
  have H0 := Lib.hid ha0
  clear hq hl hA hv hex ha0
  by_cases hc : 0 ≤ last ∧ last < n
  · rw [if_pos hc] at hf
    obtain ⟨hc1, hc2⟩ := hc
    obtain ⟨la, rfl⟩ := Int.eq_ofNat_of_zero_le hc1
    have hf2 : from_ = la + 1 := by omega
    subst hf2
    clear hf hc1
    go_enter Try.func43, Try.ntmps43
    go_wp2_with (go_at_call 69; go_must (refine (many69 q n c l _ HQ.out (by omega)).mono ?_; rintro e w2 ⟨rfl, rfl⟩; rw [HA.out]))
    go_loop [14] (fun v14 => ∃ i : Nat, i ≤ n + n ∧ v14 = .int .i64 i ∧ Hid (∀ j, j < i → ¬ 0 < l.getD ((la + 1 + j) % n) 0)) (fun v14 => n + n - (intOf v14).toNat)
    case atStart => exact ⟨0, Nat.zero_le _, rfl, fun j hj => absurd hj (by omega)⟩
    case round =>
      obtain ⟨i, hi, rfl, HN⟩ := hrel
      have hlt : i < n + n := by
        obtain ⟨i1, h1, h2⟩ := HE.out
        rcases Nat.lt_or_ge i1 i with h3 | h3
        · exact absurd (by rw [h2]; exact H0.out) (HN.out i1 h3)
        · omega
      obtain ⟨k, hk⟩ : ∃ k, (la + 1 + i) % n = k := ⟨_, rfl⟩
      have hkn : k < n := by rw [← hk]; exact Nat.mod_lt _ hn0
      have hkI : ((la : Int) + 1 + (i : Int)) % (n : Int) = (k : Int) := by rw [← hk]; simp
      have hkT : (((la : Int) + 1 + (i : Int))).tmod (n : Int) = (k : Int) := by rw [Int.tmod_eq_emod_of_nonneg (by omega)]; exact hkI
      have HK := Lib.hid hk
      clear hk
      obtain ⟨b', off', rfl⟩ := HQ.out.addr (by omega) (by decide)
      have hcl := HQ.out.cell k _ (ints_get l k (by rw [HL.out]; exact hkn))
      obtain ⟨y, hy⟩ : ∃ y, Hid (l.getD k 0 = y) := ⟨_, rfl⟩
      rw [hy.out] at hcl
      by_cases hy0 : 0 < y
      · have hfin : k = v := by rw [← HK.out]; exact HV.out i hlt (by rw [HK.out, hy.out]; exact hy0) (fun j hj => by have h9 := HN.out j hj; omega)
        have HF := Lib.hid hfin
        clear hfin
        go_wp2_with fail
        go_ret
        exact ⟨congrArg (fun (t : Nat) => Ending.returned (Value.int .i64 (t : Int))) HF.out, rfl⟩
      · go_wp2_with fail
        go_round
        case rel =>
          refine ⟨i + 1, by omega, by go_num, fun j hj => ?_⟩
          rcases Nat.lt_succ_iff_lt_or_eq.1 hj with h | rfl
          · exact HN.out j h
          · rw [HK.out, hy.out]; exact hy0
        case measure => simp [intOf]; omega
  · rw [if_neg hc] at hf
    have hf2 : from_ = 0 := by omega
    subst hf2
    clear hf
    by_cases hc1 : 0 ≤ last
    · have hc2 : ¬ last < n := fun h => hc ⟨hc1, h⟩
      clear hc
      go_enter Try.func43, Try.ntmps43
      go_wp2_with (go_at_call 69; go_must (refine (many69 q n c l _ HQ.out (by omega)).mono ?_; rintro e w2 ⟨rfl, rfl⟩; rw [HA.out]))
      go_loop [14] (fun v14 => ∃ i : Nat, i ≤ n + n ∧ v14 = .int .i64 i ∧ Hid (∀ j, j < i → ¬ 0 < l.getD ((0 + j) % n) 0)) (fun v14 => n + n - (intOf v14).toNat)
      case atStart => exact ⟨0, Nat.zero_le _, rfl, fun j hj => absurd hj (by omega)⟩
      case round =>
        obtain ⟨i, hi, rfl, HN⟩ := hrel
        have hlt : i < n + n := by
          obtain ⟨i1, h1, h2⟩ := HE.out
          rcases Nat.lt_or_ge i1 i with h3 | h3
          · exact absurd (by rw [h2]; exact H0.out) (HN.out i1 h3)
          · omega
        obtain ⟨k, hk⟩ : ∃ k, (0 + i) % n = k := ⟨_, rfl⟩
        have hkn : k < n := by rw [← hk]; exact Nat.mod_lt _ hn0
        have hkI : ((i : Int)) % (n : Int) = (k : Int) := by rw [← hk]; simp
        have hkT : (((i : Int))).tmod (n : Int) = (k : Int) := by rw [Int.tmod_eq_emod_of_nonneg (by omega)]; exact hkI
        have HK := Lib.hid hk
        clear hk
        obtain ⟨b', off', rfl⟩ := HQ.out.addr (by omega) (by decide)
        have hcl := HQ.out.cell k _ (ints_get l k (by rw [HL.out]; exact hkn))
        obtain ⟨y, hy⟩ : ∃ y, Hid (l.getD k 0 = y) := ⟨_, rfl⟩
        rw [hy.out] at hcl
        by_cases hy0 : 0 < y
        · have hfin : k = v := by rw [← HK.out]; exact HV.out i hlt (by rw [HK.out, hy.out]; exact hy0) (fun j hj => by have h9 := HN.out j hj; omega)
          have HF := Lib.hid hfin
          clear hfin
          go_wp2_with fail
          go_ret
          exact ⟨congrArg (fun (t : Nat) => Ending.returned (Value.int .i64 (t : Int))) HF.out, rfl⟩
        · go_wp2_with fail
          go_round
          case rel =>
            refine ⟨i + 1, by omega, by go_num, fun j hj => ?_⟩
            rcases Nat.lt_succ_iff_lt_or_eq.1 hj with h | rfl
            · exact HN.out j h
            · rw [HK.out, hy.out]; exact hy0
          case measure => simp [intOf]; omega
    · clear hc
      go_enter Try.func43, Try.ntmps43
      go_wp2_with (go_at_call 69; go_must (refine (many69 q n c l _ HQ.out (by omega)).mono ?_; rintro e w2 ⟨rfl, rfl⟩; rw [HA.out]))
      go_loop [14] (fun v14 => ∃ i : Nat, i ≤ n + n ∧ v14 = .int .i64 i ∧ Hid (∀ j, j < i → ¬ 0 < l.getD ((0 + j) % n) 0)) (fun v14 => n + n - (intOf v14).toNat)
      case atStart => exact ⟨0, Nat.zero_le _, rfl, fun j hj => absurd hj (by omega)⟩
      case round =>
        obtain ⟨i, hi, rfl, HN⟩ := hrel
        have hlt : i < n + n := by
          obtain ⟨i1, h1, h2⟩ := HE.out
          rcases Nat.lt_or_ge i1 i with h3 | h3
          · exact absurd (by rw [h2]; exact H0.out) (HN.out i1 h3)
          · omega
        obtain ⟨k, hk⟩ : ∃ k, (0 + i) % n = k := ⟨_, rfl⟩
        have hkn : k < n := by rw [← hk]; exact Nat.mod_lt _ hn0
        have hkI : ((i : Int)) % (n : Int) = (k : Int) := by rw [← hk]; simp
        have hkT : (((i : Int))).tmod (n : Int) = (k : Int) := by rw [Int.tmod_eq_emod_of_nonneg (by omega)]; exact hkI
        have HK := Lib.hid hk
        clear hk
        obtain ⟨b', off', rfl⟩ := HQ.out.addr (by omega) (by decide)
        have hcl := HQ.out.cell k _ (ints_get l k (by rw [HL.out]; exact hkn))
        obtain ⟨y, hy⟩ : ∃ y, Hid (l.getD k 0 = y) := ⟨_, rfl⟩
        rw [hy.out] at hcl
        by_cases hy0 : 0 < y
        · have hfin : k = v := by rw [← HK.out]; exact HV.out i hlt (by rw [HK.out, hy.out]; exact hy0) (fun j hj => by have h9 := HN.out j hj; omega)
          have HF := Lib.hid hfin
          clear hfin
          go_wp2_with fail
          go_ret
          exact ⟨congrArg (fun (t : Nat) => Ending.returned (Value.int .i64 (t : Int))) HF.out, rfl⟩
        · go_wp2_with fail
          go_round
          case rel =>
            refine ⟨i + 1, by omega, by go_num, fun j hj => ?_⟩
            rcases Nat.lt_succ_iff_lt_or_eq.1 hj with h | rfl
            · exact HN.out j h
            · rw [HK.out, hy.out]; exact hy0
          case measure => simp [intOf]; omega

/-- Who is next, in the reference. -/
theorem rnext_any (p q : Option Addr) (np cp n c : Nat) (step : Nat) (last : Int) (picks l : List Int) (w : World) (hp : Rd w 1 p np cp (ints picks)) (hq : Rd w 1 q n c (ints l)) (hn : n ≤ 1000) (hbd : Bd picks) (hs2 : step ≤ 1000000)
    (hl0 : -1 ≤ last) (hl1 : last ≤ 100000) :
    Calls Try.prog 43 #[.slice p np cp, .int .i64 step, .slice q n c, .int .i64 last] w fun e w' => e = .returned (.int .i64 (nextF picks step l last)) ∧ w = w' := by
  have hl : l.length = n := by have := hq.len; rw [ints_len] at this; omega
  have hlp : picks.length = np := by have := hp.len; rw [ints_len] at this; omega
  by_cases h0 : alive l n = []
  · have e : nextF picks step l last = -1 := by simp [nextF, hl, h0]
    rw [e]
    exact rnext_none p q np cp n c step last l w hq hn h0
  · have hpos : 0 < (alive l n).length := List.length_pos_iff.2 h0
    by_cases hst : step < np
    · have e : nextF picks step l last = ((alive l n).getD (pickF (picks.getD step 0) (alive l n).length).toNat 0 : Nat) := by
        simp only [nextF, hl]; rw [if_neg h0, if_pos (by omega)]
      rw [e]
      exact rnext_pick p q np cp n c step last picks l w hp hq hn hbd hst hs2 hpos
    · have e : nextF picks step l last = ((if 0 ≤ last then ((alive l n).find? fun (i : Nat) => decide (last < (i : Int))).getD ((alive l n).getD 0 0) else (alive l n).getD 0 0 : Nat) : Int) := by
        simp only [nextF, hl]; rw [if_neg h0, if_neg (by omega)]
      rw [e]
      have hn0 : 0 < n := by have := alive_le l n; omega
      by_cases hc : 0 ≤ last ∧ last < n
      · obtain ⟨la, rfl⟩ := Int.eq_ofNat_of_zero_le hc.1
        rw [if_pos hc.1]
        refine rnext_turn p q np cp n c step la l w hq hn (by omega) hs2 hl0 hl1 hpos (la + 1) (by rw [if_pos hc]; simp) _ ?_
        intro i hi hy hno
        by_cases hw : la + 1 + i < n
        · rw [mod_one _ _ _ hw] at hy ⊢
          rw [alive_find l n la (la + 1 + i) hw hy (by omega) (fun j hj hlj => ?_)]
          · rfl
          · have := hno (j - (la + 1)) (by omega)
            rw [mod_one _ _ _ (by omega)] at this
            rwa [show la + 1 + (j - (la + 1)) = j from by omega] at this
        · have hno1 : ∀ j, j < n → (la : Int) < (j : Int) → ¬ 0 < l.getD j 0 := by
            intro j hj hlj
            have := hno (j - (la + 1)) (by omega)
            rw [mod_one _ _ _ (by omega)] at this
            rwa [show la + 1 + (j - (la + 1)) = j from by omega] at this
          rw [alive_find_none l n la hno1, Option.getD_none]
          have hi2 : la + 1 + i < 2 * n := by
            rcases Nat.lt_or_ge (la + 1 + i) (2 * n) with h | h
            · exact h
            · exfalso
              obtain ⟨i0, hi0, ha0⟩ := alive_some l n hpos
              have h1 : i0 ≤ la := by
                rcases Nat.lt_or_ge la i0 with h2 | h2
                · exact absurd ha0 (hno1 i0 hi0 (by omega))
                · exact h2
              have := hno (n + i0 - (la + 1)) (by omega)
              rw [mod_two _ _ _ (by omega) (by omega)] at this
              rw [show la + 1 + (n + i0 - (la + 1)) - n = i0 from by omega] at this
              exact this ha0
          rw [mod_two _ _ _ (by omega) hi2] at hy ⊢
          rw [alive_head l n (la + 1 + i - n) (by omega) hy]
          intro j hj
          have := hno (n + j - (la + 1)) (by omega)
          rw [mod_two _ _ _ (by omega) (by omega)] at this
          rwa [show la + 1 + (n + j - (la + 1)) - n = j from by omega] at this
      · have hv : (if 0 ≤ last then ((alive l n).find? fun (i : Nat) => decide (last < (i : Int))).getD ((alive l n).getD 0 0) else (alive l n).getD 0 0 : Nat) = (alive l n).getD 0 0 := by
          split
          · rw [alive_find_none l n last (fun j hj hlj => by omega)]; rfl
          · rfl
        rw [hv]
        refine rnext_turn p q np cp n c step last l w hq hn (by omega) hs2 hl0 hl1 hpos 0 (by rw [if_neg hc]; rfl) _ ?_
        intro i hi hy hno
        have hin : i < n := by
          rcases Nat.lt_or_ge i n with h | h
          · exact h
          · exfalso
            obtain ⟨i0, hi0, ha0⟩ := alive_some l n hpos
            have := hno i0 (by omega)
            rw [mod_one _ _ _ (by omega), Nat.zero_add] at this
            exact this ha0
        rw [mod_one _ _ _ (by omega), Nat.zero_add] at hy ⊢
        rw [alive_head l n i hin hy]
        intro j hj
        have := hno j hj
        rwa [mod_one _ _ _ (by omega), Nat.zero_add] at this

end Go.Proofs.Ytdnajckhnknlcaa

/-! The program: who is next. -/
namespace Go.Proofs.Ytdnajckhnknlcaa
set_option linter.unusedVariables false
set_option linter.unusedSimpArgs false
open Go.RowKit

def natInts (l : List Nat) : List Int := l.map fun (i : Nat) => (i : Int)

theorem f80 (x la : Int) (a : Addr) (W : World) (hc : W.cell? a = some (.int .i64 la)) : Calls Try.prog 80 #[.int .i64 x, .pointer (some a)] W fun e w' => e = .returned (.bool (decide (la < x))) ∧ W = w' := by
  go_enter Try.func80, Try.ntmps80
  go_wp2_with fail
  go_ret
  exact ⟨rfl, rfl⟩

/-- The place of the first that lies behind la; -1: there is none. -/
def idxI (la : Int) (xs : List Int) : Int := match xs.findIdx? (fun x => decide (la < x)) with | none => -1 | some i => i

theorem findIdxI_take (f : Int → Bool) (ws : List Int) (k : Nat) (x : Int) (hx : ws[k]? = some x) (hno : ∀ (j : Nat) (y : Int), j < k → ws[j]? = some y → f y = false) (hf : f x = true) : ws.findIdx? f = some k := by
  induction ws generalizing k with
  | nil => simp at hx
  | cons a r ih =>
    cases k with
    | zero => simp at hx; subst hx; simp [List.findIdx?_cons, hf]
    | succ k =>
      have h0 := hno 0 a (by omega) (by simp)
      rw [List.findIdx?_cons, h0]
      have := ih k (by simpa using hx) (fun j y hj hy => hno (j + 1) y (by omega) (by simpa using hy))
      simp [this]
theorem findIdxI_none (f : Int → Bool) (ws : List Int) (hno : ∀ (j : Nat) (y : Int), ws[j]? = some y → f y = false) : ws.findIdx? f = none := by
  rw [List.findIdx?_eq_none_iff]
  intro x hx
  obtain ⟨j, hj⟩ := List.getElem?_of_mem hx
  exact hno j x hj

set_option maxHeartbeats 1000000 in
theorem index79 (la : Int) (a : Addr) (p : Option Addr) (n c : Nat) (xs : List Int) (w : World) (ha : w.cell? a = some (.int .i64 la)) (hx : Rd w 1 p n c (ints xs)) (hn : n ≤ 1000000) :
    Calls Try.prog 79 #[.slice p n c, .func (.func 80) #[] #[.pointer (some a)]] w fun e w' => e = .returned (.int .i64 (idxI la xs)) ∧ w = w' := by
  have hl : xs.length = n := by have := hx.len; rw [ints_len] at this; omega
  have HX := Lib.hid hx
  have HL := Lib.hid hl
  clear hx hl
  go_enter Try.func79, Try.ntmps79
  go_wp2_with fail
  go_loop [8] (fun i => ∃ k : Nat, k ≤ n ∧ i = .int .i64 k ∧ Hid (∀ (j : Nat) (y : Int), j < k → xs[j]? = some y → decide (la < y) = false)) (fun i => n - (intOf i).toNat)
  case atStart => exact ⟨0, Nat.zero_le _, rfl, fun j y hj => absurd hj (by omega)⟩
  case round =>
    obtain ⟨k, hk, rfl, HA⟩ := hrel
    by_cases hlt : k < n
    · obtain ⟨b, off, rfl⟩ := HX.out.addr (by omega) (by decide)
      have hc := HX.out.cell k _ (ints_get xs k (by rw [HL.out]; exact hlt))
      obtain ⟨x, hx⟩ : ∃ x, Hid (xs.getD k 0 = x) := ⟨_, rfl⟩
      rw [hx.out] at hc
      have hx1 : xs[k]? = some x := by rw [← hx.out]; simp [List.getD, HL.out, hlt]
      have HX1 := Lib.hid hx1
      clear hx1
      by_cases hlx : la < x
      · have hfin : idxI la xs = k := by unfold idxI; rw [findIdxI_take _ xs k x HX1.out HA.out (by simpa using hlx)]
        have HF := Lib.hid hfin
        have hd : decide (la < x) = true := by simpa using hlx
        clear hfin hlx
        go_wp2_with (go_at_call 80; go_must (refine (f80 x la a _ ha).mono ?_; rintro e w2 ⟨rfl, rfl⟩; rw [hd]))
        go_ret
        exact ⟨by rw [HF.out]; rfl, rfl⟩
      · have hd : decide (la < x) = false := by simpa using hlx
        have HD := Lib.hid hd
        clear hlx
        go_wp2_with (go_at_call 80; go_must (refine (f80 x la a _ ha).mono ?_; rintro e w2 ⟨rfl, rfl⟩; rw [hd]))
        go_round
        case rel =>
          refine ⟨k + 1, by omega, by go_num, fun j y hj hy => ?_⟩
          rcases Nat.lt_succ_iff_lt_or_eq.1 hj with h | rfl
          · exact HA.out j y h hy
          · rw [HX1.out] at hy; cases hy; exact HD.out
        case measure => simp [intOf]; omega
    · have hfin : idxI la xs = -1 := by
        unfold idxI
        rw [findIdxI_none _ xs (fun j y hy => HA.out j y (by have := (List.getElem?_eq_some_iff.1 hy).1; rw [HL.out] at this; omega) hy)]
      have HF := Lib.hid hfin
      clear hfin
      go_wp2_with fail
      go_ret
      exact ⟨by rw [HF.out]; rfl, rfl⟩

end Go.Proofs.Ytdnajckhnknlcaa

/-! The program: who is next. -/
namespace Go.Proofs.Ytdnajckhnknlcaa
set_option linter.unusedVariables false
set_option linter.unusedSimpArgs false
open Go.RowKit

theorem find_of_findIdx (p : Nat → Bool) (l : List Nat) : l.find? p = (l.findIdx? p).bind fun i => l[i]? := by
  induction l with
  | nil => rfl
  | cons a r ih =>
    rw [List.find?_cons, List.findIdx?_cons]
    cases h : p a with
    | true => simp
    | false => simp only [Bool.false_eq_true, if_false]; rw [ih]; cases r.findIdx? p <;> simp

theorem idxI_nat (la : Int) (al : List Nat) : idxI la (natInts al) = match al.findIdx? (fun (i : Nat) => decide (la < (i : Int))) with | none => -1 | some i => (i : Int) := by
  unfold idxI natInts
  rw [List.findIdx?_map]; rfl

theorem natInts_len (l : List Nat) : (natInts l).length = l.length := by simp [natInts]
theorem natInts_getD (l : List Nat) (i : Nat) : (natInts l).getD i 0 = (l.getD i 0 : Nat) := by
  simp only [natInts, List.getD_eq_getElem?_getD, List.getElem?_map]
  cases l[i]? <;> rfl

theorem nextF_pick (picks : List Int) (step : Nat) (l : List Int) (last : Int) (n : Nat) (hl : l.length = n) (h0 : 0 < (alive l n).length) (hs : step < picks.length) :
    nextF picks step l last = ((alive l n).getD (pickF (picks.getD step 0) (alive l n).length).toNat 0 : Nat) := by
  simp only [nextF, hl]; rw [if_neg (by intro h; rw [h] at h0; simp at h0), if_pos hs]
theorem nextF_turn (picks : List Int) (step : Nat) (l : List Int) (last : Int) (n : Nat) (hl : l.length = n) (h0 : 0 < (alive l n).length) (hs : ¬ step < picks.length) :
    nextF picks step l last = ((if 0 ≤ last then ((alive l n).find? fun (i : Nat) => decide (last < (i : Int))).getD ((alive l n).getD 0 0) else (alive l n).getD 0 0 : Nat) : Int) := by
  simp only [nextF, hl]; rw [if_neg (by intro h; rw [h] at h0; simp at h0), if_neg hs]

set_option maxHeartbeats 4000000 in
theorem next66 (p q : Option Addr) (np cp n c : Nat) (step : Nat) (last : Int) (picks l : List Int) (w : World) (hp : Rd w 1 p np cp (ints picks)) (hq : Rd w 1 q n c (ints l)) (hn : n ≤ 1000) (hbd : Bd picks) (hs2 : step ≤ 1000000) :
    Calls Try.prog 66 #[.slice p np cp, .int .i64 step, .slice q n c, .int .i64 last] w fun e w' => e = .returned (.int .i64 (nextF picks step l last)) ∧ Below w.heap.size w w' := by
  have hl : l.length = n := by have := hq.len; rw [ints_len] at this; omega
  have hlp : picks.length = np := by have := hp.len; rw [ints_len] at this; omega
  have HP := Lib.hid hp
  have HQ := Lib.hid hq
  have HL := Lib.hid hl
  have HLP := Lib.hid hlp
  have HBD := Lib.hid hbd
  clear hp hq hl hlp hbd
  go_enter Try.func66, Try.ntmps66
  go_wp2_with fail
  go_loopw [9, 15] (fun v i wr => ∃ k : Nat, k ≤ n ∧ i = .int .i64 k ∧ wr.ownsRow (w.heap.size + 1) 3 1 v (alive l k).length (ints (natInts (alive l k))) ∧ Below w.heap.size w wr ∧ Blk wr w.heap.size 3 #[.int .i64 last]) (fun _ i _ => n - (intOf i).toNat)
  case atStart => exact ⟨0, Nat.zero_le _, rfl, World.ownsRow_nil _ _ _ _, ext_alloc (Below.refl _ _) _, Blk.new w 3 _⟩
  case round =>
    obtain ⟨k, hk, rfl, HO, HW, HB⟩ := hrel
    have hal := alive_le l k
    by_cases hlt : k < n
    · obtain ⟨b, off, rfl⟩ := HQ.out.addr (by omega) (by decide)
      have hc := (HQ.out.ext HW).cell k _ (ints_get l k (by rw [HL.out]; exact hlt))
      obtain ⟨x, hx⟩ : ∃ x, Hid (l.getD k 0 = x) := ⟨_, rfl⟩
      rw [hx.out] at hc
      by_cases h0 : 0 < x
      · have ha := alive_yes l k (by rw [hx.out]; exact h0)
        have HA := Lib.hid ha
        clear ha
        go_wp2_with (at_builtin; go_must (refine wpList_append_rd _ rfl (.tmp 22) (.tmp 24) 22 rfl (w.heap.size + 1) 3 (.int .i64 0) 1 8 Try.underlying22 info_3 rfl (by decide) _ (alive l k).length _ rfl (HO.alloc _) (some ⟨wr.heap.size, 0, none⟩) 1 1 [.int .i64 k] rfl (rd_one wr 3 _) (by simp [Value.oneCell']) (by unfold maxLen; omega) (by omega) (by have := HB.lt; simp; omega) ?_))
        intro v' w1 hown1 hg1 hat
        have HE := Lib.hid (owns_grown (HO.alloc (.cells #[.int .i64 k] 3)) (ext_alloc HW _) hg1 (by omega) (by have := HW.size; simp; omega))
        have HO3 := Lib.hid hown1
        have hB3 : Blk w1 w.heap.size 3 #[.int .i64 last] := (HB.alloc _).grown hg1 (by intro e; have := (HO.lt _ e.symm).1; omega)
        have HB3 := Lib.hid hB3
        clear hown1 hg1 hB3 hat
        go_wp2_with fail
        go_roundw
        case rel => exact ⟨k + 1, by omega, by go_num, by rw [HA.out]; have := HO3.out; simpa [ints, natInts] using this, HE.out, HB3.out⟩
        case measure => simp [intOf]; omega
      · have ha := alive_no l k (by rw [hx.out]; exact h0)
        have HA := Lib.hid ha
        clear ha
        go_wp2_with fail
        go_roundw
        case rel => exact ⟨k + 1, by omega, by go_num, by rw [HA.out]; exact HO, HW, HB⟩
        case measure => simp [intOf]; omega
    · have hkn : k = n := by omega
      subst hkn
      obtain ⟨p', c', rfl, hR, _⟩ := Rd.of_owns HO
      have hbc : wr.cell? ⟨w.heap.size, 0, none⟩ = some (.int .i64 last) := HB.cell 0
      have hR2 := Lib.hid hR
      clear hR HO hlt
      obtain ⟨al, hal2⟩ : ∃ al, Hid (alive l k = al) := ⟨_, rfl⟩
      rw [hal2.out] at hR2 hal ⊢
      by_cases hA0 : al.length = 0
      · have hz : ((al.length : Int) == 0) = true := by simp [hA0]
        have hfin : nextF picks step l last = -1 := by simp only [nextF, HL.out, hal2.out]; rw [if_pos (List.eq_nil_of_length_eq_zero hA0)]
        have HF := Lib.hid hfin
        clear hfin hA0
        go_wp2_with fail
        go_ret
        exact ⟨by rw [HF.out]; rfl, HW⟩
      · have hz : ((al.length : Int) == 0) = false := by simp; intro h; exact hA0 (by rw [h]; rfl)
        obtain ⟨g, goff, rfl⟩ := hR2.out.addr (by omega) (by decide)
        by_cases hst : step < np
        · have hfin := nextF_pick picks step l last k HL.out (by rw [hal2.out]; omega) (by rw [HLP.out]; exact hst)
          obtain ⟨b, off, rfl⟩ := HP.out.addr (by omega) (by decide)
          have hcp := (HP.out.ext HW).cell step _ (ints_get picks step (by rw [HLP.out]; exact hst))
          have hb := HBD.out step (by rw [HLP.out]; exact hst)
          obtain ⟨x, hx⟩ : ∃ x, picks.getD step 0 = x := ⟨_, rfl⟩
          rw [hx] at hcp hb hfin
          rw [hal2.out] at hfin
          obtain ⟨K, hK⟩ : ∃ K : Nat, pickF x al.length = K := ⟨(pickF x al.length).toNat, by have := pickF_lo x al.length (by omega); omega⟩
          have hKA : K < al.length := by have := pickF_hi x al.length (by omega); omega
          rw [hK, Int.toNat_natCast] at hfin
          have hcg := hR2.out.cell K _ (ints_get (natInts al) K (by rw [natInts_len]; exact hKA))
          rw [natInts_getD] at hcg
          obtain ⟨v, hv⟩ : ∃ v : Nat, al.getD K 0 = v := ⟨_, rfl⟩
          rw [hv] at hfin hcg
          have HF := Lib.hid hfin
          clear hfin hx hv
          have HPL := Lib.hid (fun W => place78 x al.length W hb.1 hb.2 (by omega) (by omega))
          have HK := Lib.hid hK
          clear hK hA0
          go_wp2_with (go_at_call 78; go_must (refine (HPL.out _).mono ?_; rintro e w2 ⟨rfl, rfl⟩; rw [HK.out]))
          go_ret
          exact ⟨by rw [HF.out]; rfl, HW⟩
        · have hfin := nextF_turn picks step l last k HL.out (by rw [hal2.out]; omega) (by rw [HLP.out]; exact hst)
          rw [hal2.out, find_of_findIdx] at hfin
          have hidx := idxI_nat last al
          have hpos : 0 < al.length := by omega
          have hc0 := hR2.out.cell 0 _ (ints_get (natInts al) 0 (by rw [natInts_len]; omega))
          rw [natInts_getD, Nat.add_zero] at hc0
          obtain ⟨v0, hv0⟩ : ∃ v : Nat, al.getD 0 0 = v := ⟨_, rfl⟩
          rw [hv0] at hfin hc0
          obtain ⟨o, ho⟩ : ∃ o, al.findIdx? (fun (i : Nat) => decide (last < (i : Int))) = o := ⟨_, rfl⟩
          rw [ho] at hfin hidx
          have HI := Lib.hid (index79 last ⟨w.heap.size, 0, none⟩ _ al.length c' (natInts al) wr hbc hR2.out (by omega))
          cases o with
          | none =>
            simp only at hidx
            simp only [Option.bind_none, Option.getD_none, ite_self] at hfin
            have HIX := Lib.hid hidx
            have HF := Lib.hid hfin
            clear hidx hfin ho hv0 hA0
            go_wp2_with (go_at_call 79; go_must (refine HI.out.mono ?_; rintro e w2 ⟨rfl, rfl⟩; rw [HIX.out]))
            go_ret
            exact ⟨by rw [HF.out]; rfl, HW⟩
          | some j =>
            have hj : j < al.length := by rw [List.findIdx?_eq_some_iff_getElem] at ho; exact ho.1
            have hcj := hR2.out.cell j _ (ints_get (natInts al) j (by rw [natInts_len]; exact hj))
            rw [natInts_getD] at hcj
            obtain ⟨vj, hvj⟩ : ∃ v : Nat, al.getD j 0 = v := ⟨_, rfl⟩
            rw [hvj] at hcj
            have hvj2 : al[j]? = some vj := by rw [← hvj, List.getD_eq_getElem?_getD, List.getElem?_eq_getElem hj]; rfl
            simp only [Option.bind_some, hvj2, Option.getD_some] at hfin
            simp only at hidx
            have HIX := Lib.hid hidx
            by_cases hl0 : 0 ≤ last
            · rw [if_pos hl0] at hfin
              have HF := Lib.hid hfin
              clear hidx hfin ho hv0 hvj hvj2 hA0
              go_wp2_with (go_at_call 79; go_must (refine HI.out.mono ?_; rintro e w2 ⟨rfl, rfl⟩; rw [HIX.out]))
              go_ret
              exact ⟨by rw [HF.out]; rfl, HW⟩
            · rw [if_neg hl0] at hfin
              have HF := Lib.hid hfin
              clear hidx hfin ho hv0 hvj hvj2 hA0
              go_wp2_with (go_at_call 79; go_must (refine HI.out.mono ?_; rintro e w2 ⟨rfl, rfl⟩; rw [HIX.out]))
              go_ret
              exact ⟨by rw [HF.out]; rfl, HW⟩

end Go.Proofs.Ytdnajckhnknlcaa

/-! What a worker does at each step: the methods that the map of jobs holds. -/
namespace Go.Proofs.Ytdnajckhnknlcaa
set_option linter.unusedVariables false
set_option linter.unusedSimpArgs false
open Go.RowKit


set_option maxHeartbeats 1000000 in
theorem job_takeBottom (b : Nat) (r0 r1 r2 r3 r4 r5 r6 r7 : Int) (out : Int) (p : Option Addr) (c : Nat) (at_ room : Int) (xs : List Int) (w : World) (hr1 : 1 ≤ room) (hr2 : room ≤ 1000) (hat : 0 ≤ at_) (hr : Rd w 1 p xs.length c (ints xs)) (hlen : xs.length ≤ 100000)
    (h : Blk w b 57 #[.int .i64 0, .int .i64 6, .int .i64 r0, .int .i64 r1, .int .i64 r2, .int .i64 r3, .int .i64 r4, .int .i64 r5, .int .i64 r6, .int .i64 r7, .bool false, .int .i64 out, .slice p xs.length c, .int .i64 at_, .int .i64 room, .int .i64 0]) :
    Calls Try.prog 50 #[.pointer (some ⟨b, 0, none⟩)] w fun e w' => e = .returned (.tuple #[]) ∧
      HS w w' b xs.length (fun p c => hdV (behF ⟨0, 6, r0, r1, r2, r3, r4, r5, r6, r7, false, out⟩ (doF xs 1 (wrap64 (at_ + 1)) 0 0) room) p xs.length c at_ room (doF xs 1 (wrap64 (at_ + 1)) 0 0).e) (doF xs 1 (wrap64 (at_ + 1)) 0 0).xs := by
  have hc := h.cell
  have hf := h.frozen
  have HR := Lib.hid hr
  clear hr
  obtain ⟨⟨e1, ys, x1, d1⟩, HQ⟩ : ∃ q, Hid (doF xs 1 (wrap64 (at_ + 1)) 0 0 = q) := ⟨_, rfl⟩
  rw [HQ.out]
  have ht := fun (W : World) (hR : Rd W 1 p xs.length c (ints xs)) (hB : Blk W b 57 #[.int .i64 0, .int .i64 6, .int .i64 r0, .int .i64 r1, .int .i64 r2, .int .i64 r3, .int .i64 r4, .int .i64 r5, .int .i64 r6, .int .i64 r7, .bool false, .int .i64 out, .slice p xs.length c, .int .i64 at_, .int .i64 room, .int .i64 0]) => bottom_1 b 0 6 r0 r1 r2 r3 r4 r5 r6 r7 false out p c at_ room 0 xs W 1 (by unfold wrap64; omega) hR hlen hB
  rw [HQ.out] at ht
  have HT := Lib.hid ht
  clear ht
  · clear hlen
    have hbe : behF ⟨0, 6, r0, r1, r2, r3, r4, r5, r6, r7, false, out⟩ ⟨e1, ys, x1, d1⟩ room = ⟨1, 6, r0, (wrap64 (x1 - 1)), r2, r3, r4, r5, r6, r7, false, out⟩ := by simp [behF]
    rw [hbe]
    clear hbe
    go_enter Try.func50, Try.ntmps50
    go_wp2_with fail
    go_region_with (go_at_call 70; go_must ((try simp only [IntWalk.i64_left]); refine (HT.out _ ?_ ?_).mono ?_; (· repeat (first | exact HR.out | apply Rd.drew | apply Rd.drewN)); (· exact h); rintro e w1 ⟨rfl, p1, c1, hg, h1, hown⟩; have hc1 := h1.cell; have hf1 := h1.frozen))
    all_goals (try simp only [IntWalk.i64_left])
    all_goals go_wp2_with fail
    all_goals
     first | go_end0 | refine bodyPost_ret (results_none rfl _ _ _) rfl ?_
     refine ⟨rfl, p1, c1, ?_, ?_, ?_⟩
     · repeat (first | exact grownBy_refl _ _ | apply grownBy_set | apply grownBy_drewN | apply grownBy_drew | refine gb_trans ?_ (by assumption))
     · repeat (first | assumption | apply Blk.set' | apply Blk.drewN | apply Blk.drew)
       all_goals rfl
     · repeat (first | exact hown | (refine hend _ _ _ _ h.lt ?_) | (refine ownsRow_setCell_below ?_ ?_ _; rotate_left; (exact h.lt)) | apply own_drewN | apply own_drew)

set_option maxHeartbeats 1000000 in
theorem job_takeMark (b : Nat) (r0 r1 r2 r3 r4 r5 r6 r7 : Int) (out : Int) (p : Option Addr) (c : Nat) (at_ room : Int) (xs : List Int) (w : World) (hr1 : 1 ≤ room) (hr2 : room ≤ 1000) (hat : 0 ≤ at_) (hr : Rd w 1 p xs.length c (ints xs)) (hlen : xs.length ≤ 100000)
    (h : Blk w b 57 #[.int .i64 1, .int .i64 6, .int .i64 r0, .int .i64 r1, .int .i64 r2, .int .i64 r3, .int .i64 r4, .int .i64 r5, .int .i64 r6, .int .i64 r7, .bool false, .int .i64 out, .slice p xs.length c, .int .i64 at_, .int .i64 room, .int .i64 0]) :
    Calls Try.prog 51 #[.pointer (some ⟨b, 0, none⟩)] w fun e w' => e = .returned (.tuple #[]) ∧
      HS w w' b xs.length (fun p c => hdV (behF ⟨1, 6, r0, r1, r2, r3, r4, r5, r6, r7, false, out⟩ (doF xs 2 (wrap64 (at_ + 1)) 0 r1) room) p xs.length c at_ room (doF xs 2 (wrap64 (at_ + 1)) 0 r1).e) (doF xs 2 (wrap64 (at_ + 1)) 0 r1).xs := by
  have hc := h.cell
  have hf := h.frozen
  have HR := Lib.hid hr
  clear hr
  obtain ⟨⟨e1, ys, x1, d1⟩, HQ⟩ : ∃ q, Hid (doF xs 2 (wrap64 (at_ + 1)) 0 r1 = q) := ⟨_, rfl⟩
  rw [HQ.out]
  have ht := fun (W : World) (hR : Rd W 1 p xs.length c (ints xs)) (hB : Blk W b 57 #[.int .i64 1, .int .i64 6, .int .i64 r0, .int .i64 r1, .int .i64 r2, .int .i64 r3, .int .i64 r4, .int .i64 r5, .int .i64 r6, .int .i64 r7, .bool false, .int .i64 out, .slice p xs.length c, .int .i64 at_, .int .i64 room, .int .i64 0]) => write_any b 1 6 r0 r1 r2 r3 r4 r5 r6 r7 false out p c at_ room 0 xs W 2 (wrap64 (at_ + 1)) r1 (by unfold wrap64; omega) hR hlen hB
  rw [HQ.out] at ht
  have HT := Lib.hid ht
  clear ht
  · clear hlen
    have hbe : behF ⟨1, 6, r0, r1, r2, r3, r4, r5, r6, r7, false, out⟩ ⟨e1, ys, x1, d1⟩ room = ⟨2, 6, r0, r1, r2, r3, r4, r5, r6, r7, false, out⟩ := by simp [behF]
    rw [hbe]
    clear hbe
    go_enter Try.func51, Try.ntmps51
    go_wp2_with fail
    go_region_with (go_at_call 73; go_must ((try simp only [IntWalk.i64_left]); refine (HT.out _ ?_ ?_).mono ?_; (· repeat (first | exact HR.out | apply Rd.drew | apply Rd.drewN)); (· exact h); rintro e w1 ⟨rfl, p1, c1, hg, h1, hown⟩; have hc1 := h1.cell; have hf1 := h1.frozen))
    all_goals go_wp2_with fail
    all_goals
     first | go_end0 | refine bodyPost_ret (results_none rfl _ _ _) rfl ?_
     refine ⟨rfl, p1, c1, ?_, ?_, ?_⟩
     · repeat (first | exact grownBy_refl _ _ | apply grownBy_set | apply grownBy_drewN | apply grownBy_drew | refine gb_trans ?_ (by assumption))
     · repeat (first | assumption | apply Blk.set' | apply Blk.drewN | apply Blk.drew)
       all_goals rfl
     · repeat (first | exact hown | (refine hend _ _ _ _ h.lt ?_) | (refine ownsRow_setCell_below ?_ ?_ _; rotate_left; (exact h.lt)) | apply own_drewN | apply own_drew)

set_option maxHeartbeats 1000000 in
theorem job_takeTop (b : Nat) (r0 r1 r2 r3 r4 r5 r6 r7 : Int) (out : Int) (p : Option Addr) (c : Nat) (at_ room : Int) (xs : List Int) (w : World) (hr1 : 1 ≤ room) (hr2 : room ≤ 1000) (hat : 0 ≤ at_) (hr : Rd w 1 p xs.length c (ints xs)) (hlen : xs.length ≤ 100000)
    (h : Blk w b 57 #[.int .i64 2, .int .i64 6, .int .i64 r0, .int .i64 r1, .int .i64 r2, .int .i64 r3, .int .i64 r4, .int .i64 r5, .int .i64 r6, .int .i64 r7, .bool false, .int .i64 out, .slice p xs.length c, .int .i64 at_, .int .i64 room, .int .i64 0]) :
    Calls Try.prog 52 #[.pointer (some ⟨b, 0, none⟩)] w fun e w' => e = .returned (.tuple #[]) ∧
      HS w w' b xs.length (fun p c => hdV (behF ⟨2, 6, r0, r1, r2, r3, r4, r5, r6, r7, false, out⟩ (doF xs 1 at_ 0 0) room) p xs.length c at_ room (doF xs 1 at_ 0 0).e) (doF xs 1 at_ 0 0).xs := by
  have hc := h.cell
  have hf := h.frozen
  have HR := Lib.hid hr
  clear hr
  obtain ⟨⟨e1, ys, x1, d1⟩, HQ⟩ : ∃ q, Hid (doF xs 1 at_ 0 0 = q) := ⟨_, rfl⟩
  rw [HQ.out]
  have ht := fun (W : World) (hR : Rd W 1 p xs.length c (ints xs)) (hB : Blk W b 57 #[.int .i64 2, .int .i64 6, .int .i64 r0, .int .i64 r1, .int .i64 r2, .int .i64 r3, .int .i64 r4, .int .i64 r5, .int .i64 r6, .int .i64 r7, .bool false, .int .i64 out, .slice p xs.length c, .int .i64 at_, .int .i64 room, .int .i64 0]) => top_2 b 2 6 r0 r1 r2 r3 r4 r5 r6 r7 false out p c at_ room 0 xs W 3 (by unfold wrap64; omega) hR hlen hB
  rw [HQ.out] at ht
  have HT := Lib.hid ht
  clear ht
  by_cases hcd : r1 < x1
  · clear hlen
    have hbe : behF ⟨2, 6, r0, r1, r2, r3, r4, r5, r6, r7, false, out⟩ ⟨e1, ys, x1, d1⟩ room = ⟨5, 6, r0, r1, x1, r3, r4, r5, r6, r7, false, (-1)⟩ := by simp only [behF]; simp [hcd]
    rw [hbe]
    clear hbe
    go_enter Try.func52, Try.ntmps52
    go_wp2_with (go_at_call 71; go_must ((try simp only [IntWalk.i64_left]); refine (HT.out _ ?_ ?_).mono ?_; (· repeat (first | exact HR.out | apply Rd.drew | apply Rd.drewN)); (· exact h); rintro e w1 ⟨rfl, p1, c1, hg, h1, hown⟩; have hc1 := h1.cell; have hf1 := h1.frozen))
    all_goals
     first | go_end0 | refine bodyPost_ret (results_none rfl _ _ _) rfl ?_
     refine ⟨rfl, p1, c1, ?_, ?_, ?_⟩
     · repeat (first | exact grownBy_refl _ _ | apply grownBy_set | apply grownBy_drewN | apply grownBy_drew | refine gb_trans ?_ (by assumption))
     · repeat (first | assumption | apply Blk.set' | apply Blk.drewN | apply Blk.drew)
       all_goals rfl
     · repeat (first | exact hown | (refine hend _ _ _ _ h.lt ?_) | (refine ownsRow_setCell_below ?_ ?_ _; rotate_left; (exact h.lt)) | apply own_drewN | apply own_drew)
  · clear hlen
    have hbe : behF ⟨2, 6, r0, r1, r2, r3, r4, r5, r6, r7, false, out⟩ ⟨e1, ys, x1, d1⟩ room = ⟨3, 6, r0, r1, x1, r3, r4, r5, r6, r7, false, out⟩ := by simp only [behF]; simp [hcd]
    rw [hbe]
    clear hbe
    go_enter Try.func52, Try.ntmps52
    go_wp2_with (go_at_call 71; go_must ((try simp only [IntWalk.i64_left]); refine (HT.out _ ?_ ?_).mono ?_; (· repeat (first | exact HR.out | apply Rd.drew | apply Rd.drewN)); (· exact h); rintro e w1 ⟨rfl, p1, c1, hg, h1, hown⟩; have hc1 := h1.cell; have hf1 := h1.frozen))
    all_goals
     first | go_end0 | refine bodyPost_ret (results_none rfl _ _ _) rfl ?_
     refine ⟨rfl, p1, c1, ?_, ?_, ?_⟩
     · repeat (first | exact grownBy_refl _ _ | apply grownBy_set | apply grownBy_drewN | apply grownBy_drew | refine gb_trans ?_ (by assumption))
     · repeat (first | assumption | apply Blk.set' | apply Blk.drewN | apply Blk.drew)
       all_goals rfl
     · repeat (first | exact hown | (refine hend _ _ _ _ h.lt ?_) | (refine ownsRow_setCell_below ?_ ?_ _; rotate_left; (exact h.lt)) | apply own_drewN | apply own_drew)

set_option maxHeartbeats 1000000 in
theorem job_takeTask (b : Nat) (r0 r1 r2 r3 r4 r5 r6 r7 : Int) (out : Int) (p : Option Addr) (c : Nat) (at_ room : Int) (xs : List Int) (w : World) (hr1 : 1 ≤ room) (hr2 : room ≤ 1000) (hat : 0 ≤ at_) (hr : Rd w 1 p xs.length c (ints xs)) (hlen : xs.length ≤ 100000)
    (h : Blk w b 57 #[.int .i64 3, .int .i64 6, .int .i64 r0, .int .i64 r1, .int .i64 r2, .int .i64 r3, .int .i64 r4, .int .i64 r5, .int .i64 r6, .int .i64 r7, .bool false, .int .i64 out, .slice p xs.length c, .int .i64 at_, .int .i64 room, .int .i64 0]) :
    Calls Try.prog 53 #[.pointer (some ⟨b, 0, none⟩)] w fun e w' => e = .returned (.tuple #[]) ∧
      HS w w' b xs.length (fun p c => hdV (behF ⟨3, 6, r0, r1, r2, r3, r4, r5, r6, r7, false, out⟩ (doF xs 1 (placeF at_ room r1) 0 0) room) p xs.length c at_ room (doF xs 1 (placeF at_ room r1) 0 0).e) (doF xs 1 (placeF at_ room r1) 0 0).xs := by
  have hc := h.cell
  have hf := h.frozen
  have HR := Lib.hid hr
  clear hr
  obtain ⟨⟨e1, ys, x1, d1⟩, HQ⟩ : ∃ q, Hid (doF xs 1 (placeF at_ room r1) 0 0 = q) := ⟨_, rfl⟩
  rw [HQ.out]
  have ht := fun (W : World) (hR : Rd W 1 p xs.length c (ints xs)) (hB : Blk W b 57 #[.int .i64 3, .int .i64 6, .int .i64 r0, .int .i64 r1, .int .i64 r2, .int .i64 r3, .int .i64 r4, .int .i64 r5, .int .i64 r6, .int .i64 r7, .bool false, .int .i64 out, .slice p xs.length c, .int .i64 at_, .int .i64 room, .int .i64 0]) => load_3 b 3 6 r0 r1 r2 r3 r4 r5 r6 r7 false out p c at_ room 0 xs W 4 (placeF at_ room r1) (by unfold wrap64; omega) hR hlen hB
  rw [HQ.out] at ht
  have HT := Lib.hid ht
  clear ht
  by_cases hcd : r2 < r1
  · clear hlen
    have hbe : behF ⟨3, 6, r0, r1, r2, r3, r4, r5, r6, r7, false, out⟩ ⟨e1, ys, x1, d1⟩ room = ⟨3, 6, r0, r1, r2, x1, r4, r5, r6, r7, true, x1⟩ := by simp only [behF]; simp [hcd]
    rw [hbe]
    clear hbe
    go_enter Try.func53, Try.ntmps53
    go_wp2_with (first | (go_at_call 74; go_must (refine (place_any b 3 6 r0 r1 r2 r3 r4 r5 r6 r7 false out (.slice p xs.length c) at_ room 0 _ r1 hr1 hr2 hat ?_).mono ?_; (· exact h); rintro e w3 ⟨rfl, k3, rfl⟩)) | (go_at_call 75; go_must ((try simp only [IntWalk.i64_left]); refine (HT.out _ ?_ ?_).mono ?_; (· repeat (first | exact HR.out | apply Rd.drew | apply Rd.drewN)); (· exact h); rintro e w1 ⟨rfl, p1, c1, hg, h1, hown⟩; have hc1 := h1.cell; have hf1 := h1.frozen)))
    go_quiet (fail)
    go_wp2_with (go_at_call 72; go_must (refine (end_any b 4 6 r0 r1 r2 x1 r4 r5 r6 r7 false out (.slice p1 xs.length c1) at_ room e1 _ 3 x1 (by unfold wrap64; omega) ?_).mono ?_; (· exact h1); rintro e w2 ⟨rfl, hg2, h2, hend⟩))
    all_goals
     first | go_end0 | refine bodyPost_ret (results_none rfl _ _ _) rfl ?_
     refine ⟨rfl, p1, c1, ?_, ?_, ?_⟩
     · repeat (first | exact grownBy_refl _ _ | apply grownBy_set | apply grownBy_drewN | apply grownBy_drew | refine gb_trans ?_ (by assumption))
     · repeat (first | assumption | apply Blk.set' | apply Blk.drewN | apply Blk.drew)
       all_goals rfl
     · repeat (first | exact hown | (refine hend _ _ _ _ h.lt ?_) | (refine ownsRow_setCell_below ?_ ?_ _; rotate_left; (exact h.lt)) | apply own_drewN | apply own_drew)
  · clear hlen
    have hbe : behF ⟨3, 6, r0, r1, r2, r3, r4, r5, r6, r7, false, out⟩ ⟨e1, ys, x1, d1⟩ room = ⟨4, 6, r0, r1, r2, x1, r4, r5, r6, r7, false, out⟩ := by simp only [behF]; simp [hcd]
    rw [hbe]
    clear hbe
    go_enter Try.func53, Try.ntmps53
    go_wp2_with (first | (go_at_call 74; go_must (refine (place_any b 3 6 r0 r1 r2 r3 r4 r5 r6 r7 false out (.slice p xs.length c) at_ room 0 _ r1 hr1 hr2 hat ?_).mono ?_; (· exact h); rintro e w3 ⟨rfl, k3, rfl⟩)) | (go_at_call 75; go_must ((try simp only [IntWalk.i64_left]); refine (HT.out _ ?_ ?_).mono ?_; (· repeat (first | exact HR.out | apply Rd.drew | apply Rd.drewN)); (· exact h); rintro e w1 ⟨rfl, p1, c1, hg, h1, hown⟩; have hc1 := h1.cell; have hf1 := h1.frozen)))
    go_quiet (fail)
    go_wp2_with fail
    all_goals
     first | go_end0 | refine bodyPost_ret (results_none rfl _ _ _) rfl ?_
     refine ⟨rfl, p1, c1, ?_, ?_, ?_⟩
     · repeat (first | exact grownBy_refl _ _ | apply grownBy_set | apply grownBy_drewN | apply grownBy_drew | refine gb_trans ?_ (by assumption))
     · repeat (first | assumption | apply Blk.set' | apply Blk.drewN | apply Blk.drew)
       all_goals rfl
     · repeat (first | exact hown | (refine hend _ _ _ _ h.lt ?_) | (refine ownsRow_setCell_below ?_ ?_ _; rotate_left; (exact h.lt)) | apply own_drewN | apply own_drew)

set_option maxHeartbeats 1000000 in
theorem job_takeEnd (b : Nat) (r0 r1 r2 r3 r4 r5 r6 r7 : Int) (out : Int) (p : Option Addr) (c : Nat) (at_ room : Int) (xs : List Int) (w : World) (hr1 : 1 ≤ room) (hr2 : room ≤ 1000) (hat : 0 ≤ at_) (hr : Rd w 1 p xs.length c (ints xs)) (hlen : xs.length ≤ 100000)
    (h : Blk w b 57 #[.int .i64 5, .int .i64 6, .int .i64 r0, .int .i64 r1, .int .i64 r2, .int .i64 r3, .int .i64 r4, .int .i64 r5, .int .i64 r6, .int .i64 r7, .bool false, .int .i64 out, .slice p xs.length c, .int .i64 at_, .int .i64 room, .int .i64 0]) :
    Calls Try.prog 55 #[.pointer (some ⟨b, 0, none⟩)] w fun e w' => e = .returned (.tuple #[]) ∧
      HS w w' b xs.length (fun p c => hdV (behF ⟨5, 6, r0, r1, r2, r3, r4, r5, r6, r7, false, out⟩ (doF xs 2 (wrap64 (at_ + 1)) 0 (wrap64 (r1 + 1))) room) p xs.length c at_ room (doF xs 2 (wrap64 (at_ + 1)) 0 (wrap64 (r1 + 1))).e) (doF xs 2 (wrap64 (at_ + 1)) 0 (wrap64 (r1 + 1))).xs := by
  have hc := h.cell
  have hf := h.frozen
  have HR := Lib.hid hr
  clear hr
  obtain ⟨⟨e1, ys, x1, d1⟩, HQ⟩ : ∃ q, Hid (doF xs 2 (wrap64 (at_ + 1)) 0 (wrap64 (r1 + 1)) = q) := ⟨_, rfl⟩
  rw [HQ.out]
  have ht := fun (W : World) (hR : Rd W 1 p xs.length c (ints xs)) (hB : Blk W b 57 #[.int .i64 5, .int .i64 6, .int .i64 r0, .int .i64 r1, .int .i64 r2, .int .i64 r3, .int .i64 r4, .int .i64 r5, .int .i64 r6, .int .i64 r7, .bool false, .int .i64 out, .slice p xs.length c, .int .i64 at_, .int .i64 room, .int .i64 0]) => write_any b 5 6 r0 r1 r2 r3 r4 r5 r6 r7 false out p c at_ room 0 xs W 6 (wrap64 (at_ + 1)) (wrap64 (r1 + 1)) (by unfold wrap64; omega) hR hlen hB
  rw [HQ.out] at ht
  have HT := Lib.hid ht
  clear ht
  · clear hlen
    have hbe : behF ⟨5, 6, r0, r1, r2, r3, r4, r5, r6, r7, false, out⟩ ⟨e1, ys, x1, d1⟩ room = ⟨5, 6, r0, r1, r2, r3, r4, r5, r6, r7, true, out⟩ := by simp [behF]
    rw [hbe]
    clear hbe
    go_enter Try.func55, Try.ntmps55
    go_wp2_with fail
    go_region_with (go_at_call 73; go_must ((try simp only [IntWalk.i64_left]); refine (HT.out _ ?_ ?_).mono ?_; (· repeat (first | exact HR.out | apply Rd.drew | apply Rd.drewN)); (· exact h); rintro e w1 ⟨rfl, p1, c1, hg, h1, hown⟩; have hc1 := h1.cell; have hf1 := h1.frozen))
    all_goals go_wp2_with (go_at_call 72; go_must (refine (end_any b 6 6 r0 r1 r2 r3 r4 r5 r6 r7 false out (.slice p1 xs.length c1) at_ room e1 _ 5 out (by unfold wrap64; omega) ?_).mono ?_; (· exact h1); rintro e w2 ⟨rfl, hg2, h2, hend⟩))
    all_goals
     first | go_end0 | refine bodyPost_ret (results_none rfl _ _ _) rfl ?_
     refine ⟨rfl, p1, c1, ?_, ?_, ?_⟩
     · repeat (first | exact grownBy_refl _ _ | apply grownBy_set | apply grownBy_drewN | apply grownBy_drew | refine gb_trans ?_ (by assumption))
     · repeat (first | assumption | apply Blk.set' | apply Blk.drewN | apply Blk.drew)
       all_goals rfl
     · repeat (first | exact hown | (refine hend _ _ _ _ h.lt ?_) | (refine ownsRow_setCell_below ?_ ?_ _; rotate_left; (exact h.lt)) | apply own_drewN | apply own_drew)

end Go.Proofs.Ytdnajckhnknlcaa
