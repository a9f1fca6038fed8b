/-
  What this law needs beside the contracts, part 2.
-/
import Derived.Test.YtdnajckhnknlcaaT6x1

/-! An owner alone and one thief behind the other, as the law looks at them. -/
namespace Go.Proofs.Ytdnajckhnknlcaa
set_option linter.unusedVariables false
set_option linter.unusedSimpArgs false
open Go.RowKit

theorem seqF_get (r : Nat) (jobs : List (Int × Int)) : ∀ (now : List Int) (i : Nat) (j v : Int), jobs[i]? = some (j, v) → (seqF r jobs now).1[i]? = some (oneF r j v (seqF r (jobs.take i) now).2).1 := by
  induction jobs with
  | nil => intro now i j v h; simp at h
  | cons x jobs ih =>
    obtain ⟨a, b⟩ := x
    intro now i j v h
    cases i with
    | zero => simp only [List.getElem?_cons_zero, Option.some.injEq, Prod.mk.injEq] at h
              obtain ⟨rfl, rfl⟩ := h
              simp [seqF]
    | succ i => simp only [List.getElem?_cons_succ] at h
                simp only [seqF, List.getElem?_cons_succ, List.take_succ_cons]
                exact ih _ i j v h
theorem seqF_next (r : Nat) (jobs : List (Int × Int)) : ∀ (now : List Int) (i : Nat) (j v : Int), jobs[i]? = some (j, v) → (seqF r (jobs.take (i + 1)) now).2 = (oneF r j v (seqF r (jobs.take i) now).2).2 := by
  induction jobs with
  | nil => intro now i j v h; simp at h
  | cons x jobs ih =>
    obtain ⟨a, b⟩ := x
    intro now i j v h
    cases i with
    | zero => simp only [List.getElem?_cons_zero, Option.some.injEq, Prod.mk.injEq] at h
              obtain ⟨rfl, rfl⟩ := h
              simp [seqF]
    | succ i => simp only [List.getElem?_cons_succ] at h
                simp only [seqF, List.take_succ_cons]
                exact ih _ i j v h

theorem oneF_len (r : Nat) (j v : Int) (now : List Int) : (oneF r j v now).2.length ≤ now.length + 1 := by
  unfold oneF
  split
  · split
    · simp
    · simp
  · split
    · simp; omega
    · simp

theorem seqF_len (r : Nat) (jobs : List (Int × Int)) : ∀ now : List Int, (seqF r jobs now).2.length ≤ now.length + jobs.length := by
  induction jobs with
  | nil => intro now; simp [seqF]
  | cons x jobs ih =>
    obtain ⟨a, b⟩ := x
    intro now
    have h1 := ih (oneF r a b now).2
    have h2 := oneF_len r a b now
    simp only [seqF, List.length_cons]; omega

/-- The jobs of an owner, as the law tells them. -/
def jobsF (raw : List Int) (f : Int) : List (Int × Int) := (ownerF raw f).map fun y => (y.job, y.r0)
theorem jobsF_get (raw : List Int) (f : Int) (i : Nat) (h : i < min raw.length 14) : (jobsF raw f)[i]? = some ((jobF raw f i).job, (jobF raw f i).r0) := by
  unfold jobsF ownerF ownTo
  rw [List.getElem?_map, List.getElem?_map, List.getElem?_range h]; rfl
theorem jobsF_len (raw : List Int) (f : Int) : (jobsF raw f).length = min raw.length 14 := by unfold jobsF; rw [List.length_map, owner_len]

theorem own_pop {w : World} {base e : Nat} {v : Value} {n : Nat} {xs : List Value} {x : Value} (h : w.ownsRow base e 1 v (n + 1) (xs ++ [x])) :
    ∃ g cap, v = .slice (some ⟨g, 0, none⟩) (n + 1) cap ∧ n + 1 ≤ cap ∧ cap ≤ maxLen ∧ w.cell? ⟨g, n, none⟩ = some x ∧ w.ownsRow base e 1 (.slice (some ⟨g, 0, none⟩) n cap) n xs := by
  obtain ⟨hl, h2⟩ := h
  rcases h2 with ⟨_, h3⟩ | ⟨g, cap, cur, rfl, hb, hg, hnc, hcm, hcs, ht⟩
  · omega
  · simp only [List.length_append, List.length_cons, List.length_nil] at hl
    have hxl : xs.length = n := by omega
    refine ⟨g, cap, rfl, hnc, hcm, ?_, by omega, .inr ⟨g, cap, cur, rfl, hb, hg, by omega, hcm, hcs, ?_⟩⟩
    · have h0 : w.ownsRow base e 1 (.slice (some ⟨g, 0, none⟩) (n + 1) cap) (n + 1) (xs ++ [x]) := ⟨by simp; omega, .inr ⟨g, cap, cur, rfl, hb, hg, hnc, hcm, hcs, ht⟩⟩
      rw [h0.cellAt n (by omega), List.getElem?_append_right (by omega), hxl]; simp
    · have h1 : cur.toList.take (n * 1) = (cur.toList.take ((n + 1) * 1)).take n := by rw [List.take_take]; congr 1; omega
      rw [h1, ht, List.take_append_of_le_length (by omega), List.take_of_length_le (by omega)]

/-- s[1:] of a slice of whole numbers. -/
theorem run_slice_tail {w : World} {b o n c : Nat} {xs : List Int} (h : Rd w 1 (some ⟨b, o, none⟩) (n + 1) c (ints xs)) : ∃ q, (∀ W : World, (Instr.slice 22 (.slice (some ⟨b, o, none⟩) (n + 1) c) (some (.int .i64 1)) none none).run Try.prog W = .ok (.slice (some q) n (c - 1)) W) ∧
    Rd w 1 (some q) n (c - 1) (ints xs.tail) := by
  have hl : xs.length = n + 1 := by have := h.len; rw [ints_len] at this; omega
  refine ⟨if c = 1 then ⟨b, o, none⟩ else ⟨b, o + 1, none⟩, fun W => ?_, ?_⟩
  · rw [run_slice_l W 22 (some ⟨b, o, none⟩) (n + 1) c under_22 .i64 1 (by omega) (by omega), size_22]
    simp only [Result.andThen, sliced, Int.toNat_one, Nat.mul_one, Option.map_some, Nat.add_sub_cancel]
    rw [Addr.add_lit]
    split <;> rfl
  · by_cases hc : c = 1
    · have hcap := h.cap
      have hn : n = 0 := by omega
      subst hn
      rw [if_pos hc]
      have := h.part 0 0 (by omega) [] rfl
      rw [Nat.add_zero, Nat.sub_zero] at this
      obtain ⟨x, rfl⟩ : ∃ x, xs = [x] := List.length_eq_one_iff.1 hl
      subst hc
      exact ⟨rfl, by omega, by simp [maxLen], by simp, fun a _ j u hj => by simp [ints] at hj⟩
    · rw [if_neg hc]
      exact h.part 1 n (by omega) xs.tail (by rw [List.drop_one, List.take_of_length_le (by simp; omega)])

theorem bd_one_get {raw : List Int} (i : Nat) (f : Int) (hf0 : 0 ≤ f) (hf : f ≤ 1000) (hi : i < 14) : (pickF (raw.getD i 0) 5 < 3 ∧ jobF raw f i = giveF (f + (i : Int))) ∨ (¬ pickF (raw.getD i 0) 5 < 3 ∧ jobF raw f i = takeF) := by
  unfold jobF
  by_cases h : pickF (raw.getD i 0) 5 < 3
  · exact .inl ⟨h, by rw [if_pos h]⟩
  · exact .inr ⟨h, by rw [if_neg h]⟩

end Go.Proofs.Ytdnajckhnknlcaa

/-! The walk of the law on an owner alone, and thieves one behind the other. -/
namespace Go.Proofs.Ytdnajckhnknlcaa
set_option linter.unusedVariables false
set_option linter.unusedSimpArgs false
open Go.RowKit

def OrderPost (w : World) (e : Ending) (w' : World) : Prop := e = .returned (.bool true) ∧ Below w.heap.size w w'

theorem wk_job {w : World} {b off n c : Nat} {ws : List Wk} (h : Rd w 12 (some ⟨b, off, none⟩) n c (wkCells ws)) (k : Nat) (x : Wk) (hx : ws[k]? = some x) : w.cell? ⟨b, off + k * 12 + 1, none⟩ = some (.int .i64 x.job) := (h.wk k x hx).1 1 (by decide)

set_option maxHeartbeats 2000000 in
set_option maxRecDepth 100000 in
theorem order6 (room thieves : Int) (raw : List Int) (pr : Option Addr) (nr cr : Nat) (w : World) (h1 : -9223372036854775808 ≤ room) (h2 : room ≤ 9223372036854775807) (h3 : -9223372036854775808 ≤ thieves) (h4 : thieves ≤ 9223372036854775807)
    (hr : Rd w 1 pr nr cr (ints raw)) (br : Bd raw) :
    Calls Try.prog 6 #[.int .i64 room, .slice pr nr cr, .int .i64 thieves] w (OrderPost w) := by
  obtain ⟨r, hrr⟩ : ∃ r : Nat, pickF room 6 = (r : Int) := ⟨(pickF room 6).toNat, by have := pickF_lo room 6 (by decide); omega⟩
  obtain ⟨K, hkk⟩ : ∃ K : Nat, pickF thieves 8 = (K : Int) := ⟨(pickF thieves 8).toNat, by have := pickF_lo thieves 8 (by decide); omega⟩
  have hr5 : r < 6 := by have := pickF_hi room 6 (by decide); omega
  have hK8 : K < 8 := by have := pickF_hi thieves 8 (by decide); omega
  obtain ⟨R, hR⟩ : ∃ R : Nat, 1 + (r : Int) = R := ⟨r + 1, by omega⟩
  have hRa : 1 ≤ R := by omega
  have hRb : R ≤ 6 := by omega
  have hlr : raw.length = nr := by have := hr.len; rw [ints_len] at this; omega
  obtain ⟨ys, o, t, b, hr1, hs1, hb1, hc1, ho1, hol, hoj⟩ := run_owner (C := 14) [] (List.replicate (R + 2) 0) (ownerF raw 10) 0 0 (still_new R hRa (by omega)) (by decide) (by rw [owner_len]; omega) (owner_fresh raw 10 (by decide) (by decide)) [] rfl
  rw [owner_len, hlr] at hol
  have hjl : (jobsF raw 10).length = min nr 14 := by rw [jobsF_len, hlr]
  have hjg : ∀ i, i < min nr 14 → (jobsF raw 10)[i]? = some ((jobF raw 10 i).job, (jobF raw 10 i).r0) := fun i hi => jobsF_get raw 10 i (by rw [hlr]; exact hi)
  change conts ys R t b = (seqF R (jobsF raw 10) []).2 at hc1
  change o.map Wk.out = (seqF R (jobsF raw 10) []).1 at ho1
  change o.map (fun y => (y.job, y.r0)) = jobsF raw 10 at hoj
  obtain ⟨N, hN⟩ : ∃ N, min nr 14 = N := ⟨_, rfl⟩
  rw [hN] at hol hjl hjg
  have hN14 : N ≤ 14 := by omega
  have HRR := Lib.hid hrr
  have HKK := Lib.hid hkk
  have HRe := Lib.hid hR
  have HR := Lib.hid hr
  have BR := Lib.hid br
  have R1 := Lib.hid hr1
  have S1 := Lib.hid hs1
  have C1 := Lib.hid hc1
  have O1 := Lib.hid ho1
  have OL := Lib.hid hol
  have OJ := Lib.hid hoj
  have JG := Lib.hid hjg
  have JL := Lib.hid hjl
  have HN := Lib.hid hN
  clear hrr hkk hR hr br hr1 hs1 hc1 ho1 hol hoj hjg hjl hN hlr
  go_enter Try.func6, Try.ntmps6
  go_wp2_with fail
  refine (awake10 _).mono ?_
  rintro e w1 ⟨rfl, hw1⟩
  have HW1 := Lib.hid hw1
  clear hw1
  go_wp2_with fail
  refine (pick11 _ _ _ h1 h2 (by decide) (by decide)).mono ?_
  rintro e w2 ⟨rfl, rfl⟩
  rw [HRR.out]
  go_wp2_with fail
  rw [HRe.out]
  refine (owner25 pr nr cr raw 10 _ (HR.out.ext HW1.out) BR.out (by decide) (by decide)).mono ?_
  rw [HN.out]
  rintro e w2 ⟨v2, rfl, hw2, ho2⟩
  obtain ⟨po, co, rfl, hro, _⟩ := Rd.of_owns ho2
  have HW2 := Lib.hid (ext_trans HW1.out hw2)
  have HO2 := Lib.hid hro
  clear HW1 hw2 ho2 hro
  go_wp2_with fail
  refine (new_17 R _ (by omega) (by omega)).mono ?_
  rintro e w3 ⟨pm, cm, rfl, hw3, ho3⟩
  have HM3 := Lib.hid (rd_fr_of_owns ho3 (Nat.le_refl _)).1
  have HO3 := Lib.hid (HO2.out.ext hw3)
  have HW3 := Lib.hid (ext_trans HW2.out hw3)
  clear HW2 HO2 hw3 ho3
  go_wp2_with fail
  refine (run27_is pm po none none (R + 2) cm N co 0 0 0 0 0 (R : Int) [] _ (ownerF raw 10) [] _ HM3.out HO3.out (rd_nilw _) (rd_nili _) bd_nil (by omega) (by decide) (by omega) ys o [] R1.out).mono ?_
  rintro e w4 ⟨p1, c1, q1, d1, q2, d2, rfl, hw4, hm4, ho4, _⟩
  have HM4 := Lib.hid hm4
  have HA4 := Lib.hid ho4
  have HW4 := Lib.hid (ext_trans HW3.out hw4)
  clear HW3 HM3 HO3 hw4 hm4 ho4
  go_wp2_with fail
  go_loopw [14, 15] (fun v i wr => ∃ j : Nat, j ≤ N ∧ i = .int .i64 (j : Int) ∧ ∃ (p : Option Addr) (n c : Nat) (l : List Int), v = .slice p n c ∧ n ≤ j ∧ Hid (l = (seqF R ((jobsF raw 10).take j) []).2) ∧ Hid (l.length = n) ∧ wr.ownsRow w4.heap.size 3 1 (.slice p n c) n (ints l) ∧ Below w4.heap.size w4 wr) (fun _ i _ => N - (intOf i).toNat)
  case atStart => exact ⟨0, Nat.zero_le _, rfl, none, 0, 0, [], rfl, Nat.le_refl _, rfl, rfl, World.ownsRow_nil _ _ _ _, Below.refl _ _⟩
  case round =>
    obtain ⟨j, hj, rfl, p, n, c, l, rfl, hnj, hl, hln, HO, HX⟩ := hrel
    have hHO := Lib.hid HO
    clear HO
    by_cases hlt : j < N
    · obtain ⟨y, ey⟩ : ∃ y, o[j]? = some y := ⟨o[j]'(by rw [OL.out]; exact hlt), List.getElem?_eq_getElem _⟩
      obtain ⟨ba, oa, rfl⟩ := HA4.out.addr (by omega) (by decide)
      have g1 := JG.out j hlt
      have hjob : y.job = (jobF raw 10 j).job := by
        have e := OJ.out
        have : (o.map fun y => (y.job, y.r0))[j]? = some (y.job, y.r0) := by rw [List.getElem?_map, ey]; rfl
        rw [e, g1] at this
        simp only [Option.some.injEq, Prod.mk.injEq] at this
        exact this.1.symm
      have hout : y.out = (oneF R (jobF raw 10 j).job (jobF raw 10 j).r0 l).1 := by
        have e := seqF_get R (jobsF raw 10) [] j _ _ g1
        rw [← O1.out, List.getElem?_map, ey, ← hl.out] at e
        exact Option.some.inj e
      have hnext : (seqF R ((jobsF raw 10).take (j + 1)) []).2 = (oneF R (jobF raw 10 j).job (jobF raw 10 j).r0 l).2 := by
        rw [seqF_next R (jobsF raw 10) [] j _ _ g1, ← hl.out]
      have hcells : ∀ W : World, Below w4.heap.size w4 W → W.cell? ⟨ba, oa + j * 12 + 1, none⟩ = some (.int .i64 (jobF raw 10 j).job) ∧ W.cell? ⟨ba, oa + j * 12 + 11, none⟩ = some (.int .i64 (oneF R (jobF raw 10 j).job (jobF raw 10 j).r0 l).1) := by
        intro W hW
        rw [← hout, ← hjob]
        exact ⟨wk_job (HA4.out.ext hW) j y ey, aw_out (HA4.out.ext hW) j y ey⟩
      clear hjob hout g1 ey
      rcases bd_one_get (raw := raw) j 10 (by decide) (by decide) (by omega) with ⟨_, hf⟩ | ⟨_, hf⟩
      · rw [hf] at hcells hnext
        by_cases hfull : n < R
        · have e1 : oneF R (giveF (10 + (j : Int))).job (giveF (10 + (j : Int))).r0 l = (10 + (j : Int), l ++ [10 + (j : Int)]) := by
            simp only [oneF, giveF, if_true]
            rw [if_pos (by rw [hln.out]; exact hfull)]
          rw [e1] at hcells hnext
          obtain ⟨hcj, hco⟩ := hcells wr HX
          have HC := Lib.hid hcells
          have HN1 := Lib.hid hnext
          have HL1 : Hid ((l ++ [10 + (j : Int)]).length = n + 1) := by
            have := hln.out
            show (l ++ [10 + (j : Int)]).length = n + 1
            simp; omega
          clear e1 hnext hf hl hcells
          go_wp2_with (at_builtin; go_must (refine wpList_append_rd _ rfl (.tmp 68) (.tmp 70) 22 rfl w4.heap.size 3 (.int .i64 0) 1 8 Try.underlying22 info_3 rfl (by decide) _ n _ rfl (hHO.out.alloc _) (some ⟨wr.heap.size, 0, none⟩) 1 1 [.int .i64 (10 + (j : Int))] rfl (rd_one wr 3 _) (by simp [Value.oneCell']) (by unfold maxLen; omega) (by omega) (by have := HX.size; simp; omega) ?_))
          intro v5 w5 hown5 hg5 _
          have hx5 := owns_grown (hHO.out.alloc (.cells #[.int .i64 (10 + (j : Int))] 3)) (ext_alloc HX _) hg5 (Nat.le_refl _) (by have := HX.size; simp; omega)
          obtain ⟨p5, c5, rfl, _, _⟩ := Rd.of_owns hown5
          have HO5 : Hid (w5.ownsRow w4.heap.size 3 1 (.slice p5 (n + 1) c5) (n + 1) (ints (l ++ [10 + (j : Int)]))) := by
            show w5.ownsRow w4.heap.size 3 1 (.slice p5 (n + 1) c5) (n + 1) (ints (l ++ [10 + (j : Int)]))
            have e : ints (l ++ [10 + (j : Int)]) = ints l ++ [.int .i64 (10 + (j : Int))] := by simp [ints]
            rw [e]; exact hown5
          obtain ⟨hcj5, hco5⟩ := HC.out w5 hx5
          have HX5 := Lib.hid hx5
          clear hown5 hg5 hcj hco hHO HX hx5
          go_wp2_with fail
          go_roundw
          case rel => exact ⟨j + 1, by omega, by go_num, p5, n + 1, c5, l ++ [10 + (j : Int)], rfl, by omega, HN1.out.symm, HL1.out, HO5.out, HX5.out⟩
          case measure => simp [intOf]; omega
        · have e1 : oneF R (giveF (10 + (j : Int))).job (giveF (10 + (j : Int))).r0 l = (-1, l) := by
            simp only [oneF, giveF, if_true]
            rw [if_neg (by rw [hln.out]; exact hfull)]
          rw [e1] at hcells hnext
          obtain ⟨hcj, hco⟩ := hcells wr HX
          have HN1 := Lib.hid hnext
          clear e1 hnext hf hl hcells
          go_wp2_with fail
          go_roundw
          case rel => exact ⟨j + 1, by omega, by go_num, p, n, c, l, rfl, by omega, HN1.out.symm, hln.out, hHO.out, HX⟩
          case measure => simp [intOf]; omega
      · rw [hf] at hcells hnext
        by_cases hemp : l = []
        · subst hemp
          obtain rfl : n = 0 := hln.out.symm
          have e1 : oneF R takeF.job takeF.r0 [] = (-1, []) := by simp [oneF, takeF]
          rw [e1] at hcells hnext
          obtain ⟨hcj, hco⟩ := hcells wr HX
          have HN1 := Lib.hid hnext
          clear e1 hnext hf hl hcells
          go_wp2_with fail
          go_roundw
          case rel => exact ⟨j + 1, by omega, by go_num, p, 0, c, [], rfl, by omega, HN1.out.symm, rfl, hHO.out, HX⟩
          case measure => simp [intOf]; omega
        · obtain ⟨l', x, rfl⟩ : ∃ l' x, l = l' ++ [x] := ⟨l.dropLast, l.getLast hemp, (List.dropLast_concat_getLast hemp).symm⟩
          have e1 : oneF R takeF.job takeF.r0 (l' ++ [x]) = (x, l') := by simp [oneF, takeF]
          rw [e1] at hcells hnext
          obtain ⟨hcj, hco⟩ := hcells wr HX
          obtain ⟨n', rfl⟩ : ∃ n', n = n' + 1 := ⟨n - 1, by have := hln.out; simp at this; omega⟩
          have HL1 : Hid (l'.length = n') := by
            have := hln.out
            show l'.length = n'
            simpa using this
          have ho1 := hHO.out
          rw [show ints (l' ++ [x]) = ints l' ++ [.int .i64 x] by simp [ints]] at ho1
          obtain ⟨g, cap, hv, hcap, hmax, hcell, hown⟩ := own_pop ho1
          simp only [Value.slice.injEq, true_and] at hv
          obtain ⟨rfl, rfl⟩ := hv
          unfold maxLen at hmax
          have HN1 := Lib.hid hnext
          have HO5 := Lib.hid hown
          have hsl := fun (W : World) => run_slice_hi W g 0 (n' + 1) c n' (n' : Int) (by omega) rfl
          clear e1 hnext hf hl hcells ho1 hown hemp hHO hln
          go_wp2_with fail
          go_roundw
          case rel => exact ⟨j + 1, by omega, by go_num, some ⟨g, 0, none⟩, n', c, l', rfl, by omega, HN1.out.symm, HL1.out, HO5.out, HX⟩
          case measure => simp [intOf]; omega
    · obtain rfl : N = j := by omega
      have hlc : l = conts ys R t b := by
        rw [C1.out, hl.out]
        rw [List.take_of_length_le (by rw [JL.out]; exact Nat.le_refl _)]
      obtain ⟨hr14, _⟩ := rd_fr_of_owns hHO.out (Nat.le_refl _)
      have hst0 := S1.out
      have hm0 := HM4.out.ext HX
      have hw0 := ext_trans HW4.out HX
      have hln0 := hln.out
      clear hHO HX hl hln HM4 HA4 HW4 R1 S1 C1 O1 OL OJ JG JL
      have HR14 := Lib.hid hr14
      have HST0 := Lib.hid hst0
      have HM0 := Lib.hid hm0
      have HW0 := Lib.hid hw0
      have HLN0 := Lib.hid hln0
      have HLC := Lib.hid hlc
      clear hr14 hst0 hm0 hw0 hln0 hlc hlt hj
      obtain ⟨wo, hwo⟩ : ∃ wo : World, wo = wr := ⟨_, rfl⟩
      subst hwo
      go_wp2_with fail
      go_loopw [10, 14, 17] (fun v10 v14 i wr => ∃ (q : Nat) (p : Option Addr) (n c : Nat) (l : List Int) (pm : Option Addr) (cm : Nat) (ys : List Int) (t b : Nat), q ≤ K ∧ i = .int .i64 (q : Int) ∧ v10 = .slice pm (R + 2) cm ∧ v14 = .slice p n c ∧ Rd wr 1 pm (R + 2) cm (ints ys) ∧ Rd wr 1 p n c (ints l) ∧ Hid (l = conts ys R t b) ∧ Hid (l.length = n) ∧ Hid (Still ys R t b) ∧ b ≤ 14 ∧ Below w.heap.size w wr) (fun _ _ i _ => K - (intOf i).toNat)
      case atStart => exact ⟨0, p, n, c, l, p1, c1, ys, t, b, Nat.zero_le _, rfl, rfl, rfl, HM0.out, HR14.out, HLC.out, HLN0.out, HST0.out, hb1, HW0.out⟩
      case round =>
        obtain ⟨q, p, n, c, l, pm, cm, ys, t, b, hq, rfl, rfl, rfl, hm1, hr1, hlc, hln, hst, hb1, hw1⟩ := hrel
        clear HM0 HR14 HLC HLN0 HST0 HW0
        have HM1 := Lib.hid hm1
        have HR1 := Lib.hid hr1
        have HW1 := Lib.hid hw1
        clear hm1 hr1 hw1
        by_cases hlt : q < K
        · obtain ⟨ys2, y, t2, b2, hr2, hst2, hb2, hc2, ho2⟩ := run_thief (C := 14) [] ys stealF freshT_stealF t b hst.out (by decide) hb1 l hlc.out.symm
          have R2 := Lib.hid hr2
          have ST2 := Lib.hid hst2
          have C2 := Lib.hid hc2
          have O2 := Lib.hid ho2
          clear hr2 hst2 hc2 ho2
          have hnb : n ≤ 1000 := by
            have e1 := hln.out
            have e2 := hlc.out
            rw [e2, conts_len] at e1; omega
          go_wp2_with fail
          refine (pick11 _ _ _ h3 h4 (by decide) (by decide)).mono ?_
          rintro e w2 ⟨rfl, rfl⟩
          rw [HKK.out]
          go_wp2_with fail
          refine (tasks15_still pm cm R ys t b _ hst.out (by omega) HM1.out).mono ?_
          rw [← hlc.out, hln.out]
          rintro e w2 ⟨pt, ct, rfl, hw2, ht2⟩
          have HM2 := Lib.hid (HM1.out.ext hw2)
          have HR2 := Lib.hid (HR1.out.ext hw2)
          have HW2 := Lib.hid (ext_trans HW1.out hw2)
          have HT2 := Lib.hid ht2
          clear HM1 HR1 HW1 hw2 ht2
          go_wp2_with fail
          refine (ints_eq pt p n ct n c l l _ HT2.out HR2.out (by omega) (by omega) rfl).mono ?_
          rintro e w3 ⟨rfl, hw3⟩
          have HM3 := Lib.hid (HM2.out.ext hw3)
          have HR3 := Lib.hid (HR2.out.ext hw3)
          have HW3 := Lib.hid (ext_trans HW2.out hw3)
          clear HM2 HR2 HW2 HT2 hw3
          go_wp2_with fail
          refine (steal23 _).mono ?_
          rintro e w4 ⟨rfl, hw4⟩
          have HM4 := Lib.hid (HM3.out.ext hw4)
          have HR4 := Lib.hid (HR3.out.ext hw4)
          have HW4 := Lib.hid (ext_trans HW3.out hw4)
          clear HM3 HR3 HW3 hw4
          go_wp2_with (refine wpList_ws1 _ rfl (.tmp 116) rfl stealF rfl ?_; intro w5 hw5 ho5)
          have HM5 := Lib.hid (HM4.out.ext hw5)
          have HR5 := Lib.hid (HR4.out.ext hw5)
          have HW5 := Lib.hid (ext_trans HW4.out hw5)
          have HO5 := Lib.hid ho5
          clear HM4 HR4 HW4 hw5 ho5
          refine (run27_is pm none _ none (R + 2) cm 0 0 1 1 0 0 0 (R : Int) [] ys [] [stealF] _ HM5.out (rd_nilw _) HO5.out (rd_nili _) bd_nil (by decide) (by decide) (by omega) ys2 [] [y] R2.out).mono ?_
          rintro e w6 ⟨p2, c2, q3, d3, q4, d4, rfl, hw6, hm6, _, ha6⟩
          have HM6 := Lib.hid hm6
          have HR6 := Lib.hid (HR5.out.ext hw6)
          have HW6 := Lib.hid (ext_trans HW5.out hw6)
          obtain ⟨bz, oz, rfl⟩ := ha6.addr (by decide) (by decide)
          have hcy := aw_out ha6 0 y rfl
          simp only [Nat.zero_mul, Nat.add_zero] at hcy
          rw [O2.out] at hcy
          clear HM5 HR5 HW5 HO5 hw6 hm6 ha6
          by_cases hemp : l = []
          · subst hemp
            obtain rfl : n = 0 := hln.out.symm
            have HLC2 : Hid (([] : List Int) = conts ys2 R t2 b2) := by
              show [] = conts ys2 R t2 b2
              rw [C2.out]; rfl
            simp only [thiefF] at hcy
            clear hln hlc hst C2 O2
            go_wp2_with fail
            go_roundw
            case rel => exact ⟨q + 1, p, 0, c, [], p2, c2, ys2, t2, b2, by omega, by go_num, rfl, rfl, HM6.out, HR6.out, HLC2.out, rfl, ST2.out, hb2, HW6.out⟩
            case measure => simp [intOf]; omega
          · obtain ⟨x, l', rfl⟩ : ∃ x l', l = x :: l' := List.exists_cons_of_ne_nil hemp
            obtain ⟨n', rfl⟩ : ∃ n', n = n' + 1 := ⟨n - 1, by have := hln.out; simp at this; omega⟩
            have HL1 : Hid (l'.length = n') := by
              have := hln.out
              show l'.length = n'
              simpa using this
            have HLC2 : Hid (l' = conts ys2 R t2 b2) := by
              show l' = conts ys2 R t2 b2
              rw [C2.out]; rfl
            obtain ⟨bp, op, rfl⟩ := HR6.out.addr (by omega) (by decide)
            obtain ⟨a', hsl, hr7⟩ := run_slice_tail HR6.out
            have hcx := HR6.out.cell 0 (.int .i64 x) rfl
            simp only [thiefF, Nat.add_zero] at hcy hcx
            have HR7 := Lib.hid hr7
            clear hln hlc hst C2 O2 hemp hr7
            go_wp2_with fail
            go_roundw
            case rel => exact ⟨q + 1, some a', n', c - 1, l', p2, c2, ys2, t2, b2, by omega, by go_num, rfl, rfl, HM6.out, HR7.out, HLC2.out, HL1.out, ST2.out, hb2, HW6.out⟩
            case measure => simp [intOf]; omega
        · go_wp2_with fail
          refine (pick11 _ _ _ h3 h4 (by decide) (by decide)).mono ?_
          rintro e w2 ⟨rfl, rfl⟩
          rw [HKK.out]
          go_wp2_with fail
          go_ret
          exact ⟨rfl, HW1.out⟩

end Go.Proofs.Ytdnajckhnknlcaa
