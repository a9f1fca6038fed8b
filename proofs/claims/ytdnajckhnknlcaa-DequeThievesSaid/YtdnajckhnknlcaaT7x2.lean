/-
  What this law needs beside the contracts, part 2.
-/
import Derived.Test.YtdnajckhnknlcaaT7x1

/-! Thieves alone, as the law counts them. -/
namespace Go.Proofs.Ytdnajckhnknlcaa
set_option linter.unusedVariables false
set_option linter.unusedSimpArgs false
open Go.RowKit

def giveTo (n : Nat) : List Wk := (List.range n).map fun (i : Nat) => giveF (i : Int)
theorem giveTo_succ (n : Nat) : giveTo (n + 1) = giveTo n ++ [giveF (n : Int)] := by simp [giveTo, List.range_succ]
theorem giveTo_len (n : Nat) : (giveTo n).length = n := by simp [giveTo]
def numsTo (n : Nat) : List Int := (List.range n).map fun (i : Nat) => (i : Int)
theorem numsTo_len (n : Nat) : (numsTo n).length = n := by simp [numsTo]

theorem seq_gives (r : Nat) (vs : List Int) : ∀ now : List Int, now.length + vs.length ≤ r → seqF r (vs.map fun v => (7, v)) now = (vs, now ++ vs) := by
  induction vs with
  | nil => intro now _; simp [seqF]
  | cons v vs ih =>
    intro now h
    simp only [List.length_cons] at h
    have e : oneF r 7 v now = (v, now ++ [v]) := by simp [oneF]; omega
    simp only [List.map_cons, seqF, e]
    rw [ih (now ++ [v]) (by simp; omega)]
    simp

/-- How often each task was stolen by the first i thieves. -/
def seenF (us : List Int) (n i : Nat) : List Int := (List.range n).map fun (j : Nat) => (((posF (us.take i)).count (j : Int) : Nat) : Int)
theorem seenF_len (us : List Int) (n i : Nat) : (seenF us n i).length = n := by simp [seenF]
theorem seenF_zero (us : List Int) (n : Nat) : seenF us n 0 = List.replicate n 0 := by
  apply List.ext_getElem
  · simp [seenF]
  · intro j h1 h2; simp [seenF, posF]
def noneF (us : List Int) (i : Nat) : Nat := ((us.take i).filter fun u => decide (u < 0)).length

theorem take_next {α : Type _} (us : List α) (i : Nat) (u : α) (h : us[i]? = some u) : us.take (i + 1) = us.take i ++ [u] := by
  rw [List.take_add_one, h]; rfl

theorem seenF_neg (us : List Int) (n i : Nat) (u : Int) (h : us[i]? = some u) (hu : u < 0) : seenF us n (i + 1) = seenF us n i := by
  unfold seenF posF
  rw [take_next us i u h, List.filter_append, List.filter_cons_of_neg (by simpa using hu)]
  simp
theorem noneF_neg (us : List Int) (i : Nat) (u : Int) (h : us[i]? = some u) (hu : u < 0) : noneF us (i + 1) = noneF us i + 1 := by
  unfold noneF
  rw [take_next us i u h, List.filter_append, List.filter_cons_of_pos (by simpa using hu)]
  simp
theorem noneF_pos (us : List Int) (i : Nat) (u : Int) (h : us[i]? = some u) (hu : 0 ≤ u) : noneF us (i + 1) = noneF us i := by
  unfold noneF
  rw [take_next us i u h, List.filter_append, List.filter_cons_of_neg (by simpa using hu)]
  simp
theorem noneF_le (us : List Int) (i : Nat) : noneF us i ≤ i := by
  unfold noneF
  have := List.length_filter_le (fun u => decide (u < 0)) (us.take i)
  rw [List.length_take] at this
  omega

theorem posF_split (us : List Int) (i : Nat) (u : Int) (h : us[i]? = some u) (hu : 0 ≤ u) : posF us = posF (us.take i) ++ u :: posF (us.drop (i + 1)) := by
  have e := split_at us i u h
  have e2 : posF us = posF (us.take i ++ u :: us.drop (i + 1)) := by rw [← e]
  rw [e2]
  unfold posF
  rw [List.filter_append, List.filter_cons_of_pos (by simpa using hu)]

theorem seenF_get (us : List Int) (n i q : Nat) (hq : q < n) : (seenF us n i)[q]? = some (((posF (us.take i)).count (q : Int) : Nat) : Int) := by
  unfold seenF; rw [List.getElem?_map, List.getElem?_range hq]; rfl

theorem seenF_pos (us : List Int) (n i j : Nat) (h : us[i]? = some (j : Int)) (hj : j < n) (h0 : (posF (us.take i)).count (j : Int) = 0) : seenF us n (i + 1) = (seenF us n i).set j 1 := by
  have e : posF (us.take (i + 1)) = posF (us.take i) ++ [(j : Int)] := by
    rw [take_next us i _ h]; unfold posF; rw [List.filter_append, List.filter_cons_of_pos (by simp)]; rfl
  apply List.ext_getElem?
  intro q
  by_cases hq : q < n
  · rw [seenF_get us n (i + 1) q hq, e, List.count_append, List.getElem?_set, seenF_len, seenF_get us n i q hq]
    by_cases hjq : j = q
    · subst hjq
      rw [if_pos rfl, if_pos hj, h0, List.count_singleton_self]; rfl
    · rw [if_neg hjq, List.count_eq_zero.2 (show ((q : Nat) : Int) ∉ [(j : Int)] by simp; omega)]
      rfl
  · rw [List.getElem?_eq_none (by rw [seenF_len]; omega), List.getElem?_eq_none (by rw [List.length_set, seenF_len]; omega)]

theorem count_zero (us : List Int) (m i : Nat) (u : Int) (h : us[i]? = some u) (hu : 0 ≤ u) (hp : (posF us).Perm (numsTo m)) : ∃ j : Nat, u = (j : Int) ∧ j < m ∧ (posF (us.take i)).count (j : Int) = 0 := by
  have e := posF_split us i u h hu
  have hmem : u ∈ numsTo m := hp.subset (by rw [e]; simp)
  obtain ⟨j, hj, rfl⟩ := List.mem_map.1 hmem
  refine ⟨j, rfl, by simpa using hj, ?_⟩
  have hnd : (numsTo m).Nodup := by
    unfold numsTo List.Nodup
    rw [List.pairwise_map]
    exact List.Pairwise.imp (fun h e => h (by omega)) List.nodup_range
  have h2 : (posF us).Nodup := hp.nodup_iff.2 hnd
  rw [e] at h2
  rw [List.count_eq_zero]
  intro hin
  have := (List.nodup_append.1 h2).2.2 _ hin _ List.mem_cons_self
  exact this rfl

theorem none_all (us : List Int) (m k : Nat) (hk : us.length = k) (hp : (posF us).Perm (numsTo m)) : noneF us k + m = k := by
  unfold noneF
  rw [← hk, List.take_length]
  have h1 := hp.length_eq
  rw [numsTo_len] at h1
  unfold posF at h1
  have h2 : ∀ l : List Int, (l.filter fun u => decide (u < 0)).length + (l.filter fun v => decide (0 ≤ v)).length = l.length := by
    intro l
    induction l with
    | nil => rfl
    | cons x l ih =>
      by_cases hx : 0 ≤ x
      · rw [List.filter_cons_of_pos (p := fun v => decide (0 ≤ v)) (by simpa using hx), List.filter_cons_of_neg (by simpa using hx)]; simp; omega
      · rw [List.filter_cons_of_neg (p := fun v => decide (0 ≤ v)) (by simpa using hx), List.filter_cons_of_pos (by simpa using hx)]; simp; omega
  have := h2 us
  omega

theorem thieves_fact (n k : Nat) (hn : n < 10) (hk : k < 15) (picks : List Int) : ∃ ys1 o1 ys2 a t b, dRunF 0 10 [] (List.replicate 12 0) (giveTo n) [] = ⟨0, ys1, o1, []⟩ ∧
    dRunF 0 10 picks ys1 [] (List.replicate k stealF) = ⟨0, ys2, [], a⟩ ∧ a.length = k ∧ Still ys2 10 t b ∧ b ≤ 10 ∧ (conts ys2 10 t b).length = n - min n k ∧
    (posF (a.map Wk.out)).Perm (numsTo (min n k)) ∧ ∀ u ∈ a.map Wk.out, u = -1 ∨ 0 ≤ u := by
  obtain ⟨ys1, o1, t1, b1, h1, h2, h3, h4, h5, h6, h7⟩ := run_owner (C := 10) [] (List.replicate 12 0) (giveTo n) 0 0 (still_new 10 (by decide) (by decide)) (by decide) (by rw [giveTo_len]; omega)
    (by intro y hy; unfold giveTo at hy; obtain ⟨i, hi, rfl⟩ := List.mem_map.1 hy; have : i < n := by simpa using hi
        exact fresh_give _ (by omega) (by omega)) [] rfl
  have e : (giveTo n).map (fun y => (y.job, y.r0)) = (numsTo n).map fun v => (7, v) := by simp [giveTo, numsTo, giveF]
  rw [e, seq_gives 10 (numsTo n) [] (by rw [numsTo_len]; simp; omega)] at h4
  obtain ⟨ys2, a, t2, b2, g1, g2, g3, g4, g5, g6, g7⟩ := run_thieves (C := 10) picks ys1 stealF freshT_stealF k (by omega) t1 b1 h2 (by decide) h3 (numsTo n) (by rw [h4]; simp)
    (by intro v hv; obtain ⟨i, _, rfl⟩ := List.mem_map.1 hv; omega)
  rw [numsTo_len] at g5 g6
  refine ⟨ys1, o1, ys2, a, t2, b2, h1, g1, g4, g2, g3, ?_, ?_, g7⟩
  · rw [g5, List.length_drop, numsTo_len]
  · have e2 : (numsTo n).take (min n k) = numsTo (min n k) := by
      unfold numsTo; rw [← List.map_take, List.take_range]; congr 2; omega
    rw [← e2]; exact g6

end Go.Proofs.Ytdnajckhnknlcaa

/-! The walk of the law on thieves alone. -/
namespace Go.Proofs.Ytdnajckhnknlcaa
set_option linter.unusedVariables false
set_option linter.unusedSimpArgs false
open Go.RowKit

def ThievesPost (w : World) (e : Ending) (w' : World) : Prop := e = .returned (.bool true) ∧ Below w.heap.size w w'

set_option maxHeartbeats 1000000 in
set_option maxRecDepth 100000 in
theorem thieves7 (tasks thieves : Int) (picks : List Int) (pk : Option Addr) (np cp : Nat) (w : World) (h1 : -9223372036854775808 ≤ tasks) (h2 : tasks ≤ 9223372036854775807) (h3 : -9223372036854775808 ≤ thieves) (h4 : thieves ≤ 9223372036854775807)
    (hk : Rd w 1 pk np cp (ints picks)) (bk : Bd picks) :
    Calls Try.prog 7 #[.int .i64 tasks, .int .i64 thieves, .slice pk np cp] w (ThievesPost w) := by
  obtain ⟨n, hnn⟩ : ∃ n : Nat, pickF tasks 10 = (n : Int) := ⟨(pickF tasks 10).toNat, by have := pickF_lo tasks 10 (by decide); omega⟩
  obtain ⟨k, hkk⟩ : ∃ k : Nat, pickF thieves 15 = (k : Int) := ⟨(pickF thieves 15).toNat, by have := pickF_lo thieves 15 (by decide); omega⟩
  have hn9 : n < 10 := by have := pickF_hi tasks 10 (by decide); omega
  have hk9 : k < 15 := by have := pickF_hi thieves 15 (by decide); omega
  obtain ⟨ys1, o1, ys2, a, t2, b2, hr1, hr2, hal, hs2, hb2, hcl, hpm, hout⟩ := thieves_fact n k hn9 hk9 picks
  obtain ⟨m, hm⟩ : ∃ m, min n k = m := ⟨_, rfl⟩
  rw [hm] at hcl hpm
  have hmn : m ≤ n := by omega
  have hmk : m ≤ k := by omega
  have HMM := Lib.hid hm
  have HNN := Lib.hid hnn
  have HKK := Lib.hid hkk
  have HK := Lib.hid hk
  have BK := Lib.hid bk
  have R1 := Lib.hid hr1
  have R2 := Lib.hid hr2
  have AL := Lib.hid hal
  have S2 := Lib.hid hs2
  have B2 := Lib.hid hb2
  have CL := Lib.hid hcl
  have PM := Lib.hid hpm
  have AO := Lib.hid hout
  clear hm hnn hkk hk bk hr1 hr2 hal hs2 hb2 hcl hpm hout
  obtain ⟨i0, hi, hz0, hz1, hz2⟩ := info_parts info_3
  have HI := Lib.hid hi
  have HZ0 := Lib.hid hz0
  have HZ1 := Lib.hid hz1
  have HZ2 := Lib.hid hz2
  clear hi hz0 hz1 hz2
  go_enter Try.func7, Try.ntmps7
  go_wp2_with fail
  refine (awake10 _).mono ?_
  rintro e w1 ⟨rfl, hw1⟩
  have HW1 := Lib.hid hw1
  clear hw1
  go_wp2_with fail
  refine (pick11 _ _ _ h1 h2 (by decide) (by decide)).mono ?_
  rintro e w2 ⟨rfl, rfl⟩
  rw [HNN.out]
  go_wp2_with fail
  go_loopw [9, 10] (fun v i wr => ∃ j : Nat, j ≤ n ∧ i = .int .i64 (j : Int) ∧ wr.ownsRow w.heap.size 25 12 v j (wkCells (giveTo j)) ∧ Below w.heap.size w wr) (fun _ i _ => n - (intOf i).toNat)
  case atStart => exact ⟨0, Nat.zero_le _, by simp, World.ownsRow_nil _ _ _ _, HW1.out⟩
  case round =>
    obtain ⟨j, hj, rfl, HO, HW⟩ := hrel
    have HO1 := Lib.hid HO
    clear HO
    by_cases hlt : j < n
    · have hs : wkCells (giveTo (j + 1)) = wkCells (giveTo j) ++ wkCells [giveF (j : Int)] := by rw [giveTo_succ, wkCells_append]
      have HS := Lib.hid hs
      clear hs HW1
      go_wp2_with (first
        | (go_at_call 20; go_must (refine (give20 _ _).mono ?_; rintro e w2 ⟨rfl, hb⟩; replace HW := ext_trans HW hb; (have HO3 := Lib.hid (own_ext HO1.out hb)); clear HO1 hb))
        | (refine wpList_ws1 _ rfl (.tmp 34) rfl (giveF (j : Int)) rfl ?_; intro w5 hb HT; replace HW := ext_trans HW hb; (have HO4 := Lib.hid (own_ext HO3.out hb)); clear HO3 hb)
        | (at_builtin; go_must (refine wpList_append_rd _ rfl (.tmp 32) (.tmp 35) 28 rfl w.heap.size 25 _ 12 96 Try.underlying28 info_25 rfl (by decide) _ j _ rfl HO4.out _ 1 1 (wkCells [giveF (j : Int)]) rfl HT (by intro u hu; exact wk_one _ u hu) (by unfold maxLen; omega) (by omega) HW.size ?_)))
      intro v' w1 hown1 hg1 _
      have HE := Lib.hid (owns_grown HO4.out HW hg1 (Nat.le_refl _) HW.size)
      have HO5 := Lib.hid hown1
      clear hown1 hg1 HO4
      go_wp2_with fail
      go_roundw
      case rel => exact ⟨j + 1, by omega, by go_num, by rw [HS.out]; exact HO5.out, HE.out⟩
      case measure => simp [intOf]; omega
    · obtain rfl : n = j := by omega
      obtain ⟨po, co, rfl, hro, _⟩ := Rd.of_owns HO1.out
      have HO2 := Lib.hid hro
      have HW2 := Lib.hid HW
      clear HO1 hro HW HW1 hlt
      go_wp2_with fail
      refine (new_17 10 _ (by decide) (by decide)).mono ?_
      rintro e w2 ⟨pm, cm, rfl, hw2, ho2⟩
      have HM := Lib.hid (rd_fr_of_owns ho2 (Nat.le_refl _)).1
      have HO3 := Lib.hid (HO2.out.ext hw2)
      have HW3 := Lib.hid (ext_trans HW2.out hw2)
      clear ho2 hw2 HO2 HW2
      go_wp2_with fail
      refine (run27_is pm po none none 12 cm n co 0 0 0 0 0 10 [] _ (giveTo n) [] _ HM.out HO3.out (rd_nilw _) (rd_nili _) bd_nil (by omega) (by decide) (by decide) ys1 o1 [] R1.out).mono ?_
      rintro e w5 ⟨p1, c1, q1, d1, q2, d2, rfl, hw5, hm5, _, _⟩
      have HM5 := Lib.hid hm5
      have HW5 := Lib.hid (ext_trans HW3.out hw5)
      clear HM HO3 HW3 hw5 hm5
      go_wp2_with fail
      refine (pick11 _ _ _ h3 h4 (by decide) (by decide)).mono ?_
      rintro e w6 ⟨rfl, rfl⟩
      rw [HKK.out]
      go_wp2_with fail
      refine (steals26 k _ (by omega)).mono ?_
      rintro e w8 ⟨v8, rfl, hw8, ho8⟩
      obtain ⟨pt, ct, rfl, hrt, _⟩ := Rd.of_owns ho8
      have HM8 := Lib.hid (HM5.out.ext hw8)
      have HW8 := Lib.hid (ext_trans HW5.out hw8)
      have HT8 := Lib.hid hrt
      clear HM5 HW5 hw8 hrt ho8
      go_wp2_with fail
      refine (run27_is p1 none pt pk 12 c1 0 0 k ct np cp 0 10 picks ys1 [] (List.replicate k stealF) _ HM8.out (rd_nilw _) HT8.out (HK.out.ext HW8.out) BK.out (by decide) (by omega) (by decide) ys2 [] a R2.out).mono ?_
      rintro e w9 ⟨p2, c2, q3, d3, q4, d4, rfl, hw9, hm9, _, ha9⟩
      have HM9 := Lib.hid hm9
      have HW9 := Lib.hid (ext_trans HW8.out hw9)
      have HA9 := Lib.hid ha9
      clear HM8 HW8 HT8 hw9 hm9 ha9
      go_wp2_with (at_make; go_must (refine wpList_make_full _ rfl (.tmp 69) (.tmp 69) 22 rfl w9.heap.size 3 i0 (.int .i64 0) 1 Try.underlying22 HI.out HZ0.out HZ1.out .i64 .i64 _ _ n rfl rfl (by omega) (by omega) (by rw [HZ2.out]; omega) (by unfold maxLen; omega) (by simp) ?_))
      intro w10 hown hg
      have ho : w10.ownsRow w9.heap.size 3 1 (.slice (some ⟨w9.heap.size, 0, none⟩) n n) n (ints (seenF (a.map Wk.out) n 0)) := by
        rw [seenF_zero, ← madeCells_ints]; exact hown
      have hx := ext_grown (Below.refl _ _) hg (by intro k hk; cases hk)
      have HO := Lib.hid ho
      have HX := Lib.hid hx
      clear hown hg ho hx HI HZ0 HZ1 HZ2
      go_wp2_with fail
      go_loopw [21, 22] (fun c i wr => ∃ q : Nat, q ≤ k ∧ i = .int .i64 (q : Int) ∧ c = .int .i64 ((noneF (a.map Wk.out) q : Nat) : Int) ∧ wr.ownsRow w9.heap.size 3 1 (.slice (some ⟨w9.heap.size, 0, none⟩) n n) n (ints (seenF (a.map Wk.out) n q)) ∧ Below w9.heap.size w9 wr) (fun _ i _ => k - (intOf i).toNat)
      case atStart => exact ⟨0, Nat.zero_le _, rfl, rfl, HO.out, HX.out⟩
      case round =>
        obtain ⟨q, hq, rfl, rfl, HO2, HX2⟩ := hrel
        clear HO HX
        have hnq := noneF_le (a.map Wk.out) q
        by_cases hlt : q < k
        · obtain ⟨y, ey⟩ : ∃ y, a[q]? = some y := ⟨a[q]'(by have := AL.out; omega), List.getElem?_eq_getElem _⟩
          have eu : (a.map Wk.out)[q]? = some y.out := by rw [List.getElem?_map, ey]; rfl
          have hu := AO.out _ (List.mem_of_getElem? eu)
          obtain ⟨b, off, rfl⟩ := HA9.out.addr (by omega) (by decide)
          have hc := aw_out (HA9.out.ext HX2) q y ey
          by_cases hneg : y.out < 0
          · have e1 : y.out = -1 := by omega
            have g1 := seenF_neg _ n q _ eu hneg
            have g2 := noneF_neg _ q _ eu hneg
            rw [e1] at hc
            have G1 := Lib.hid g1
            have G2 := Lib.hid g2
            clear g1 g2 e1 eu ey hu hneg
            go_wp2_with fail
            go_roundw
            case rel => exact ⟨q + 1, by omega, by go_num, by rw [G2.out]; go_num, by rw [G1.out]; exact HO2, HX2⟩
            case measure => simp [intOf]; omega
          · obtain ⟨j, ej, hjm, hj0⟩ := count_zero _ m q _ eu (by omega) PM.out
            rw [ej] at eu hc
            have g1 := seenF_pos _ n q j eu (by omega) hj0
            have g2 := noneF_pos _ q _ eu (by omega)
            have hcs : wr.cell? ⟨w9.heap.size, j, none⟩ = some (.int .i64 0) := by
              rw [HO2.cellAt j (by omega)]
              unfold ints
              rw [List.getElem?_map, seenF_get _ n q j (by omega), hj0]; rfl
            have hcf := HO2.frozenAt j
            have G1 := Lib.hid g1
            have G2 := Lib.hid g2
            clear g1 g2 ej eu ey hu hneg hj0
            go_wp2_with fail
            all_goals
              go_roundw
              case rel => exact ⟨q + 1, by omega, by go_num, by rw [G2.out], by rw [G1.out]; have := (HO2.stored j (.int .i64 1)).1; simpa [ints] using this, ext_set HX2 _ _ (Nat.le_refl _)⟩
              case measure => simp [intOf]; omega
        · obtain rfl : k = q := by omega
          have hnone := none_all (a.map Wk.out) m k (by rw [List.length_map]; exact AL.out) PM.out
          have hmm := HMM.out
          have hcl := CL.out
          have HM10 := Lib.hid (HM9.out.ext HX2)
          have HW10 := Lib.hid (ext_trans HW9.out HX2)
          clear HO2 HX2 HM9 HW9
          by_cases hkn : k < n
          · have e1 : noneF (a.map Wk.out) k = 0 := by omega
            rw [e1]
            have hl : (conts ys2 10 t2 b2).length = n - k := by omega
            have hb0 : (((n - k : Nat) : Int) == (n : Int) - (k : Int)) = true := by simp; omega
            have HL := Lib.hid hl
            clear hl e1 hnone hmm hcl hnq hlt hq
            go_wp2_with fail
            refine (tasks15_still p2 c2 10 ys2 t2 b2 _ S2.out (by have := B2.out; omega) HM10.out).mono ?_
            rw [HL.out]
            rintro e w12 ⟨p6, c6, rfl, hw12, _⟩
            have HW12 := Lib.hid (ext_trans HW10.out hw12)
            clear hw12
            go_wp2_with fail
            go_ret
            exact ⟨rfl, HW12.out⟩
          · have e1 : ((noneF (a.map Wk.out) k : Nat) : Int) = (k : Int) - (n : Int) := by omega
            rw [e1]
            have hl : (conts ys2 10 t2 b2).length = 0 := by omega
            have HL := Lib.hid hl
            clear hl e1 hnone hmm hcl hnq hlt hq
            go_wp2_with fail
            refine (tasks15_still p2 c2 10 ys2 t2 b2 _ S2.out (by have := B2.out; omega) HM10.out).mono ?_
            rw [HL.out]
            rintro e w12 ⟨p6, c6, rfl, hw12, _⟩
            have HW12 := Lib.hid (ext_trans HW10.out hw12)
            clear hw12
            go_wp2_with fail
            go_ret
            exact ⟨rfl, HW12.out⟩

end Go.Proofs.Ytdnajckhnknlcaa
