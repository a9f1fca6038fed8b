/-
  What this law needs beside the contracts, part 2.
-/
import Derived.Test.YtdnajckhnknlcaaT8x1

/-! The walk of the law on the last task. -/
namespace Go.Proofs.Ytdnajckhnknlcaa
set_option linter.unusedVariables false
set_option linter.unusedSimpArgs false
open Go.RowKit

theorem last_one (x : Nat) (hx : x < 1000) : ∃ ys o t b, dRunF 0 3 [] (List.replicate 5 0) [giveF (x : Int)] [] = ⟨0, ys, o, []⟩ ∧ Still ys 3 t b ∧ b ≤ 1 ∧ conts ys 3 t b = [(x : Int)] := by
  obtain ⟨ys, o, t, b, h1, h2, h3, h4, _⟩ := run_owner (C := 1) [] (List.replicate 5 0) [giveF (x : Int)] 0 0 (still_new 3 (by decide) (by decide)) (by decide) (by simp) (by simp; exact fresh_give _ (by omega) (by omega)) [] rfl
  exact ⟨ys, o, t, b, h1, h2, h3, h4⟩

theorem last_three (xs : List Int) (t b : Nat) (hs : Still xs 3 t b) (hb : b ≤ 2) (hL : conts xs 3 t b = []) : ∃ ys y0 y1 y2 y3 t' b', dRunF 0 3 [] xs [giveF 1, giveF 2, giveF 3, giveF 4] [] = ⟨0, ys, [y0, y1, y2, y3], []⟩ ∧ Still ys 3 t' b' ∧ b' ≤ 6 ∧
    conts ys 3 t' b' = [1, 2, 3] ∧ y2.out = 3 ∧ y3.out = -1 := by
  obtain ⟨ys, o, t', b', h1, h2, h3, h4, h5, h6, h7⟩ := run_owner (C := 6) [] xs [giveF 1, giveF 2, giveF 3, giveF 4] t b hs (by decide) (by simp; omega)
    (by intro y hy; simp only [List.mem_cons, List.not_mem_nil, or_false] at hy; rcases hy with rfl | rfl | rfl | rfl <;> exact fresh_give _ (by decide) (by decide)) [] hL
  have e : (seqF 3 ([giveF 1, giveF 2, giveF 3, giveF 4].map fun y => (y.job, y.r0)) []) = ([1, 2, 3, -1], [1, 2, 3]) := by decide
  rw [e] at h4 h5
  rcases o with _ | ⟨y0, _ | ⟨y1, _ | ⟨y2, _ | ⟨y3, _ | ⟨y4, o⟩⟩⟩⟩⟩ <;> simp at h6
  simp at h5
  exact ⟨ys, y0, y1, y2, y3, t', b', h1, h2, h3, h4, h5.2.2.1, h5.2.2.2⟩

theorem rd_123 (w : World) : Rd (w.alloc (.cells #[.int .i64 1, .int .i64 2, .int .i64 3] 3)) 1 (some ⟨w.heap.size, 0, none⟩) 3 3 (ints [1, 2, 3]) := rd_row w [1, 2, 3] 3 rfl (by decide)

def LastPost (w : World) (e : Ending) (w' : World) : Prop := e = .returned (.bool true) ∧ Below w.heap.size w w'

set_option maxHeartbeats 1000000 in
set_option maxRecDepth 100000 in
theorem last8 (task thieves : Int) (picks : List Int) (pk : Option Addr) (np cp : Nat) (w : World) (h1 : -9223372036854775808 ≤ task) (h2 : task ≤ 9223372036854775807) (h3 : -9223372036854775808 ≤ thieves) (h4 : thieves ≤ 9223372036854775807)
    (hk : Rd w 1 pk np cp (ints picks)) (bk : Bd picks) :
    Calls Try.prog 8 #[.int .i64 task, .int .i64 thieves, .slice pk np cp] w (LastPost w) := by
  obtain ⟨x, hxx⟩ : ∃ x : Nat, pickF task 1000 = (x : Int) := ⟨(pickF task 1000).toNat, by have := pickF_lo task 1000 (by decide); omega⟩
  obtain ⟨k, hkk⟩ : ∃ k : Nat, pickF thieves 9 = (k : Int) := ⟨(pickF thieves 9).toNat, by have := pickF_lo thieves 9 (by decide); omega⟩
  have hx9 : x < 1000 := by have := pickF_hi task 1000 (by decide); omega
  have hk9 : k < 9 := by have := pickF_hi thieves 9 (by decide); omega
  obtain ⟨ys1, o1, t1, b1, hr1, hs1, hb1, hc1⟩ := last_one x hx9
  obtain ⟨ys2, y, a, t2, b2, hr2, hs2, hb2, hal, hc2, hyo, hao, hcnt⟩ := run_last (C := 2) picks ys1 stealF takeF freshT_stealF fresh_take rfl k (by omega) t1 b1 hs1 (by decide) (by omega) (x : Int) (by omega) hc1
  obtain ⟨ys3, z0, z1, z2, z3, t3, b3, hr3, hs3, hb3, hc3, hz2, hz3⟩ := last_three ys2 t2 b2 hs2 hb2 hc2
  have HXX := Lib.hid hxx
  have HKK := Lib.hid hkk
  have HK := Lib.hid hk
  have BK := Lib.hid bk
  have R1 := Lib.hid hr1
  have hr2' : dRunF 0 3 picks ys1 [takeF] (List.replicate k stealF) = ⟨0, ys2, [y], a⟩ := hr2
  have R2 := Lib.hid hr2'
  have R3 := Lib.hid hr3
  have S3 := Lib.hid hs3
  have B3 := Lib.hid hb3
  have C3 := Lib.hid hc3
  have Z2 := Lib.hid hz2
  have Z3 := Lib.hid hz3
  have YO := Lib.hid hyo
  have AO := Lib.hid hao
  have AL := Lib.hid hal
  have CNT := Lib.hid hcnt
  clear hxx hkk hk bk hr1 hr2 hr2' hr3 hs1 hs2 hs3 hb1 hb2 hb3 hc1 hc2 hc3 hz2 hz3 hyo hao hal hcnt
  go_enter Try.func8, Try.ntmps8
  go_wp2_with fail
  refine (awake10 _).mono ?_
  rintro e w1 ⟨rfl, hw1⟩
  go_wp2_with fail
  refine (pick11 _ _ _ h1 h2 (by decide) (by decide)).mono ?_
  rintro e w2 ⟨rfl, rfl⟩
  rw [HXX.out]
  go_wp2_with fail
  refine (new_17 3 _ (by decide) (by decide)).mono ?_
  rintro e w2 ⟨pm, cm, rfl, hw2, ho2⟩
  have HM := Lib.hid (rd_fr_of_owns ho2 (Nat.le_refl _)).1
  have HW2 := Lib.hid (ext_trans hw1 hw2)
  clear ho2 hw1 hw2
  go_wp2_with fail
  refine (give20 _ _).mono ?_
  rintro e w3 ⟨rfl, hw3⟩
  have HM3 := Lib.hid (HM.out.ext hw3)
  have HW3 := Lib.hid (ext_trans HW2.out hw3)
  clear HM HW2 hw3
  go_wp2_with (refine wpList_ws1 _ rfl (.tmp 30) rfl (giveF (x : Int)) rfl ?_; intro w4 hw4 ho4)
  have HM4 := Lib.hid (HM3.out.ext hw4)
  have HW4 := Lib.hid (ext_trans HW3.out hw4)
  have HO4 := Lib.hid ho4
  clear HM3 HW3 hw4 ho4
  refine (run27_is pm _ none none 5 cm 1 1 0 0 0 0 0 3 [] _ [giveF (x : Int)] [] _ HM4.out HO4.out (rd_nilw _) (rd_nili _) bd_nil (by decide) (by decide) (by decide) ys1 o1 [] R1.out).mono ?_
  rintro e w5 ⟨p1, c1, q1, d1, q2, d2, rfl, hw5, hm5, _, _⟩
  have HM5 := Lib.hid hm5
  have HW5 := Lib.hid (ext_trans HW4.out hw5)
  clear HM4 HW4 HO4 hw5 hm5
  go_wp2_with fail
  refine (pick11 _ _ _ h3 h4 (by decide) (by decide)).mono ?_
  rintro e w6 ⟨rfl, rfl⟩
  rw [HKK.out]
  go_wp2_with fail
  refine (take22 _).mono ?_
  rintro e w6 ⟨rfl, hw6⟩
  have HM6 := Lib.hid (HM5.out.ext hw6)
  have HW6 := Lib.hid (ext_trans HW5.out hw6)
  clear HM5 HW5 hw6
  go_wp2_with (refine wpList_ws1 _ rfl (.tmp 42) rfl takeF rfl ?_; intro w7 hw7 ho7)
  have HM7 := Lib.hid (HM6.out.ext hw7)
  have HW7 := Lib.hid (ext_trans HW6.out hw7)
  have HO7 := Lib.hid ho7
  clear HM6 HW6 hw7 ho7
  refine (steals26 k _ (by omega)).mono ?_
  rintro e w8 ⟨v8, rfl, hw8, ho8⟩
  obtain ⟨pt, ct, rfl, hrt, _⟩ := Rd.of_owns ho8
  have HM8 := Lib.hid (HM7.out.ext hw8)
  have HW8 := Lib.hid (ext_trans HW7.out hw8)
  have HO8 := Lib.hid (HO7.out.ext hw8)
  have HT8 := Lib.hid hrt
  clear HM7 HW7 HO7 hw8 hrt ho8
  go_wp2_with fail
  refine (run27_is p1 _ pt pk 5 c1 1 1 k ct np cp 0 3 picks ys1 [takeF] (List.replicate k stealF) _ HM8.out HO8.out HT8.out (HK.out.ext HW8.out) BK.out (by decide) (by omega) (by decide) ys2 [y] a R2.out).mono ?_
  rintro e w9 ⟨p2, c2, q3, d3, q4, d4, rfl, hw9, hm9, ho9, ha9⟩
  have HM9 := Lib.hid hm9
  have HW9 := Lib.hid (ext_trans HW8.out hw9)
  have HO9 := Lib.hid ho9
  have HA9 := Lib.hid ha9
  clear HM8 HW8 HO8 HT8 hw9 hm9 ho9 ha9
  go_wp2_with fail
  go_loop [18, 19] (fun c i => ∃ j : Nat, j ≤ k ∧ i = .int .i64 (j : Int) ∧ ∃ n : Int, c = .int .i64 n ∧ Hid (n = ((((a.map Wk.out).take j).count (x : Int) : Nat) : Int))) (fun _ i => k - (intOf i).toNat)
  case atStart => exact ⟨0, Nat.zero_le _, rfl, 0, rfl, by simp [Hid]⟩
  case round =>
    obtain ⟨j, hj, rfl, n, rfl, hn⟩ := hrel
    have hn1 : 0 ≤ n := by have := hn.out; omega
    have hn2 : n ≤ 20 := by
      have := hn.out
      have h5 : ((a.map Wk.out).take j).count (x : Int) ≤ ((a.map Wk.out).take j).length := List.count_le_length
      rw [List.length_take] at h5
      omega
    by_cases hlt : j < k
    · obtain ⟨u, eu⟩ : ∃ u, a[j]? = some u := ⟨a[j]'(by have := AL.out; omega), List.getElem?_eq_getElem _⟩
      have hu : u.out = (x : Int) ∨ u.out = -1 := AO.out _ (List.mem_map.2 ⟨u, List.mem_of_getElem? eu, rfl⟩)
      have htk : (a.map Wk.out).take (j + 1) = (a.map Wk.out).take j ++ [u.out] := by
        rw [List.take_add_one, List.getElem?_map, eu]; rfl
      obtain ⟨b, off, rfl⟩ := HA9.out.addr (by omega) (by decide)
      have hc := aw_out HA9.out j u eu
      rcases hu with e | e
      · have HN : Hid (n + 1 = ((((a.map Wk.out).take (j + 1)).count (x : Int) : Nat) : Int)) := by
          show n + 1 = _
          rw [htk, e, List.count_append, List.count_singleton_self, hn.out]; omega
        rw [e] at hc
        clear htk hn e eu
        go_wp2_with fail
        go_round
        case rel => exact ⟨j + 1, by omega, by go_num, n + 1, rfl, HN⟩
        case measure => simp [intOf]; omega
      · have HN : Hid (n = ((((a.map Wk.out).take (j + 1)).count (x : Int) : Nat) : Int)) := by
          show n = _
          rw [htk, e, List.count_append, List.count_eq_zero.2 (show (x : Int) ∉ [-1] by simp), hn.out]; omega
        have hb : ((-1 : Int) == (x : Int)) = false := by simp
        rw [e] at hc
        clear htk hn e eu
        go_wp2_with fail
        go_round
        case rel => exact ⟨j + 1, by omega, by go_num, n, rfl, HN⟩
        case measure => simp [intOf]; omega
    · have hjk : j = k := by omega
      subst hjk
      have hall : n = (((a.map Wk.out).count (x : Int) : Nat) : Int) := by
        have := hn.out
        rw [List.take_of_length_le (by simp; rw [AL.out]; omega)] at this
        exact this
      obtain ⟨bo, oo, rfl⟩ := HO9.out.addr (by decide) (by decide)
      have hc := aw_out HO9.out 0 y rfl
      simp only [Nat.zero_mul, Nat.add_zero] at hc
      have hcn := CNT.out
      rcases YO.out with e | e
      · rw [e] at hc hcn
        rw [List.count_singleton_self] at hcn
        obtain rfl : n = 0 := by omega
        clear hall hn hcn e
        go_wp2_with fail
        refine (give20 _ _).mono ?_
        rintro e w10 ⟨rfl, hw10⟩
        have HM10 := Lib.hid (HM9.out.ext hw10)
        have HW10 := Lib.hid (ext_trans HW9.out hw10)
        clear HM9 HW9 HO9 HA9 hw10 hc
        go_wp2_with fail
        refine (give20 _ _).mono ?_
        rintro e w11 ⟨rfl, hw11⟩
        have HM11 := Lib.hid (HM10.out.ext hw11)
        have HW11 := Lib.hid (ext_trans HW10.out hw11)
        clear HM10 HW10 hw11
        go_wp2_with fail
        refine (give20 _ _).mono ?_
        rintro e w12 ⟨rfl, hw12⟩
        have HM12 := Lib.hid (HM11.out.ext hw12)
        have HW12 := Lib.hid (ext_trans HW11.out hw12)
        clear HM11 HW11 hw12
        go_wp2_with fail
        refine (give20 _ _).mono ?_
        rintro e w13 ⟨rfl, hw13⟩
        have HM13 := Lib.hid (HM12.out.ext hw13)
        have HW13 := Lib.hid (ext_trans HW12.out hw13)
        clear HM12 HW12 hw13
        go_wp2_with (refine wpList_ws4 _ rfl (.tmp 103) (.tmp 104) (.tmp 105) (.tmp 106) rfl (giveF 1) (giveF 2) (giveF 3) (giveF 4) rfl rfl rfl rfl ?_; intro w14 hw14 ho14)
        have HM14 := Lib.hid (HM13.out.ext hw14)
        have HW14 := Lib.hid (ext_trans HW13.out hw14)
        have HO14 := Lib.hid ho14
        clear HM13 HW13 hw14 ho14
        refine (run27_is p2 _ none none 5 c2 4 4 0 0 0 0 0 3 [] ys2 [giveF 1, giveF 2, giveF 3, giveF 4] [] _ HM14.out HO14.out (rd_nilw _) (rd_nili _) bd_nil (by decide) (by decide) (by decide) ys3 [z0, z1, z2, z3] [] R3.out).mono ?_
        rintro e w15 ⟨p5, c5, q5, d5, q6, d6, rfl, hw15, hm15, ho15, _⟩
        obtain ⟨bz, oz, rfl⟩ := ho15.addr (by decide) (by decide)
        have hc2 := aw_out ho15 2 z2 rfl
        have hc3 := aw_out ho15 3 z3 rfl
        rw [Z2.out] at hc2
        rw [Z3.out] at hc3
        simp only [Nat.reduceMul] at hc2 hc3
        have HM15 := Lib.hid hm15
        have HW15 := Lib.hid (ext_trans HW14.out hw15)
        clear HM14 HW14 HO14 hw15 hm15 ho15
        go_wp2_with fail
        refine (tasks15_still p5 c5 3 ys3 t3 b3 _ S3.out (by have := B3.out; omega) HM15.out).mono ?_
        rw [C3.out]
        rintro e w16 ⟨p6, c6, rfl, hw16, hm16⟩
        have HW16 := Lib.hid (ext_trans HW15.out hw16)
        have HM16 := Lib.hid hm16
        have HM17 : Hid (Rd (w16.alloc (.cells #[.int .i64 1, .int .i64 2, .int .i64 3] 3)) 1 p6 3 c6 (ints [1, 2, 3])) := hm16.alloc _
        have HM18 := Lib.hid (rd_123 w16)
        clear HW15 hw16 hm16
        go_wp2_with fail
        refine (ints_eq p6 _ 3 c6 3 3 [1, 2, 3] [1, 2, 3] _ HM17.out HM18.out (by decide) (by decide) rfl).mono ?_
        rintro e w17 ⟨rfl, hw17⟩
        have HW17 := Lib.hid (ext_trans (ext_alloc HW16.out _) hw17)
        clear HW16 hw17 HM16
        go_wp2_with fail
        go_ret
        exact ⟨rfl, HW17.out⟩
      · rw [e] at hc hcn
        rw [List.count_eq_zero.2 (show (x : Int) ∉ [-1] by simp)] at hcn
        obtain rfl : n = 1 := by omega
        have hb : ((-1 : Int) == (x : Int)) = false := by simp
        clear hall hn hcn e
        go_wp2_with fail
        refine (give20 _ _).mono ?_
        rintro e w10 ⟨rfl, hw10⟩
        have HM10 := Lib.hid (HM9.out.ext hw10)
        have HW10 := Lib.hid (ext_trans HW9.out hw10)
        clear HM9 HW9 HO9 HA9 hw10 hc
        go_wp2_with fail
        refine (give20 _ _).mono ?_
        rintro e w11 ⟨rfl, hw11⟩
        have HM11 := Lib.hid (HM10.out.ext hw11)
        have HW11 := Lib.hid (ext_trans HW10.out hw11)
        clear HM10 HW10 hw11
        go_wp2_with fail
        refine (give20 _ _).mono ?_
        rintro e w12 ⟨rfl, hw12⟩
        have HM12 := Lib.hid (HM11.out.ext hw12)
        have HW12 := Lib.hid (ext_trans HW11.out hw12)
        clear HM11 HW11 hw12
        go_wp2_with fail
        refine (give20 _ _).mono ?_
        rintro e w13 ⟨rfl, hw13⟩
        have HM13 := Lib.hid (HM12.out.ext hw13)
        have HW13 := Lib.hid (ext_trans HW12.out hw13)
        clear HM12 HW12 hw13
        go_wp2_with (refine wpList_ws4 _ rfl (.tmp 103) (.tmp 104) (.tmp 105) (.tmp 106) rfl (giveF 1) (giveF 2) (giveF 3) (giveF 4) rfl rfl rfl rfl ?_; intro w14 hw14 ho14)
        have HM14 := Lib.hid (HM13.out.ext hw14)
        have HW14 := Lib.hid (ext_trans HW13.out hw14)
        have HO14 := Lib.hid ho14
        clear HM13 HW13 hw14 ho14
        refine (run27_is p2 _ none none 5 c2 4 4 0 0 0 0 0 3 [] ys2 [giveF 1, giveF 2, giveF 3, giveF 4] [] _ HM14.out HO14.out (rd_nilw _) (rd_nili _) bd_nil (by decide) (by decide) (by decide) ys3 [z0, z1, z2, z3] [] R3.out).mono ?_
        rintro e w15 ⟨p5, c5, q5, d5, q6, d6, rfl, hw15, hm15, ho15, _⟩
        obtain ⟨bz, oz, rfl⟩ := ho15.addr (by decide) (by decide)
        have hc2 := aw_out ho15 2 z2 rfl
        have hc3 := aw_out ho15 3 z3 rfl
        rw [Z2.out] at hc2
        rw [Z3.out] at hc3
        simp only [Nat.reduceMul] at hc2 hc3
        have HM15 := Lib.hid hm15
        have HW15 := Lib.hid (ext_trans HW14.out hw15)
        clear HM14 HW14 HO14 hw15 hm15 ho15
        go_wp2_with fail
        refine (tasks15_still p5 c5 3 ys3 t3 b3 _ S3.out (by have := B3.out; omega) HM15.out).mono ?_
        rw [C3.out]
        rintro e w16 ⟨p6, c6, rfl, hw16, hm16⟩
        have HW16 := Lib.hid (ext_trans HW15.out hw16)
        have HM16 := Lib.hid hm16
        have HM17 : Hid (Rd (w16.alloc (.cells #[.int .i64 1, .int .i64 2, .int .i64 3] 3)) 1 p6 3 c6 (ints [1, 2, 3])) := hm16.alloc _
        have HM18 := Lib.hid (rd_123 w16)
        clear HW15 hw16 hm16
        go_wp2_with fail
        refine (ints_eq p6 _ 3 c6 3 3 [1, 2, 3] [1, 2, 3] _ HM17.out HM18.out (by decide) (by decide) rfl).mono ?_
        rintro e w17 ⟨rfl, hw17⟩
        have HW17 := Lib.hid (ext_trans (ext_alloc HW16.out _) hw17)
        clear HW16 hw17 HM16
        go_wp2_with fail
        go_ret
        exact ⟨rfl, HW17.out⟩

end Go.Proofs.Ytdnajckhnknlcaa
