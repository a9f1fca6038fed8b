/-
  What this law needs beside the contracts, part 2.
-/
import Derived.Test.YtdnajckhnknlcaaT9x1
import Derived.IntWalk

/-! The walk of the law on where a deque stands. -/
namespace Go.Proofs.Ytdnajckhnknlcaa
set_option linter.unusedVariables false
set_option linter.unusedSimpArgs false
open Go.RowKit

theorem hist_any (r : Nat) : Hist r (fun _ _ _ => True) := ⟨fun _ _ _ _ _ _ _ _ _ _ => trivial, fun _ _ _ _ _ _ _ _ _ => trivial, fun _ _ _ _ _ _ _ _ _ => trivial, fun _ _ _ _ _ _ _ => trivial, fun _ _ _ _ _ _ => trivial, fun _ _ _ _ _ _ => trivial⟩

/-- What lies ahead of the deque. -/
def aheadF (k : Nat) : List Int := (List.range k).map fun (i : Nat) => 77 + (i : Int)
theorem aheadF_len (k : Nat) : (aheadF k).length = k := by simp [aheadF]
theorem aheadF_succ (k : Nat) : aheadF (k + 1) = aheadF k ++ [77 + (k : Int)] := by simp [aheadF, List.range_succ]

theorem base_run (r k t : Nat) (h1 : 1 ≤ r) (h2 : r ≤ 5) (hk : k < 9) (ht : t < 9) (picks raw : List Int) : ∃ ys o a, ys.length = r + 2 ∧ o.length = min raw.length 14 ∧ a.length = t ∧
    dRunF 0 r picks (List.replicate (r + 2) 0) (ownerF raw 100) (List.replicate t stealF) = ⟨0, ys, o, a⟩ ∧
    dRunF k r picks (aheadF k ++ List.replicate (r + 2) 0 ++ [5, 6]) (ownerF raw 100) (List.replicate t stealF) = ⟨0, aheadF k ++ ys ++ [5, 6], o, a⟩ := by
  have hl := owner_len raw 100
  obtain ⟨ys, o, a, t', b', h3, h4, h5, _, _, _, h6, h7, _⟩ := run_main (C := 14) (hist_any r) picks (List.replicate (r + 2) 0) (ownerF raw 100) (List.replicate t stealF) 0 0 (still_new r h1 (by omega)) (by decide) (by omega)
    (owner_fresh raw 100 (by decide) (by decide)) (freshT_steal t stealF freshT_stealF) (by simp; omega) (by simp; omega) trivial
  refine ⟨ys, o, a, h4.dq.len, by rw [h6, hl], by rw [h7]; simp, h3, ?_⟩
  have := dRunF_shift (aheadF k) [5, 6] r picks (List.replicate (r + 2) 0) (ownerF raw 100) (List.replicate t stealF) (by rw [aheadF_len]; omega) h1 (by omega) ys o a h3
  rw [aheadF_len] at this
  exact this

theorem rd_56 (w : World) : Rd (w.alloc (.cells #[.int .i64 5, .int .i64 6] 3)) 1 (some ⟨w.heap.size, 0, none⟩) 2 2 [.int .i64 5, .int .i64 6] := rd_row w [5, 6] 2 rfl (by decide)

def BasePost (w : World) (e : Ending) (w' : World) : Prop := e = .returned (.bool true) ∧ Below w.heap.size w w'

set_option maxHeartbeats 1000000 in
set_option maxRecDepth 100000 in
theorem base9 (room thieves at_ : Int) (raw picks : List Int) (pr : Option Addr) (nr cr : Nat) (pk : Option Addr) (np cp : Nat) (w : World) (h1 : -9223372036854775808 ≤ room) (h2 : room ≤ 9223372036854775807) (h3 : -9223372036854775808 ≤ thieves) (h4 : thieves ≤ 9223372036854775807)
    (h5 : -9223372036854775808 ≤ at_) (h6 : at_ ≤ 9223372036854775807)
    (hr : Rd w 1 pr nr cr (ints raw)) (hk : Rd w 1 pk np cp (ints picks)) (br : Bd raw) (bk : Bd picks) :
    Calls Try.prog 9 #[.int .i64 room, .slice pr nr cr, .int .i64 thieves, .slice pk np cp, .int .i64 at_] w (BasePost w) := by
  obtain ⟨r, hrr⟩ : ∃ r : Nat, pickF room 5 = (r : Int) := ⟨(pickF room 5).toNat, by have := pickF_lo room 5 (by decide); omega⟩
  obtain ⟨t, htt⟩ : ∃ t : Nat, pickF thieves 9 = (t : Int) := ⟨(pickF thieves 9).toNat, by have := pickF_lo thieves 9 (by decide); omega⟩
  obtain ⟨k, hkk⟩ : ∃ k : Nat, pickF at_ 9 = (k : Int) := ⟨(pickF at_ 9).toNat, by have := pickF_lo at_ 9 (by decide); omega⟩
  have hr5 : r < 5 := by have := pickF_hi room 5 (by decide); omega
  obtain ⟨R, hR⟩ : ∃ R : Nat, 1 + (r : Int) = R := ⟨r + 1, by omega⟩
  have hRa : 1 ≤ R := by omega
  have hRb : R ≤ 5 := by omega
  have ht9 : t < 9 := by have := pickF_hi thieves 9 (by decide); omega
  have hk9 : k < 9 := by have := pickF_hi at_ 9 (by decide); omega
  have hlr : raw.length = nr := by have := hr.len; rw [ints_len] at this; omega
  obtain ⟨ys, o, a, hyl, hol, hal, hR1, hR2⟩ := base_run R k t (by omega) (by omega) hk9 ht9 picks raw
  rw [hlr] at hol
  have HRR := Lib.hid hrr
  have HRe := Lib.hid hR
  have HTT := Lib.hid htt
  have HKK := Lib.hid hkk
  have HR := Lib.hid hr
  have HK := Lib.hid hk
  have BR := Lib.hid br
  have BK := Lib.hid bk
  have YL := Lib.hid hyl
  have OL := Lib.hid hol
  have AL := Lib.hid hal
  have R1 := Lib.hid hR1
  have R2 := Lib.hid hR2
  clear hrr hR htt hkk hr hk br bk hyl hol hal hR1 hR2 hlr
  go_enter Try.func9, Try.ntmps9
  go_wp2_with fail
  refine (awake10 _).mono ?_
  rintro e w1 ⟨rfl, hw1⟩
  go_wp2_with fail
  refine (pick11 _ _ _ h1 h2 (by decide) (by decide)).mono ?_
  rintro e w2 ⟨rfl, rfl⟩
  rw [HRR.out]
  go_wp2_with fail
  refine (pick11 _ _ _ h5 h6 (by decide) (by decide)).mono ?_
  rintro e w2 ⟨rfl, rfl⟩
  rw [HKK.out]
  have HW1 := Lib.hid hw1
  clear hw1
  go_wp2_with fail
  rw [HRe.out]
  go_loopw [14, 15] (fun v i wr => ∃ j : Nat, j ≤ k ∧ i = .int .i64 (j : Int) ∧ wr.ownsRow w.heap.size 3 1 v j (ints (aheadF j)) ∧ Below w.heap.size w wr) (fun _ i _ => k - (intOf i).toNat)
  case atStart => exact ⟨0, Nat.zero_le _, by simp, World.ownsRow_nil _ _ _ _, HW1.out⟩
  case round =>
    obtain ⟨j, hj, rfl, HO, HW⟩ := hrel
    by_cases hlt : j < k
    · have hs : ints (aheadF (j + 1)) = ints (aheadF j) ++ [.int .i64 (77 + (j : Int))] := by rw [aheadF_succ]; simp [ints]
      have HS := Lib.hid hs
      have HO1 := Lib.hid HO
      clear hs HO
      go_wp2_with (at_builtin; go_must (refine wpList_append_rd _ rfl (.tmp 37) (.tmp 40) 22 rfl w.heap.size 3 (.int .i64 0) 1 8 Try.underlying22 info_3 rfl (by decide) _ j _ rfl (HO1.out.alloc _) (some ⟨wr.heap.size, 0, none⟩) 1 1 [.int .i64 (77 + (j : Int))] rfl (rd_one wr 3 _) (by simp [Value.oneCell']) (by unfold maxLen; omega) (by omega) (by have := HW.size; simp; omega) ?_))
      intro v' w1 hown1 hg1 _
      have HE := Lib.hid (owns_grown (HO1.out.alloc (.cells #[.int .i64 (77 + (j : Int))] 3)) (ext_alloc HW _) hg1 (Nat.le_refl _) (by have := HW.size; simp; omega))
      have HO3 := Lib.hid hown1
      clear hown1 hg1
      go_wp2_with fail
      go_roundw
      case rel => exact ⟨j + 1, by omega, by go_num, by rw [HS.out]; exact HO3.out, HE.out⟩
      case measure => simp [intOf]; omega
    · have hjk : j = k := by omega
      subst hjk
      have HO1 := Lib.hid HO
      have HW2 := Lib.hid HW
      clear HO HW HW1
      go_wp2_with fail
      refine (new_17 R _ (by omega) (by omega)).mono ?_
      rintro e w2 ⟨pm, cm, rfl, hw2, ho2⟩
      have HO2 := Lib.hid (own_ext HO1.out hw2)
      have HW3 := Lib.hid (ext_trans HW2.out hw2)
      have HN := Lib.hid (rd_fr_of_owns ho2 (Nat.le_refl _)).1
      clear HO1 HW2 hw2 ho2
      go_wp2_with (at_builtin; go_must (refine wpList_append_rd _ rfl (.tmp 42) (.tmp 44) 22 rfl w.heap.size 3 (.int .i64 0) 1 8 Try.underlying22 info_3 rfl (by decide) _ j _ rfl HO2.out pm (R + 2) cm (ints (List.replicate (R + 2) 0)) rfl HN.out (ints_one _) (by unfold maxLen; omega) (by omega) HW3.out.size ?_))
      intro v3 w3 hown3 hg3 _
      have HW4 := Lib.hid (owns_grown HO2.out HW3.out hg3 (Nat.le_refl _) HW3.out.size)
      have HO3 := Lib.hid hown3
      clear hown3 hg3 HO2 HW3 HN
      have HO3a : Hid ((w3.alloc (.cells #[.int .i64 5, .int .i64 6] 3)).ownsRow w.heap.size 3 1 v3 (j + (R + 2)) (ints (aheadF j) ++ ints (List.replicate (R + 2) 0))) := HO3.out.alloc _
      have HW4a : Hid (Below w.heap.size w (w3.alloc (.cells #[.int .i64 5, .int .i64 6] 3))) := ext_alloc HW4.out _
      have H56 := Lib.hid (rd_56 w3)
      clear HO3 HW4
      go_wp2_with (at_builtin; go_must (refine wpList_append_rd _ rfl (.tmp 45) (.tmp 46) 22 rfl w.heap.size 3 (.int .i64 0) 1 8 Try.underlying22 info_3 rfl (by decide) _ (j + (R + 2)) _ rfl HO3a.out (some ⟨w3.heap.size, 0, none⟩) 2 2 [.int .i64 5, .int .i64 6] rfl H56.out (by simp [Value.oneCell']) (by unfold maxLen; omega) (by omega) HW4a.out.size ?_))
      intro v4 w4 hown4 hg4 _
      have HW5 := Lib.hid (owns_grown HO3a.out HW4a.out hg4 (Nat.le_refl _) HW4a.out.size)
      obtain ⟨pm2, cm2, rfl, hm5, _⟩ := Rd.of_owns hown4
      rw [show ints (aheadF j) ++ (ints (List.replicate (R + 2) 0) ++ [.int .i64 5, .int .i64 6]) = ints (aheadF j ++ List.replicate (R + 2) 0 ++ [5, 6]) by simp [ints]] at hm5
      obtain ⟨N, hN⟩ : ∃ N, j + (R + 2) + 2 = N := ⟨_, rfl⟩
      rw [hN] at hm5 ⊢
      have HM5 := Lib.hid hm5
      have HNN := Lib.hid hN
      clear hown4 hg4 HO3a HW4a H56 hm5
      have hNb : N ≤ 20 := by omega
      have hNlo : j + R + 4 ≤ N := by omega
      have hNhi : N ≤ j + R + 4 := by omega
      clear hN
      go_wp2_with fail
      refine (owner25 pr nr cr raw 100 _ (HR.out.ext HW5.out) BR.out (by decide) (by decide)).mono ?_
      rintro e w6 ⟨v6, rfl, hw6, ho6⟩
      obtain ⟨po, co, rfl, hro, _⟩ := Rd.of_owns ho6
      have HM6 := Lib.hid (HM5.out.ext hw6)
      have HW6 := Lib.hid (ext_trans HW5.out hw6)
      have HO6 := Lib.hid hro
      clear HM5 HW5 hw6 ho6 hro
      go_wp2_with fail
      refine (pick11 _ _ _ h3 h4 (by decide) (by decide)).mono ?_
      rintro e w7 ⟨rfl, rfl⟩
      rw [HTT.out]
      go_wp2_with fail
      refine (steals26 t _ (by omega)).mono ?_
      rintro e w7 ⟨v7, rfl, hw7, ho7⟩
      obtain ⟨pt, ct, rfl, hrt, _⟩ := Rd.of_owns ho7
      have HM7 := Lib.hid (HM6.out.ext hw7)
      have HW7 := Lib.hid (ext_trans HW6.out hw7)
      have HO7 := Lib.hid (HO6.out.ext hw7)
      have HT7 := Lib.hid hrt
      clear HM6 HW6 HO6 hw7 ho7 hrt
      go_wp2_with fail
      refine (run27_is pm2 po pt pk N cm2 (min nr 14) co t ct np cp (j : Int) (R : Int) picks _ (ownerF raw 100) (List.replicate t stealF) _ HM7.out HO7.out HT7.out (HK.out.ext HW7.out) BK.out (by omega) (by omega) (by omega) _ o a R2.out).mono ?_
      rintro e w8 ⟨p1, c1, p2, c2, p3, c3, rfl, hw8, g1, g2, g3⟩
      have HM8 := Lib.hid (HM7.out.ext hw8)
      have HO8 := Lib.hid (HO7.out.ext hw8)
      have HT8 := Lib.hid (HT7.out.ext hw8)
      have HW8 := Lib.hid (ext_trans HW7.out hw8)
      have G1 := Lib.hid g1
      have G2 := Lib.hid g2
      have G3 := Lib.hid g3
      clear HM7 HO7 HT7 HW7 hw8 g1 g2 g3
      go_wp2_with fail
      refine (new_17 R _ (by omega) (by omega)).mono ?_
      rintro e w9 ⟨pn, cn, rfl, hw9, ho9⟩
      have HN9 := Lib.hid (rd_fr_of_owns ho9 (Nat.le_refl _)).1
      have HM9 := Lib.hid (HM8.out.ext hw9)
      have HO9 := Lib.hid (HO8.out.ext hw9)
      have HT9 := Lib.hid (HT8.out.ext hw9)
      have HW9 := Lib.hid (ext_trans HW8.out hw9)
      have G19 := Lib.hid (G1.out.ext hw9)
      have G29 := Lib.hid (G2.out.ext hw9)
      have G39 := Lib.hid (G3.out.ext hw9)
      clear HM8 HO8 HT8 HW8 hw9 ho9 G1 G2 G3
      go_wp2_with fail
      refine (run27_is pn po pt pk (R + 2) cn (min nr 14) co t ct np cp 0 (R : Int) picks _ (ownerF raw 100) (List.replicate t stealF) _ HN9.out HO9.out HT9.out (HK.out.ext HW9.out) BK.out (by omega) (by omega) (by omega) ys o a R1.out).mono ?_
      rintro e w10 ⟨p4, c4, p5, c5, p6, c6, rfl, hw10, g4, g5, g6⟩
      have HM10 := Lib.hid (HM9.out.ext hw10)
      have HW10 := Lib.hid (ext_trans HW9.out hw10)
      have G110 := Lib.hid (G19.out.ext hw10)
      have G210 := Lib.hid (G29.out.ext hw10)
      have G310 := Lib.hid (G39.out.ext hw10)
      have G4 := Lib.hid g4
      have G5 := Lib.hid g5
      have G6 := Lib.hid g6
      clear HM9 HO9 HT9 HW9 HN9 hw10 g4 g5 g6 G19 G29 G39
      go_wp2_with fail
      refine (wks_eq p2 p5 (min nr 14) c2 c5 o _ G210.out G5.out (by omega)).mono ?_
      rintro e w11 ⟨rfl, hw11⟩
      have HM11 := Lib.hid (HM10.out.ext hw11)
      have HW11 := Lib.hid (ext_trans HW10.out hw11)
      have G111 := Lib.hid (G110.out.ext hw11)
      have G311 := Lib.hid (G310.out.ext hw11)
      have G411 := Lib.hid (G4.out.ext hw11)
      have G611 := Lib.hid (G6.out.ext hw11)
      clear HM10 HW10 G110 G210 G310 G4 G5 G6 hw11
      go_wp2_with fail
      refine (wks_eq p3 p6 t c3 c6 a _ G311.out G611.out (by omega)).mono ?_
      rintro e w12 ⟨rfl, hw12⟩
      have hm12 := HM11.out.ext hw12
      have hg1 := G111.out.ext hw12
      have hg4 := G411.out.ext hw12
      have HW12 := Lib.hid (ext_trans HW11.out hw12)
      clear HM11 HW11 G111 G311 G411 G611 hw12
      obtain ⟨b1, f1, rfl⟩ := hg1.addr (by omega) (by decide)
      obtain ⟨b2, f2, rfl⟩ := hm12.addr (by omega) (by decide)
      obtain ⟨b4, f4, rfl⟩ := hg4.addr (by omega) (by decide)
      have hyl := YL.out
      have hNe := HNN.out
      have q1 := hg1.cell (N - 2) _ (by
        rw [show (ints (aheadF j ++ ys ++ [5, 6]))[N - 2]? = some (.int .i64 5) by
          unfold ints; rw [List.getElem?_map, List.getElem?_append_right (by simp [aheadF_len]; omega)]
          simp [aheadF_len, hyl, show N - 2 - (j + (R + 2)) = 0 by omega]])
      have q2 := hg1.cell (N - 1) _ (by
        rw [show (ints (aheadF j ++ ys ++ [5, 6]))[N - 1]? = some (.int .i64 6) by
          unfold ints; rw [List.getElem?_map, List.getElem?_append_right (by simp [aheadF_len]; omega)]
          simp [aheadF_len, hyl, show N - 1 - (j + (R + 2)) = 1 by omega]])
      have qa := hg1.part 0 j (by omega) (aheadF j) (by simp [aheadF_len])
      have qb := hm12.part 0 j (by omega) (aheadF j) (by simp [aheadF_len])
      have qc := hg1.part j (R + 2) (by omega) ys (by rw [List.append_assoc, List.drop_append, aheadF_len, Nat.sub_self, List.drop_of_length_le (by rw [aheadF_len]; omega)]; simp [← hyl])
      simp only [Nat.add_zero, Nat.sub_zero] at qa qb
      have QA := Lib.hid qa
      have QB := Lib.hid qb
      have QC := Lib.hid qc
      clear qa qb qc
      have HM12 := Lib.hid hm12
      have G112 := Lib.hid hg1
      have G412 := Lib.hid hg4
      have hcap1 := hg1.cap
      have hcap2 := hm12.cap
      have hcap4 := hg4.cap
      have hmx1 := hg1.max
      have hmx2 := hm12.max
      unfold maxLen at hmx1 hmx2
      clear hm12 hg1 hg4 hyl hNe
      have z1 : ((j : Int) + (R : Int)).toNat = j + R := by omega
      have z2 : ((j : Int) + (R : Int) + 2).toNat = j + R + 2 := by omega
      have z3 : ((N : Int) - 2).toNat = N - 2 := by omega
      have z4 : ((N : Int) - 1).toNat = N - 1 := by omega
      have s0 : (0 : Int) ≤ (j : Int) + (R : Int) + 2 := by omega
      have s01 : (0 : Int) ≤ (N : Int) - 2 := by omega
      have s02 : (0 : Int) ≤ (N : Int) - 1 := by omega
      have s1 : IntKind.i64.wrap ((j : Int) + (R : Int)) = (j : Int) + (R : Int) := IntWalk.i64_in _ ⟨by omega, by omega⟩
      have s2 : IntKind.i64.wrap ((j : Int) + (R : Int) + 2) = (j : Int) + (R : Int) + 2 := IntWalk.i64_in _ ⟨by omega, by omega⟩
      have s3 : IntKind.i64.wrap ((N : Int) - 2) = (N : Int) - 2 := IntWalk.i64_in _ ⟨by omega, by omega⟩
      have s4 : IntKind.i64.wrap ((N : Int) - 1) = (N : Int) - 1 := IntWalk.i64_in _ ⟨by omega, by omega⟩
      have r1 := fun (W : World) => run_slice_hi W b1 f1 N c1 j (j : Int) (by omega) rfl
      have r2 := fun (W : World) => run_slice_hi W b2 f2 N cm2 j (j : Int) (by omega) rfl
      have r3 : ∀ (W : World), (Instr.slice 22 (.slice (some ⟨b1, f1, none⟩) N c1) (some (.int .i64 (j : Int))) (some (.int .i64 ((j : Int) + (R : Int) + 2))) none).run Try.prog W = .ok (.slice (some ⟨b1, f1 + j, none⟩) (R + 2) (c1 - j)) W := by
        intro W
        have := run_slice_lohi W b1 f1 N c1 j (j + R + 2) (j : Int) ((j : Int) + (R : Int) + 2) (by omega) (by omega) (by omega) rfl (by omega)
        rwa [show j + R + 2 - j = R + 2 by omega] at this
      go_wp2_with fail
      go_quiet (first
        | (go_at_call_of 14 (Value.slice (some ⟨b1, f1, none⟩) j c1); exact ints_quiet _ _ _ _ _ _ _ _ _ _ QA.out QB.out (by omega) (by omega) rfl)
        | (go_at_call_of 14 (Value.slice (some ⟨b1, f1 + j, none⟩) (R + 2) (c1 - j)); exact ints_quiet _ _ _ _ _ _ _ _ _ _ QC.out G412.out (by omega) (by omega) rfl))
      go_wp2_with fail
      go_ret
      exact ⟨rfl, ext_drewN HW12.out _⟩

end Go.Proofs.Ytdnajckhnknlcaa
