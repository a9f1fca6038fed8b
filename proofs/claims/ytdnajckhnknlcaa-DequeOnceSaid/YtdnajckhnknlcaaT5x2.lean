/-
  What this law needs beside the contracts, part 2.
-/
import Derived.Test.YtdnajckhnknlcaaT5x1

/-! A crew's run and Run of the program once more: what is handed back is new memory. -/
namespace Go.Proofs.Ytdnajckhnknlcaa
set_option linter.unusedVariables false
set_option linter.unusedSimpArgs false
open Go.RowKit

def RunPostF (F B B2 : Nat) (p q : Option Addr) (n m c d L : Nat) (R : RunR) (w : World) (e : Ending) (w' : World) : Prop :=
  Below B w w' ∧ Keep w w' p q ∧ (R.e = 0 → ∃ p' c', e = .returned (.tuple #[.slice p' L c', .int .i64 0]) ∧ Rd w' 1 p' L c' (ints R.xs) ∧ CrewAt w' B B2 p q n m c d R.own R.all ∧ Fr F p') ∧
    (R.e ≠ 0 → e = .returned (.tuple #[.slice none 0 0, .int .i64 R.e]))

def RunPost27F (L n m : Nat) (R : RunR) (w : World) (e : Ending) (w' : World) : Prop :=
  ∃ p1 c1 p2 c2 p3 c3, e = .returned (.tuple #[.slice p1 L c1, .slice p2 n c2, .slice p3 m c3, .int .i64 R.e]) ∧ Below w.heap.size w w' ∧
    Rd w' 1 p1 L c1 (ints R.xs) ∧ Rd w' 12 p2 n c2 (wkCells R.own) ∧ Rd w' 12 p3 m c3 (wkCells R.all) ∧ Fr w.heap.size p1 ∧ Fr w.heap.size p2 ∧ Fr w.heap.size p3

set_option maxHeartbeats 8000000 in
set_option maxRecDepth 100000 in
theorem run41f (F B B2 : Nat) (p q pk : Option Addr) (n m c d np cp : Nat) (at_ room : Int) (picks : List Int) (pm0 : Option Addr) (L cm0 : Nat) (xs0 : List Int) (own0 all0 : List Wk) (w : World)
    (hF : F ≤ w.heap.size) (hf0 : Fr F pm0) (hB : B ≤ w.heap.size) (hC0 : CrewAt w B B2 p q n m c d own0 all0) (hm0 : Rd w 1 pm0 L cm0 (ints xs0)) (hd1 : Dis pm0 L p) (hd2 : Dis pm0 L q) (hk : Rd w 1 pk np cp (ints picks)) (hkB : ∀ a, pk = some a → 0 < np → a.block < B) (hbd : Bd picks)
    (hn : n ≤ 1000) (hm : m ≤ 999) (hL : L ≤ 100000) (R : RunR) (hR : runF at_ room picks 100000 xs0 own0 all0 (-1) = R) :
    Calls Try.prog 41 #[.agg #[.slice p n c, .slice q m d], .slice pm0 L cm0, .int .i64 at_, .int .i64 room, .slice pk np cp] w (RunPostF F B B2 p q n m c d L R w) := by
  have HK := Lib.hid hk
  have HKB := Lib.hid hkB
  have HBD := Lib.hid hbd
  have HR0 := Lib.hid hR
  have HD1 := Lib.hid hd1
  have HD2 := Lib.hid hd2
  have HC0 := Lib.hid hC0
  have HM0 := Lib.hid hm0
  have HF0 := Lib.hid hf0
  clear hk hkB hbd hR hd1 hd2 hC0 hm0 hf0
  go_enter Try.func41, Try.ntmps41
  go_wp2_with fail
  go_loopw [1, 12, 13] (fun v1 v12 v13 wr => ∃ (f N cm : Nat) (pm : Option Addr) (xs : List Int) (own all : List Wk) (last : Int), N + f = 100000 ∧ v1 = .slice pm L cm ∧ v12 = .int .i64 N ∧ v13 = .int .i64 last ∧ -1 ≤ last ∧ last ≤ 1000 ∧
      Rd wr 1 pm L cm (ints xs) ∧ Hid (Dis pm L p) ∧ Hid (Dis pm L q) ∧ CrewAt wr B B2 p q n m c d own all ∧ Below B w wr ∧ Hid (Keep w wr p q) ∧ Blk wr w.heap.size 68 #[.slice p n c, .slice q m d] ∧ Hid (runF at_ room picks f xs own all last = R) ∧ Hid (Fr F pm))
    (fun _ v12 _ _ => 100001 - (intOf v12).toNat)
  case atStart =>
    exact ⟨100000, 0, cm0, pm0, xs0, own0, all0, -1, rfl, rfl, rfl, rfl, by omega, by omega, HM0.out.alloc _, HD1, HD2, HC0.out.ext (ext_alloc (Below.refl _ _) _), ((ext_alloc (Below.refl _ _) _ : Below w.heap.size w _)).mono hB, (fun i hi _ _ => Below.heap_alloc _ _ _ hi), Blk.new w 68 _, HR0, HF0⟩
  case round =>
    obtain ⟨f, N, cm, pm, xs, own, all, last, hNf, rfl, rfl, rfl, hl0, hl1, hm, hd1, hd2, HC, HW, HKp, HBk, HRf, HFp⟩ := hrel
    have hbc := HBk.cell
    have hown := HC.rdo.wlen
    have hall := HC.rdt.wlen
    obtain ⟨i, hi⟩ : ∃ i, Hid (nextF picks N (leftF own all) last = i) := ⟨_, rfl⟩
    have HOWN := Lib.hid hown
    have HALL := Lib.hid hall
    have HRd := Lib.hid hm
    have HC' := Lib.hid HC
    have hsz : w.heap.size < wr.heap.size := HBk.lt
    have HKW := Lib.hid (HK.out.belowN HW HKB.out)
    clear hown hall hm HC
    have hleft := leftF_len own all
    have HLF := Lib.hid hleft
    clear hleft
    have ARM67 := Lib.hid (fun W (hW : Below wr.heap.size wr W) => left67 p q n m c d own all W (HC'.out.ext hW).rdo (HC'.out.ext hW).rdt hn (by omega))
    by_cases hneg : i < 0
    · have hfin := runF_stop at_ room picks f N xs own all last hNf (by rw [hi.out]; exact hneg)
      rw [HRf.out] at hfin
      have HF := Lib.hid hfin
      clear hfin
      go_wp2_with (first
        | (go_at_call 67; go_must (refine (ARM67.out _ (Below.refl _ _)).mono ?_; rintro e w2 ⟨pl, cl, rfl, hb2, hol⟩; have hnk := HKW.out.ext hb2))
        | (go_at_call 66; go_must (refine (next66 pk pl np cp (m + 1) cl N last picks (leftF own all) _ hnk (rd_fr_of_owns hol (Nat.le_refl _)).1 (by omega) HBD.out (by omega)).mono ?_; rintro e w3 ⟨rfl, hb3⟩; rw [hi.out]; clear hnk)))
      have hE := ext_trans hb2 hb3
      refine bodyPost_ret (v := .tuple #[.slice pm L cm, .int .i64 0]) (by simp [results, Try.results41, go_sem]) rfl ⟨below_trans HW hE hB, HKp.out.ext HW.size hE, fun _ => ⟨pm, cm, rfl, ?_, ?_, HFp.out⟩, fun hne => ?_⟩
      · rw [HF.out]; exact HRd.out.ext hE
      · rw [HF.out]; exact HC'.out.ext hE
      · exact absurd (by rw [HF.out]) hne
    · obtain ⟨g, k, x, HS⟩ := slot_at wr B B2 p q n m c d own all HC'.out picks N last i hi.out hneg hn hm
      have HSh := Lib.hid HS
      have hsm := HS.small
      clear HS
      cases f with
      | zero =>
        have hN : N = 100000 := by omega
        subst hN
        have hfin := runF_long at_ room picks xs own all last (by rw [hi.out]; exact hneg)
        rw [HRf.out] at hfin
        have HF := Lib.hid hfin
        clear hfin
        go_wp2_with (first
          | (go_at_call 67; go_must (refine (ARM67.out _ (Below.refl _ _)).mono ?_; rintro e w2 ⟨pl, cl, rfl, hb2, hol⟩; have hnk := HKW.out.ext hb2))
          | (go_at_call 66; go_must (refine (next66 pk pl np cp (m + 1) cl 100000 last picks (leftF own all) _ hnk (rd_fr_of_owns hol (Nat.le_refl _)).1 (by omega) HBD.out (by omega)).mono ?_; rintro e w3 ⟨rfl, hb3⟩; rw [hi.out]; clear hnk)))
        have hE := ext_trans hb2 hb3
        refine bodyPost_ret (v := .tuple #[.slice none 0 0, .int .i64 3]) (by simp [results, Try.results41, go_sem]) rfl ⟨below_trans HW hE hB, HKp.out.ext HW.size hE, fun h => ?_, fun hne => ?_⟩
        · rw [HF.out] at h; cases h
        · rw [HF.out]
      | succ f =>
        have hstep := runF_step at_ room picks f N xs own all last i hNf hi.out hneg x HSh.out.pick
        rw [HRf.out] at hstep
        have hN2 : ((N : Int) == 100000) = false := by simp; omega
        have HXL : xs.length = L := by have := HRd.out.len; rw [ints_len] at this; omega
        subst HXL
        obtain ⟨⟨se, ys, x'⟩, hs⟩ : ∃ s, Hid (stepF xs at_ room x = s) := ⟨_, rfl⟩
        have hys : ys.length = xs.length := by have := stepF_len xs at_ room x; rw [hs.out] at this; exact this
        have HYS := Lib.hid hys
        rw [hs.out] at hstep
        have HD := Lib.hid (fun W (hW : Rd W 1 pm xs.length cm (ints xs)) => dstep_any pm cm xs at_ room x W hW hL)
        rw [hs.out] at HD
        have HST := Lib.hid hstep
        clear hstep hys
        by_cases hse : se = 0
        · subst hse
          go_wp2_with (first
            | (go_at_call 67; go_must (refine (ARM67.out _ (Below.refl _ _)).mono ?_; rintro e w2 ⟨pl, cl, rfl, hb2, hol⟩; have hnk := HKW.out.ext hb2))
            | (go_at_call 66; go_must (refine (next66 pk pl np cp (m + 1) cl N last picks (leftF own all) _ hnk (rd_fr_of_owns hol (Nat.le_refl _)).1 (by omega) HBD.out (by omega)).mono ?_; rintro e w3 ⟨rfl, hb3⟩; rw [hi.out]; clear hnk; have hE3 := ext_trans hb2 hb3; have hbc3 := (HBk.ext hE3).cell))
            | (go_at_call 68; go_must (refine (HSh.out.at68 _ hE3).mono ?_; rintro e w4 ⟨rfl, hb4⟩; have hE4 := ext_trans hE3 hb4; obtain ⟨hq1, hq2⟩ := HSh.out.cells _ hE4; have hq3 : ∀ j, j < 12 → w4.cell? ⟨g, k * 12 + j, none⟩ = (#[.int .i64 x.pc, .int .i64 x.job, .int .i64 x.r0, .int .i64 x.r1, .int .i64 x.r2, .int .i64 x.r3, .int .i64 x.r4, .int .i64 x.r5, .int .i64 x.r6, .int .i64 x.r7, .bool x.done, .int .i64 x.out] : Array Value)[j]? := hq1; clear hq1))
            | (go_at_call 12; go_must (refine (HD.out _ (HRd.out.ext hE4)).mono ?_; rintro e w5 ⟨p5, c5, rfl, hb5, hr5, hf5⟩; have hE5 := ext_trans hE4 hb5; obtain ⟨hq4, hq5⟩ := HSh.out.cells _ hE5; have hq6 : ∀ j, j < 12 → w5.cell? ⟨g, k * 12 + j, none⟩ = (#[.int .i64 x.pc, .int .i64 x.job, .int .i64 x.r0, .int .i64 x.r1, .int .i64 x.r2, .int .i64 x.r3, .int .i64 x.r4, .int .i64 x.r5, .int .i64 x.r6, .int .i64 x.r7, .bool x.done, .int .i64 x.out] : Array Value)[j]? := hq4; clear hq4; have hq7 := HSh.out.frozen _ hE5; simp only [Wk.v, Wk.cells])))
          have hE := hE5
          have hgs := set12_grown w5 g k x'
          have hne5 : NeN g p5 xs.length := fun a ha _ e => by have h8 := hf5 a ha; have h9 := HSh.out.hi; have h10 := hE4.size; omega
          go_roundw
          case rel =>
            refine ⟨f, N + 1, c5, p5, ys, putO own i x', putT all i x', i, by omega, rfl, by go_num, rfl, by omega, by omega, hr5.grownN' hgs hne5, ?_, ?_, HSh.out.put w5 x' hE5, ?_, (HKp.out.ext HW.size hE5).grown (Nat.le_trans HW.size hE5.size) hgs HSh.out.blk, ?_, ?_, hf5.mono (Nat.le_trans hF (Nat.le_trans HW.size hE4.size))⟩
            · exact Dis.fresh hf5 (fun a ha => Nat.lt_of_lt_of_le (by subst ha; exact ((HC'.out.ext hE4).own.lt _ rfl).2) (Nat.le_refl _))
            · exact Dis.fresh hf5 (fun a ha => Nat.lt_of_lt_of_le (by subst ha; exact ((HC'.out.ext hE4).all.lt _ rfl).2) (Nat.le_refl _))
            · exact (below_trans HW hE5 hB).grown hgs (by have := hE5.size; omega) (by rintro b ⟨⟩; exact HSh.out.lo)
            · refine (HBk.ext hE5).grown hgs ?_
              intro e
              simp only [Option.some.injEq] at e
              obtain ⟨cur, hcur⟩ := HSh.out.type
              have h8 := HBk
              unfold Blk at h8
              rw [e, hcur] at h8
              cases h8
            · have h8 := HST.out
              rw [if_neg (by simp)] at h8
              exact h8.symm
          case measure => simp [intOf]; omega
        · have hz : (se != 0) = true := by simpa using hse
          go_wp2_with (first
            | (go_at_call 67; go_must (refine (ARM67.out _ (Below.refl _ _)).mono ?_; rintro e w2 ⟨pl, cl, rfl, hb2, hol⟩; have hnk := HKW.out.ext hb2))
            | (go_at_call 66; go_must (refine (next66 pk pl np cp (m + 1) cl N last picks (leftF own all) _ hnk (rd_fr_of_owns hol (Nat.le_refl _)).1 (by omega) HBD.out (by omega)).mono ?_; rintro e w3 ⟨rfl, hb3⟩; rw [hi.out]; clear hnk; have hE3 := ext_trans hb2 hb3; have hbc3 := (HBk.ext hE3).cell))
            | (go_at_call 68; go_must (refine (HSh.out.at68 _ hE3).mono ?_; rintro e w4 ⟨rfl, hb4⟩; have hE4 := ext_trans hE3 hb4; obtain ⟨hq1, hq2⟩ := HSh.out.cells _ hE4; have hq3 : ∀ j, j < 12 → w4.cell? ⟨g, k * 12 + j, none⟩ = (#[.int .i64 x.pc, .int .i64 x.job, .int .i64 x.r0, .int .i64 x.r1, .int .i64 x.r2, .int .i64 x.r3, .int .i64 x.r4, .int .i64 x.r5, .int .i64 x.r6, .int .i64 x.r7, .bool x.done, .int .i64 x.out] : Array Value)[j]? := hq1; clear hq1))
            | (go_at_call 12; go_must (refine (HD.out _ (HRd.out.ext hE4)).mono ?_; rintro e w5 ⟨p5, c5, rfl, hb5, hr5, hf5⟩; have hE5 := ext_trans hE4 hb5; obtain ⟨hq4, hq5⟩ := HSh.out.cells _ hE5; have hq6 : ∀ j, j < 12 → w5.cell? ⟨g, k * 12 + j, none⟩ = (#[.int .i64 x.pc, .int .i64 x.job, .int .i64 x.r0, .int .i64 x.r1, .int .i64 x.r2, .int .i64 x.r3, .int .i64 x.r4, .int .i64 x.r5, .int .i64 x.r6, .int .i64 x.r7, .bool x.done, .int .i64 x.out] : Array Value)[j]? := hq4; clear hq4; have hq7 := HSh.out.frozen _ hE5; simp only [Wk.v, Wk.cells])))
          have hgs := set12_grown w5 g k x'
          have h8 := HST.out
          rw [if_pos hse] at h8
          refine bodyPost_ret (v := .tuple #[.slice none 0 0, .int .i64 se]) (by simp [results, Try.results41, go_sem]) rfl ⟨?_, (HKp.out.ext HW.size hE5).grown (Nat.le_trans HW.size hE5.size) hgs HSh.out.blk, fun h => ?_, fun hne => ?_⟩
          · exact (below_trans HW hE5 hB).grown hgs (by have := hE5.size; omega) (by rintro b ⟨⟩; exact HSh.out.lo)
          · rw [h8] at h; exact absurd h hse
          · rw [h8]

theorem run41f_ok (F B B2 : Nat) (p q pk : Option Addr) (n m c d np cp : Nat) (at_ room : Int) (picks : List Int) (pm0 : Option Addr) (L cm0 : Nat) (xs0 : List Int) (own0 all0 : List Wk) (w : World)
    (hF : F ≤ w.heap.size) (hf0 : Fr F pm0) (hB : B ≤ w.heap.size) (hC0 : CrewAt w B B2 p q n m c d own0 all0) (hm0 : Rd w 1 pm0 L cm0 (ints xs0)) (hd1 : Dis pm0 L p) (hd2 : Dis pm0 L q) (hk : Rd w 1 pk np cp (ints picks)) (hkB : ∀ a, pk = some a → 0 < np → a.block < B) (hbd : Bd picks)
    (hn : n ≤ 1000) (hm : m ≤ 999) (hL : L ≤ 100000) (he : (runF at_ room picks 100000 xs0 own0 all0 (-1)).e = 0) :
    Calls Try.prog 41 #[.agg #[.slice p n c, .slice q m d], .slice pm0 L cm0, .int .i64 at_, .int .i64 room, .slice pk np cp] w fun e w' =>
      ∃ p' c', e = .returned (.tuple #[.slice p' L c', .int .i64 0]) ∧ Below B w w' ∧ Keep w w' p q ∧ Rd w' 1 p' L c' (ints (runF at_ room picks 100000 xs0 own0 all0 (-1)).xs) ∧
        CrewAt w' B B2 p q n m c d (runF at_ room picks 100000 xs0 own0 all0 (-1)).own (runF at_ room picks 100000 xs0 own0 all0 (-1)).all ∧ Fr F p' := by
  refine (run41f F B B2 p q pk n m c d np cp at_ room picks pm0 L cm0 xs0 own0 all0 w hF hf0 hB hC0 hm0 hd1 hd2 hk hkB hbd hn hm hL _ rfl).mono ?_
  rintro e w' ⟨h1, h2, h3, _⟩
  obtain ⟨p', c', he', h4, h5, h6⟩ := h3 he
  exact ⟨p', c', he', h1, h2, h4, h5, h6⟩

set_option maxHeartbeats 4000000 in
theorem run27_fresh (pm p q pk : Option Addr) (L cm n c m d np cp : Nat) (at_ room : Int) (picks xs : List Int) (own all : List Wk) (w : World)
    (hm : Rd w 1 pm L cm (ints xs)) (ho : Rd w 12 p n c (wkCells own)) (ha : Rd w 12 q m d (wkCells all)) (hk : Rd w 1 pk np cp (ints picks)) (hbd : Bd picks)
    (hn : n ≤ 1000) (hm1 : m ≤ 999) (hL : L ≤ 100000) (hodd : oddF own all = false) (R : RunR) (hRR : runF at_ room picks 100000 xs own all (-1) = R) (he : R.e = 0) :
    Calls Try.prog 27 #[.slice pm L cm, .int .i64 at_, .int .i64 room, .slice pk np cp, .slice p n c, .slice q m d] w (RunPost27F L n m R w) := by
  obtain ⟨ec, ys, own', all'⟩ := R
  simp only at he
  subst he
  have HM := Lib.hid hm
  have HO := Lib.hid ho
  have HA := Lib.hid ha
  have HK := Lib.hid hk
  have HBD := Lib.hid hbd
  have HODD := Lib.hid hodd
  have H1 := Lib.hid (ints_one xs)
  have HRR := Lib.hid hRR
  have HKB := Lib.hid (fun (a : Addr) (h : pk = some a) (h0 : 0 < np) => hk.lt (by decide) a h h0)
  clear hm ho ha hodd hk hbd hRR
  go_enter Try.func27, Try.ntmps27
  go_wp2_with (go_at_call 39; go_must (refine (own39 p q n m c d own all _ HO.out HA.out hn (by omega)).mono ?_; rintro e w1 ⟨p1, c1, p2, c2, B, rfl, hb1, ho1, ha1, hap, hle⟩))
  refine (odd40 p1 p2 n m c1 c2 own all _ ((rd_fr_of_owns ho1 (Nat.le_refl _)).1.alloc _) ((rd_fr_of_owns ha1 (Nat.le_refl _)).1.alloc _) hn (by omega)).mono ?_
  rintro e w2 ⟨rfl, hb2⟩
  rw [HODD.out]
  have HC1 := Lib.hid (CrewAt.mk ho1 ha1 hap hle)
  have ht := ((Blk.new w1 68 #[.slice p1 n c1, .slice p2 m c2]).ext hb2)
  have htc := ht.cell
  have htl := ht.lt
  have hE2 := ext_trans (ext_alloc hb1 (.cells #[.slice p1 n c1, .slice p2 m c2] 68)) hb2
  have hp1 : ∀ a, p1 = some a → a.block < w1.heap.size := fun a ha => by subst ha; exact (ho1.lt _ rfl).2
  have hp2 : ∀ a, p2 = some a → a.block < w1.heap.size := fun a ha => by subst ha; exact (ha1.lt _ rfl).2
  have HP1 := Lib.hid hp1
  have HP2 := Lib.hid hp2
  clear ho1 ha1 hap hle hp1 hp2
  go_wp2_with fail
  go_region_with (first
    | (go_at_call 32; go_must (refine (clone_int pm L cm (ints xs) _ ?_ H1.out (by omega)).mono ?_; (· exact (HM.out.ext hE2).drew); rintro e w3 ⟨p3, c3, rfl, hb3, ho3⟩; have ht3 := (ht.drew.ext hb3); have ht3c := ht3.cell; have hE3 := ext_trans (ext_drew hE2) hb3; have hC3 := ((HC1.out.ext (ext_alloc (Below.refl _ _) _)).ext (ext_trans (ext_drew hb2) hb3)); have hr3 := rd_fr_of_owns ho3 (Nat.le_refl _)))
    | (go_at_call 41; go_must (refine (run41f_ok w.heap.size w.heap.size B p1 p2 pk n m c1 c2 np cp at_ room picks p3 L c3 xs own all _ hE3.size (hr3.2.mono (Nat.le_trans hE2.size (Nat.le_refl _))) hE3.size hC3 hr3.1 ?_ ?_ (HK.out.ext hE3) HKB.out HBD.out hn hm1 hL (by rw [HRR.out])).mono ?_; (· exact Dis.fresh hr3.2 (fun a ha => Nat.lt_of_lt_of_le (HP1.out a ha) (Nat.le_trans (Nat.le_of_lt htl) (Nat.le_refl _)))); (· exact Dis.fresh hr3.2 (fun a ha => Nat.lt_of_lt_of_le (HP2.out a ha) (Nat.le_trans (Nat.le_of_lt htl) (Nat.le_refl _)))); rintro e w4 ⟨p4, c4, rfl, hb4, hk4, hr4, hc4, hf4⟩; rw [HRR.out] at hr4 hc4)))
  all_goals
    have ht4 : Blk w4 w1.heap.size 68 #[.slice p1 n c1, .slice p2 m c2] := by
      have h9 := hk4 w1.heap.size ht3.lt (fun a ha => by have := HP1.out a ha; omega) (fun a ha => by have := HP2.out a ha; omega)
      unfold Blk; rw [h9]; exact ht3
    have ht4c := ht4.cell
    have hE4 := hE3.trans hb4
    clear htc ht3c
    go_wp2_with fail
    go_quiet (fail)
    go_wp2_with fail
    refine bodyPost_ret (v := .tuple #[.slice p4 L c4, .slice p1 n c1, .slice p2 m c2, .int .i64 0]) (by simp [results, Try.results27, go_sem]) rfl ⟨p4, c4, p1, c1, p2, c2, rfl, ext_drewN hE4 _, hr4.drewN _, hc4.rdo.drewN _, hc4.rdt.drewN _, hf4, (rd_fr_of_owns hc4.own (Nat.le_refl _)).2, (rd_fr_of_owns hc4.all hc4.le).2⟩

theorem run27_new (pm p q pk : Option Addr) (L cm n c m d np cp : Nat) (at_ room : Int) (picks xs : List Int) (own all : List Wk) (w : World)
    (hm : Rd w 1 pm L cm (ints xs)) (ho : Rd w 12 p n c (wkCells own)) (ha : Rd w 12 q m d (wkCells all)) (hk : Rd w 1 pk np cp (ints picks)) (hbd : Bd picks)
    (hn : n ≤ 1000) (hm1 : m ≤ 999) (hL : L ≤ 100000) (ys : List Int) (o a : List Wk) (hR : dRunF at_ room picks xs own all = ⟨0, ys, o, a⟩) :
    Calls Try.prog 27 #[.slice pm L cm, .int .i64 at_, .int .i64 room, .slice pk np cp, .slice p n c, .slice q m d] w fun e w' =>
      ∃ p1 c1 p2 c2 p3 c3, e = .returned (.tuple #[.slice p1 L c1, .slice p2 n c2, .slice p3 m c3, .int .i64 0]) ∧ Below w.heap.size w w' ∧
        Rd w' 1 p1 L c1 (ints ys) ∧ Rd w' 12 p2 n c2 (wkCells o) ∧ Rd w' 12 p3 m c3 (wkCells a) ∧ Fr w.heap.size p1 ∧ Fr w.heap.size p2 ∧ Fr w.heap.size p3 := by
  unfold dRunF at hR
  split at hR
  · simp at hR
  · rename_i h1
    split at hR
    · rename_i h2; simp only [RunR.mk.injEq] at hR; exact absurd hR.1 h2
    · have := run27_fresh pm p q pk L cm n c m d np cp at_ room picks xs own all w hm ho ha hk hbd hn hm1 hL (by simpa using h1) _ hR rfl
      exact this

end Go.Proofs.Ytdnajckhnknlcaa

/-! Each task once, as the law counts: parts, one behind the other; two rows that are appended to. -/
namespace Go.Proofs.Ytdnajckhnknlcaa
set_option linter.unusedVariables false
set_option linter.unusedSimpArgs false
open Go.RowKit

/-- One part: it ends well, and each task is there once. -/
theorem once_run (R T i : Nat) (hT : T < 9) (hi : i < 4) (picks raw xs : List Int) (f : Int) (hf0 : 0 ≤ f) (hf : f ≤ 100000) (t b : Nat) (hs : Still xs R t b) (hb : b ≤ 14 * i) (hpos : ∀ v ∈ conts xs R t b, 0 ≤ v) :
    ∃ ys o a t' b', dRunF 0 R picks xs (ownerF raw f) (List.replicate T stealF) = ⟨0, ys, o, a⟩ ∧ Still ys R t' b' ∧ b' ≤ 14 * (i + 1) ∧ o.length = min raw.length 14 ∧ a.length = T ∧ (∀ y ∈ o, y.done = true) ∧ (∀ y ∈ a, y.done = true) ∧
      Onces (conts xs R t b) (conts ys R t' b') (o.map ov) (a.map tv) ∧ o.map (fun y => (y.job, y.r0)) = (ownerF raw f).map (fun y => (y.job, y.r0)) := by
  have hl := owner_len raw f
  obtain ⟨ys, o, a, t', b', h1, h2, h3, h4, h5, h6, h7, h8, h9⟩ := run_main (C := 14 * (i + 1)) (hist_once R (conts xs R t b)) picks xs (ownerF raw f) (List.replicate T stealF) t b hs (by omega) (by omega)
    (owner_fresh raw f hf0 hf) (freshT_steal T stealF freshT_stealF) (by simp; omega)
    (by
      rw [hl, List.length_replicate]
      have h1 : 4 * (14 * (i + 1) + 1) * T ≤ 4 * (14 * (i + 1) + 1) * 8 := Nat.mul_le_mul (Nat.le_refl _) (by omega)
      have h2 : min raw.length 14 ≤ 14 := Nat.min_le_right _ _
      omega)
    (onces_start _ hpos _ _ (owner_fresh raw f hf0 hf) (freshT_steal T stealF freshT_stealF))
  exact ⟨ys, o, a, t', b', h1, h2, h3, by rw [h7, hl], by rw [h8]; simp, h5, h6, h4, h9⟩

/-- The tasks that an owner's jobs are to give. -/
def tasksOf (js : List (Int × Int)) : List Int := js.filterMap fun j => if j.1 = 7 then some j.2 else none

theorem given_sub (os : List (Int × Int × Option Int)) (h : ∀ o ∈ os, ∀ w, o.2.2 = some w → o.1 = 7 → w = o.2.1 ∨ w = -1) : (givenO os).Sublist (tasksOf (os.map fun o => (o.1, o.2.1))) := by
  induction os with
  | nil => exact List.Sublist.slnil
  | cons o os ih =>
    have h1 := ih fun q hq => h q (List.mem_cons_of_mem _ hq)
    have h2 := h o List.mem_cons_self
    obtain ⟨j, v, u⟩ := o
    unfold givenO tasksOf at *
    simp only [List.map_cons, List.filterMap_cons]
    by_cases hj : j = 7
    · simp only [hj, if_true]
      cases u with
      | none => exact List.Sublist.cons _ h1
      | some w =>
        simp only [Option.filter]
        by_cases hw : 0 ≤ w
        · rcases h2 w rfl hj with e | e
          · simp only at e
            subst e
            simp only [hw, decide_true, if_true]
            exact List.Sublist.cons_cons _ h1
          · omega
        · simp only [hw, decide_false]
          exact List.Sublist.cons _ h1
    · simp only [hj, if_false]
      exact h1

theorem tasks_own (raw : List Int) (f : Int) : (tasksOf ((ownerF raw f).map fun y => (y.job, y.r0))).Pairwise (· ≠ ·) ∧ ∀ v ∈ tasksOf ((ownerF raw f).map fun y => (y.job, y.r0)), f ≤ v ∧ v < f + 14 := by
  have e : tasksOf ((ownerF raw f).map fun y => (y.job, y.r0)) = (List.range (min raw.length 14)).filterMap fun (i : Nat) => if pickF (raw.getD i 0) 5 < 3 then some (f + (i : Int)) else none := by
    unfold tasksOf ownerF ownTo
    rw [List.map_map, List.filterMap_map]
    congr 1
    funext i
    by_cases h : pickF (raw.getD i 0) 5 < 3
    · simp only [Function.comp, jobF, if_pos h]; rfl
    · simp only [Function.comp, jobF, if_neg h]; rfl
  rw [e]
  constructor
  · rw [List.pairwise_filterMap]
    refine List.Pairwise.imp ?_ List.nodup_range
    intro a b hab x hx y hy
    split at hx
    · split at hy
      · simp only [Option.some.injEq] at hx hy; omega
      · cases hy
    · cases hx
  · intro v hv
    rw [List.mem_filterMap] at hv
    obtain ⟨i, hi, h2⟩ := hv
    have : i < 14 := by simp at hi; omega
    split at h2
    · simp only [Option.some.injEq] at h2; omega
    · cases h2

/-- What holds behind i parts. -/
structure Told (i : Nat) (G Z L : List Int) : Prop where
  cnt : ∀ z, Z.count z + L.count z = G.count z
  nodup : G.Pairwise (· ≠ ·)
  pos : ∀ v ∈ L, 0 ≤ v
  top : ∀ v ∈ G, v < 100 * ((i : Int) + 1)
  low : ∀ v ∈ G, 0 ≤ v

theorem told_start : Told 0 [] [] [] := ⟨fun z => rfl, List.Pairwise.nil, by simp, by simp, by simp⟩

theorem told_next {i : Nat} {G Z L L' : List Int} (h : Told i G Z L) (raw : List Int) (os : List (Int × Int × Option Int)) (ts : List (Option Int)) (ho : Onces L L' os ts)
    (hj : os.map (fun o => (o.1, o.2.1)) = (ownerF raw (100 * ((i : Int) + 1))).map fun y => (y.job, y.r0)) : Told (i + 1) (G ++ givenO os) (Z ++ goneO os ++ goneT ts) L' := by
  have hsub := given_sub os ho.give
  rw [hj] at hsub
  obtain ⟨hp, hr⟩ := tasks_own raw (100 * ((i : Int) + 1))
  have hrg : ∀ v ∈ givenO os, 100 * ((i : Int) + 1) ≤ v ∧ v < 100 * ((i : Int) + 1) + 14 := fun v hv => hr v (hsub.subset hv)
  refine ⟨fun z => ?_, ?_, ho.pos, ?_, ?_⟩
  · have h1 := h.cnt z
    have h2 := ho.cnt z
    simp only [List.count_append]
    omega
  · rw [List.pairwise_append]
    refine ⟨h.nodup, hp.sublist hsub, fun a ha b hb => ?_⟩
    have h1 := h.top a ha
    have h2 := hrg b hb
    omega
  · intro v hv
    rw [List.mem_append] at hv
    rcases hv with hv | hv
    · have := h.top v hv; omega
    · have := hrg v hv; omega
  · intro v hv
    rw [List.mem_append] at hv
    rcases hv with hv | hv
    · exact h.low v hv
    · have := hrg v hv; omega

theorem count_one (G : List Int) (h : G.Pairwise (· ≠ ·)) : ∀ v ∈ G, G.count v = 1 := by
  induction G with
  | nil => simp
  | cons x G ih =>
    rw [List.pairwise_cons] at h
    intro v hv
    rw [List.mem_cons] at hv
    rcases hv with rfl | hv
    · rw [List.count_cons_self, List.count_eq_zero.2 (fun hm => h.1 _ hm rfl)]
    · rw [List.count_cons_of_ne (h.1 v hv)]
      exact ih h.2 v hv

theorem told_all {i : Nat} {G Z L : List Int} (h : Told i G Z L) : (Z ++ L).length = G.length ∧ ∀ v ∈ G, (Z ++ L).count v = 1 := by
  have hp : (Z ++ L).Perm G := by
    rw [List.perm_iff_count]; intro z; rw [List.count_append]; exact h.cnt z
  exact ⟨hp.length_eq, fun v hv => by rw [hp.count_eq]; exact count_one G h.nodup v hv⟩

/-! ### Two rows that are appended to, and what else is read meanwhile -/

/-- The slice lies in none of the two rows' blocks. -/
def Off (v u : Value) (p : Option Addr) (n : Nat) : Prop := ∀ a, p = some a → 0 < n → v.ownBlock ≠ some a.block ∧ u.ownBlock ≠ some a.block

structure Two (w : World) (B : Nat) (v : Value) (n : Nat) (G : List Int) (u : Value) (m : Nat) (Z : List Int) : Prop where
  own1 : w.ownsRow B 3 1 v n (ints G)
  own2 : w.ownsRow B 3 1 u m (ints Z)
  ne : ∀ g, v.ownBlock = some g → u.ownBlock ≠ some g

theorem Two.ext {w w' : World} {B : Nat} {v : Value} {n : Nat} {G : List Int} {u : Value} {m : Nat} {Z : List Int} (h : Two w B v n G u m Z) (hb : Below w.heap.size w w') : Two w' B v n G u m Z :=
  ⟨own_ext h.own1 hb, own_ext h.own2 hb, h.ne⟩

theorem own_off {w w' : World} {base e size : Nat} {v : Value} {n : Nat} {xs : List Value} (h : w.ownsRow base e size v n xs) {row : Option Nat} (hg : w.grownBy w' row) (hne : ∀ g, row = some g → v.ownBlock ≠ some g) : w'.ownsRow base e size v n xs := by
  refine h.kept hg ?_
  cases row with
  | none => cases hv : v.ownBlock with
            | none => exact .inl rfl
            | some g => exact .inr (by simp)
  | some g => exact .inr (hne g rfl)

theorem Two.push1 {w w' : World} {B : Nat} {v v' : Value} {n : Nat} {G : List Int} {u : Value} {m : Nat} {Z : List Int} {x : Int} (h : Two w B v n G u m Z) (ho : w'.ownsRow B 3 1 v' (n + 1) (ints G ++ [.int .i64 x])) (hg : w.grownBy w' v.ownBlock)
    (hb : v'.ownBlock = v.ownBlock ∨ v'.ownBlock = some w.heap.size) : Two w' B v' (n + 1) (G ++ [x]) u m Z := by
  refine ⟨by rw [show ints (G ++ [x]) = ints G ++ [.int .i64 x] by simp [ints]]; exact ho, own_off h.own2 hg h.ne, fun g hv => ?_⟩
  rcases hb with e | e
  · exact h.ne g (by rw [← e]; exact hv)
  · intro hu
    have := (h.own2.lt g hu).2
    rw [e] at hv
    simp only [Option.some.injEq] at hv
    omega

theorem Two.push2 {w w' : World} {B : Nat} {v u' : Value} {n : Nat} {G : List Int} {u : Value} {m : Nat} {Z : List Int} {x : Int} (h : Two w B v n G u m Z) (ho : w'.ownsRow B 3 1 u' (m + 1) (ints Z ++ [.int .i64 x])) (hg : w.grownBy w' u.ownBlock)
    (hb : u'.ownBlock = u.ownBlock ∨ u'.ownBlock = some w.heap.size) : Two w' B v n G u' (m + 1) (Z ++ [x]) := by
  refine ⟨own_off h.own1 hg (fun g hu hv => h.ne g hv hu), by rw [show ints (Z ++ [x]) = ints Z ++ [.int .i64 x] by simp [ints]]; exact ho, fun g hv hu => ?_⟩
  rcases hb with e | e
  · exact h.ne g hv (by rw [← e]; exact hu)
  · have := (h.own1.lt g hv).2
    rw [e] at hu
    simp only [Option.some.injEq] at hu
    omega

theorem Rd.push {w w' : World} {size : Nat} {p : Option Addr} {n c : Nat} {cs : List Value} (h : Rd w size p n c cs) {row : Option Nat} (hg : w.grownBy w' row) (hne : ∀ a, p = some a → 0 < n → row ≠ some a.block) : Rd w' size p n c cs :=
  h.grownN hg (by intro b hb a ha hn e; exact hne a ha hn (by rw [hb, e]))

/-- All that a part of the law carries along. -/
structure St5 (w0 w : World) (v : Value) (n : Nat) (G : List Int) (u : Value) (m : Nat) (Z : List Int) (p1 p2 p3 : Option Addr) (L no T c1 c2 c3 : Nat) (ys : List Int) (o a : List Wk) : Prop where
  two : Two w w0.heap.size v n G u m Z
  below : Below w0.heap.size w0 w
  r1 : Rd w 1 p1 L c1 (ints ys)
  r2 : Rd w 12 p2 no c2 (wkCells o)
  r3 : Rd w 12 p3 T c3 (wkCells a)
  o1 : Off v u p1 L
  o2 : Off v u p2 no
  o3 : Off v u p3 T

section
variable {w0 w w' : World} {v v' : Value} {n : Nat} {G : List Int} {u u' : Value} {m : Nat} {Z : List Int} {p1 p2 p3 : Option Addr} {L no T c1 c2 c3 : Nat} {ys : List Int} {o a : List Wk} {x : Int}

theorem St5.ext (h : St5 w0 w v n G u m Z p1 p2 p3 L no T c1 c2 c3 ys o a) (hb : Below w.heap.size w w') : St5 w0 w' v n G u m Z p1 p2 p3 L no T c1 c2 c3 ys o a :=
  ⟨h.two.ext hb, ext_trans h.below hb, h.r1.ext hb, h.r2.ext hb, h.r3.ext hb, h.o1, h.o2, h.o3⟩

theorem Off.push1 {p : Option Addr} {k c size : Nat} {cs : List Value} (h : Off v u p k) (hr : Rd w size p k c cs) (hs : 0 < size) (hb : v'.ownBlock = v.ownBlock ∨ v'.ownBlock = some w.heap.size) : Off v' u p k := by
  intro a ha hk
  refine ⟨?_, (h a ha hk).2⟩
  rcases hb with e | e
  · rw [e]; exact (h a ha hk).1
  · rw [e]; have := hr.lt hs a ha hk; intro e2; simp only [Option.some.injEq] at e2; omega
theorem Off.push2 {p : Option Addr} {k c size : Nat} {cs : List Value} (h : Off v u p k) (hr : Rd w size p k c cs) (hs : 0 < size) (hb : u'.ownBlock = u.ownBlock ∨ u'.ownBlock = some w.heap.size) : Off v u' p k := by
  intro a ha hk
  refine ⟨(h a ha hk).1, ?_⟩
  rcases hb with e | e
  · rw [e]; exact (h a ha hk).2
  · rw [e]; have := hr.lt hs a ha hk; intro e2; simp only [Option.some.injEq] at e2; omega

theorem St5.push1 (h : St5 w0 w v n G u m Z p1 p2 p3 L no T c1 c2 c3 ys o a) (ho : w'.ownsRow w0.heap.size 3 1 v' (n + 1) (ints G ++ [.int .i64 x])) (hg : w.grownBy w' v.ownBlock)
    (hb : v'.ownBlock = v.ownBlock ∨ v'.ownBlock = some w.heap.size) : St5 w0 w' v' (n + 1) (G ++ [x]) u m Z p1 p2 p3 L no T c1 c2 c3 ys o a :=
  ⟨h.two.push1 ho hg hb, owns_grown h.two.own1 h.below hg (Nat.le_refl _) h.below.size, h.r1.push hg (fun a ha hk => (h.o1 a ha hk).1), h.r2.push hg (fun a ha hk => (h.o2 a ha hk).1), h.r3.push hg (fun a ha hk => (h.o3 a ha hk).1),
    h.o1.push1 h.r1 (by decide) hb, h.o2.push1 h.r2 (by decide) hb, h.o3.push1 h.r3 (by decide) hb⟩
theorem St5.push2 (h : St5 w0 w v n G u m Z p1 p2 p3 L no T c1 c2 c3 ys o a) (ho : w'.ownsRow w0.heap.size 3 1 u' (m + 1) (ints Z ++ [.int .i64 x])) (hg : w.grownBy w' u.ownBlock)
    (hb : u'.ownBlock = u.ownBlock ∨ u'.ownBlock = some w.heap.size) : St5 w0 w' v n G u' (m + 1) (Z ++ [x]) p1 p2 p3 L no T c1 c2 c3 ys o a :=
  ⟨h.two.push2 ho hg hb, owns_grown h.two.own2 h.below hg (Nat.le_refl _) h.below.size, h.r1.push hg (fun a ha hk => (h.o1 a ha hk).2), h.r2.push hg (fun a ha hk => (h.o2 a ha hk).2), h.r3.push hg (fun a ha hk => (h.o3 a ha hk).2),
    h.o1.push2 h.r1 (by decide) hb, h.o2.push2 h.r2 (by decide) hb, h.o3.push2 h.r3 (by decide) hb⟩

theorem off_fresh {W : World} {B : Nat} (h : Two W B v n G u m Z) {p : Option Addr} {k : Nat} (hf : Fr W.heap.size p) : Off v u p k := by
  intro a ha _
  have h1 := hf a ha
  constructor
  · intro e; have := (h.own1.lt _ e).2; omega
  · intro e; have := (h.own2.lt _ e).2; omega

theorem st5_start {W : World} (h : Two W w0.heap.size v n G u m Z) (hw : Below w0.heap.size w0 W) (hb : Below W.heap.size W w) (r1 : Rd w 1 p1 L c1 (ints ys)) (r2 : Rd w 12 p2 no c2 (wkCells o)) (r3 : Rd w 12 p3 T c3 (wkCells a))
    (f1 : Fr W.heap.size p1) (f2 : Fr W.heap.size p2) (f3 : Fr W.heap.size p3) : St5 w0 w v n G u m Z p1 p2 p3 L no T c1 c2 c3 ys o a :=
  ⟨h.ext hb, ext_trans hw hb, r1, r2, r3, off_fresh h f1, off_fresh h f2, off_fresh h f3⟩
end

/-- A slice of slices of whole numbers, as far as it is read. -/
def Rows2 (w : World) (pp : Option Addr) (np : Nat) : Prop :=
  ∀ i, i < np → ∃ b off p n c raw, pp = some ⟨b, off, none⟩ ∧ w.cell? ⟨b, off + i, none⟩ = some (.slice p n c) ∧ Rd w 1 p n c (ints raw) ∧ Bd raw

theorem Rows2.ext {w w' : World} {pp : Option Addr} {np : Nat} (h : Rows2 w pp np) (hb : Below w.heap.size w w') : Rows2 w' pp np := by
  intro i hi
  obtain ⟨b, off, p, n, c, raw, h1, h2, h3, h4⟩ := h i hi
  exact ⟨b, off, p, n, c, raw, h1, by rw [hb.cell (cell_lt h2)]; exact h2, h3.ext hb, h4⟩

end Go.Proofs.Ytdnajckhnknlcaa

/-! Thieves alone, as the law counts them. -/
namespace Go.Proofs.Ytdnajckhnknlcaa
set_option linter.unusedVariables false
set_option linter.unusedSimpArgs false
open Go.RowKit

def giveTo (n : Nat) : List Wk := (List.range n).map fun (i : Nat) => giveF (i : Int)
theorem giveTo_succ (n : Nat) : giveTo (n + 1) = giveTo n ++ [giveF (n : Int)] := by simp [giveTo, List.range_succ]
theorem giveTo_len (n : Nat) : (giveTo n).length = n := by simp [giveTo]
def numsTo (n : Nat) : List Int := (List.range n).map fun (i : Nat) => (i : Int)
theorem numsTo_len (n : Nat) : (numsTo n).length = n := by simp [numsTo]

theorem seq_gives (r : Nat) (vs : List Int) : ∀ now : List Int, now.length + vs.length ≤ r → seqF r (vs.map fun v => (7, v)) now = (vs, now ++ vs) := by
  induction vs with
  | nil => intro now _; simp [seqF]
  | cons v vs ih =>
    intro now h
    simp only [List.length_cons] at h
    have e : oneF r 7 v now = (v, now ++ [v]) := by simp [oneF]; omega
    simp only [List.map_cons, seqF, e]
    rw [ih (now ++ [v]) (by simp; omega)]
    simp

/-- How often each task was stolen by the first i thieves. -/
def seenF (us : List Int) (n i : Nat) : List Int := (List.range n).map fun (j : Nat) => (((posF (us.take i)).count (j : Int) : Nat) : Int)
theorem seenF_len (us : List Int) (n i : Nat) : (seenF us n i).length = n := by simp [seenF]
theorem seenF_zero (us : List Int) (n : Nat) : seenF us n 0 = List.replicate n 0 := by
  apply List.ext_getElem
  · simp [seenF]
  · intro j h1 h2; simp [seenF, posF]
def noneF (us : List Int) (i : Nat) : Nat := ((us.take i).filter fun u => decide (u < 0)).length

theorem take_next {α : Type _} (us : List α) (i : Nat) (u : α) (h : us[i]? = some u) : us.take (i + 1) = us.take i ++ [u] := by
  rw [List.take_add_one, h]; rfl

theorem seenF_neg (us : List Int) (n i : Nat) (u : Int) (h : us[i]? = some u) (hu : u < 0) : seenF us n (i + 1) = seenF us n i := by
  unfold seenF posF
  rw [take_next us i u h, List.filter_append, List.filter_cons_of_neg (by simpa using hu)]
  simp
theorem noneF_neg (us : List Int) (i : Nat) (u : Int) (h : us[i]? = some u) (hu : u < 0) : noneF us (i + 1) = noneF us i + 1 := by
  unfold noneF
  rw [take_next us i u h, List.filter_append, List.filter_cons_of_pos (by simpa using hu)]
  simp
theorem noneF_pos (us : List Int) (i : Nat) (u : Int) (h : us[i]? = some u) (hu : 0 ≤ u) : noneF us (i + 1) = noneF us i := by
  unfold noneF
  rw [take_next us i u h, List.filter_append, List.filter_cons_of_neg (by simpa using hu)]
  simp
theorem noneF_le (us : List Int) (i : Nat) : noneF us i ≤ i := by
  unfold noneF
  have := List.length_filter_le (fun u => decide (u < 0)) (us.take i)
  rw [List.length_take] at this
  omega

theorem posF_split (us : List Int) (i : Nat) (u : Int) (h : us[i]? = some u) (hu : 0 ≤ u) : posF us = posF (us.take i) ++ u :: posF (us.drop (i + 1)) := by
  have e := split_at us i u h
  have e2 : posF us = posF (us.take i ++ u :: us.drop (i + 1)) := by rw [← e]
  rw [e2]
  unfold posF
  rw [List.filter_append, List.filter_cons_of_pos (by simpa using hu)]

theorem seenF_get (us : List Int) (n i q : Nat) (hq : q < n) : (seenF us n i)[q]? = some (((posF (us.take i)).count (q : Int) : Nat) : Int) := by
  unfold seenF; rw [List.getElem?_map, List.getElem?_range hq]; rfl

theorem seenF_pos (us : List Int) (n i j : Nat) (h : us[i]? = some (j : Int)) (hj : j < n) (h0 : (posF (us.take i)).count (j : Int) = 0) : seenF us n (i + 1) = (seenF us n i).set j 1 := by
  have e : posF (us.take (i + 1)) = posF (us.take i) ++ [(j : Int)] := by
    rw [take_next us i _ h]; unfold posF; rw [List.filter_append, List.filter_cons_of_pos (by simp)]; rfl
  apply List.ext_getElem?
  intro q
  by_cases hq : q < n
  · rw [seenF_get us n (i + 1) q hq, e, List.count_append, List.getElem?_set, seenF_len, seenF_get us n i q hq]
    by_cases hjq : j = q
    · subst hjq
      rw [if_pos rfl, if_pos hj, h0, List.count_singleton_self]; rfl
    · rw [if_neg hjq, List.count_eq_zero.2 (show ((q : Nat) : Int) ∉ [(j : Int)] by simp; omega)]
      rfl
  · rw [List.getElem?_eq_none (by rw [seenF_len]; omega), List.getElem?_eq_none (by rw [List.length_set, seenF_len]; omega)]

theorem count_zero (us : List Int) (m i : Nat) (u : Int) (h : us[i]? = some u) (hu : 0 ≤ u) (hp : (posF us).Perm (numsTo m)) : ∃ j : Nat, u = (j : Int) ∧ j < m ∧ (posF (us.take i)).count (j : Int) = 0 := by
  have e := posF_split us i u h hu
  have hmem : u ∈ numsTo m := hp.subset (by rw [e]; simp)
  obtain ⟨j, hj, rfl⟩ := List.mem_map.1 hmem
  refine ⟨j, rfl, by simpa using hj, ?_⟩
  have hnd : (numsTo m).Nodup := by
    unfold numsTo List.Nodup
    rw [List.pairwise_map]
    exact List.Pairwise.imp (fun h e => h (by omega)) List.nodup_range
  have h2 : (posF us).Nodup := hp.nodup_iff.2 hnd
  rw [e] at h2
  rw [List.count_eq_zero]
  intro hin
  have := (List.nodup_append.1 h2).2.2 _ hin _ List.mem_cons_self
  exact this rfl

theorem none_all (us : List Int) (m k : Nat) (hk : us.length = k) (hp : (posF us).Perm (numsTo m)) : noneF us k + m = k := by
  unfold noneF
  rw [← hk, List.take_length]
  have h1 := hp.length_eq
  rw [numsTo_len] at h1
  unfold posF at h1
  have h2 : ∀ l : List Int, (l.filter fun u => decide (u < 0)).length + (l.filter fun v => decide (0 ≤ v)).length = l.length := by
    intro l
    induction l with
    | nil => rfl
    | cons x l ih =>
      by_cases hx : 0 ≤ x
      · rw [List.filter_cons_of_pos (p := fun v => decide (0 ≤ v)) (by simpa using hx), List.filter_cons_of_neg (by simpa using hx)]; simp; omega
      · rw [List.filter_cons_of_neg (p := fun v => decide (0 ≤ v)) (by simpa using hx), List.filter_cons_of_pos (by simpa using hx)]; simp; omega
  have := h2 us
  omega

theorem thieves_fact (n k : Nat) (hn : n < 10) (hk : k < 15) (picks : List Int) : ∃ ys1 o1 ys2 a t b, dRunF 0 10 [] (List.replicate 12 0) (giveTo n) [] = ⟨0, ys1, o1, []⟩ ∧
    dRunF 0 10 picks ys1 [] (List.replicate k stealF) = ⟨0, ys2, [], a⟩ ∧ a.length = k ∧ Still ys2 10 t b ∧ b ≤ 10 ∧ (conts ys2 10 t b).length = n - min n k ∧
    (posF (a.map Wk.out)).Perm (numsTo (min n k)) ∧ ∀ u ∈ a.map Wk.out, u = -1 ∨ 0 ≤ u := by
  obtain ⟨ys1, o1, t1, b1, h1, h2, h3, h4, h5, h6, h7⟩ := run_owner (C := 10) [] (List.replicate 12 0) (giveTo n) 0 0 (still_new 10 (by decide) (by decide)) (by decide) (by rw [giveTo_len]; omega)
    (by intro y hy; unfold giveTo at hy; obtain ⟨i, hi, rfl⟩ := List.mem_map.1 hy; have : i < n := by simpa using hi
        exact fresh_give _ (by omega) (by omega)) [] rfl
  have e : (giveTo n).map (fun y => (y.job, y.r0)) = (numsTo n).map fun v => (7, v) := by simp [giveTo, numsTo, giveF]
  rw [e, seq_gives 10 (numsTo n) [] (by rw [numsTo_len]; simp; omega)] at h4
  obtain ⟨ys2, a, t2, b2, g1, g2, g3, g4, g5, g6, g7⟩ := run_thieves (C := 10) picks ys1 stealF freshT_stealF k (by omega) t1 b1 h2 (by decide) h3 (numsTo n) (by rw [h4]; simp)
    (by intro v hv; obtain ⟨i, _, rfl⟩ := List.mem_map.1 hv; omega)
  rw [numsTo_len] at g5 g6
  refine ⟨ys1, o1, ys2, a, t2, b2, h1, g1, g4, g2, g3, ?_, ?_, g7⟩
  · rw [g5, List.length_drop, numsTo_len]
  · have e2 : (numsTo n).take (min n k) = numsTo (min n k) := by
      unfold numsTo; rw [← List.map_take, List.take_range]; congr 2; omega
    rw [← e2]; exact g6

end Go.Proofs.Ytdnajckhnknlcaa

/-! An owner alone and one thief behind the other, as the law looks at them. -/
namespace Go.Proofs.Ytdnajckhnknlcaa
set_option linter.unusedVariables false
set_option linter.unusedSimpArgs false
open Go.RowKit

theorem seqF_get (r : Nat) (jobs : List (Int × Int)) : ∀ (now : List Int) (i : Nat) (j v : Int), jobs[i]? = some (j, v) → (seqF r jobs now).1[i]? = some (oneF r j v (seqF r (jobs.take i) now).2).1 := by
  induction jobs with
  | nil => intro now i j v h; simp at h
  | cons x jobs ih =>
    obtain ⟨a, b⟩ := x
    intro now i j v h
    cases i with
    | zero => simp only [List.getElem?_cons_zero, Option.some.injEq, Prod.mk.injEq] at h
              obtain ⟨rfl, rfl⟩ := h
              simp [seqF]
    | succ i => simp only [List.getElem?_cons_succ] at h
                simp only [seqF, List.getElem?_cons_succ, List.take_succ_cons]
                exact ih _ i j v h
theorem seqF_next (r : Nat) (jobs : List (Int × Int)) : ∀ (now : List Int) (i : Nat) (j v : Int), jobs[i]? = some (j, v) → (seqF r (jobs.take (i + 1)) now).2 = (oneF r j v (seqF r (jobs.take i) now).2).2 := by
  induction jobs with
  | nil => intro now i j v h; simp at h
  | cons x jobs ih =>
    obtain ⟨a, b⟩ := x
    intro now i j v h
    cases i with
    | zero => simp only [List.getElem?_cons_zero, Option.some.injEq, Prod.mk.injEq] at h
              obtain ⟨rfl, rfl⟩ := h
              simp [seqF]
    | succ i => simp only [List.getElem?_cons_succ] at h
                simp only [seqF, List.take_succ_cons]
                exact ih _ i j v h

theorem oneF_len (r : Nat) (j v : Int) (now : List Int) : (oneF r j v now).2.length ≤ now.length + 1 := by
  unfold oneF
  split
  · split
    · simp
    · simp
  · split
    · simp; omega
    · simp

theorem seqF_len (r : Nat) (jobs : List (Int × Int)) : ∀ now : List Int, (seqF r jobs now).2.length ≤ now.length + jobs.length := by
  induction jobs with
  | nil => intro now; simp [seqF]
  | cons x jobs ih =>
    obtain ⟨a, b⟩ := x
    intro now
    have h1 := ih (oneF r a b now).2
    have h2 := oneF_len r a b now
    simp only [seqF, List.length_cons]; omega

/-- The jobs of an owner, as the law tells them. -/
def jobsF (raw : List Int) (f : Int) : List (Int × Int) := (ownerF raw f).map fun y => (y.job, y.r0)
theorem jobsF_get (raw : List Int) (f : Int) (i : Nat) (h : i < min raw.length 14) : (jobsF raw f)[i]? = some ((jobF raw f i).job, (jobF raw f i).r0) := by
  unfold jobsF ownerF ownTo
  rw [List.getElem?_map, List.getElem?_map, List.getElem?_range h]; rfl
theorem jobsF_len (raw : List Int) (f : Int) : (jobsF raw f).length = min raw.length 14 := by unfold jobsF; rw [List.length_map, owner_len]

theorem own_pop {w : World} {base e : Nat} {v : Value} {n : Nat} {xs : List Value} {x : Value} (h : w.ownsRow base e 1 v (n + 1) (xs ++ [x])) :
    ∃ g cap, v = .slice (some ⟨g, 0, none⟩) (n + 1) cap ∧ n + 1 ≤ cap ∧ cap ≤ maxLen ∧ w.cell? ⟨g, n, none⟩ = some x ∧ w.ownsRow base e 1 (.slice (some ⟨g, 0, none⟩) n cap) n xs := by
  obtain ⟨hl, h2⟩ := h
  rcases h2 with ⟨_, h3⟩ | ⟨g, cap, cur, rfl, hb, hg, hnc, hcm, hcs, ht⟩
  · omega
  · simp only [List.length_append, List.length_cons, List.length_nil] at hl
    have hxl : xs.length = n := by omega
    refine ⟨g, cap, rfl, hnc, hcm, ?_, by omega, .inr ⟨g, cap, cur, rfl, hb, hg, by omega, hcm, hcs, ?_⟩⟩
    · have h0 : w.ownsRow base e 1 (.slice (some ⟨g, 0, none⟩) (n + 1) cap) (n + 1) (xs ++ [x]) := ⟨by simp; omega, .inr ⟨g, cap, cur, rfl, hb, hg, hnc, hcm, hcs, ht⟩⟩
      rw [h0.cellAt n (by omega), List.getElem?_append_right (by omega), hxl]; simp
    · have h1 : cur.toList.take (n * 1) = (cur.toList.take ((n + 1) * 1)).take n := by rw [List.take_take]; congr 1; omega
      rw [h1, ht, List.take_append_of_le_length (by omega), List.take_of_length_le (by omega)]

/-- s[1:] of a slice of whole numbers. -/
theorem run_slice_tail {w : World} {b o n c : Nat} {xs : List Int} (h : Rd w 1 (some ⟨b, o, none⟩) (n + 1) c (ints xs)) : ∃ q, (∀ W : World, (Instr.slice 22 (.slice (some ⟨b, o, none⟩) (n + 1) c) (some (.int .i64 1)) none none).run Try.prog W = .ok (.slice (some q) n (c - 1)) W) ∧
    Rd w 1 (some q) n (c - 1) (ints xs.tail) := by
  have hl : xs.length = n + 1 := by have := h.len; rw [ints_len] at this; omega
  refine ⟨if c = 1 then ⟨b, o, none⟩ else ⟨b, o + 1, none⟩, fun W => ?_, ?_⟩
  · rw [run_slice_l W 22 (some ⟨b, o, none⟩) (n + 1) c under_22 .i64 1 (by omega) (by omega), size_22]
    simp only [Result.andThen, sliced, Int.toNat_one, Nat.mul_one, Option.map_some, Nat.add_sub_cancel]
    rw [Addr.add_lit]
    split <;> rfl
  · by_cases hc : c = 1
    · have hcap := h.cap
      have hn : n = 0 := by omega
      subst hn
      rw [if_pos hc]
      have := h.part 0 0 (by omega) [] rfl
      rw [Nat.add_zero, Nat.sub_zero] at this
      obtain ⟨x, rfl⟩ : ∃ x, xs = [x] := List.length_eq_one_iff.1 hl
      subst hc
      exact ⟨rfl, by omega, by simp [maxLen], by simp, fun a _ j u hj => by simp [ints] at hj⟩
    · rw [if_neg hc]
      exact h.part 1 n (by omega) xs.tail (by rw [List.drop_one, List.take_of_length_le (by simp; omega)])

theorem bd_one_get {raw : List Int} (i : Nat) (f : Int) (hf0 : 0 ≤ f) (hf : f ≤ 1000) (hi : i < 14) : (pickF (raw.getD i 0) 5 < 3 ∧ jobF raw f i = giveF (f + (i : Int))) ∨ (¬ pickF (raw.getD i 0) 5 < 3 ∧ jobF raw f i = takeF) := by
  unfold jobF
  by_cases h : pickF (raw.getD i 0) 5 < 3
  · exact .inl ⟨h, by rw [if_pos h]⟩
  · exact .inr ⟨h, by rw [if_neg h]⟩

end Go.Proofs.Ytdnajckhnknlcaa

/-! The walk of the law: each task once. -/
namespace Go.Proofs.Ytdnajckhnknlcaa
set_option linter.unusedVariables false
set_option linter.unusedSimpArgs false
open Go.RowKit

def OncePost (w : World) (e : Ending) (w' : World) : Prop := e = .returned (.bool true) ∧ Below w.heap.size w w'

theorem wk_done {w : World} {b off n c : Nat} {ws : List Wk} (h : Rd w 12 (some ⟨b, off, none⟩) n c (wkCells ws)) (k : Nat) (x : Wk) (hx : ws[k]? = some x) : w.cell? ⟨b, off + k * 12 + 10, none⟩ = some (.bool x.done) := (h.wk k x hx).1 10 (by decide)
theorem wk_jobs {w : World} {b off n c : Nat} {ws : List Wk} (h : Rd w 12 (some ⟨b, off, none⟩) n c (wkCells ws)) (k : Nat) (x : Wk) (hx : ws[k]? = some x) : w.cell? ⟨b, off + k * 12 + 1, none⟩ = some (.int .i64 x.job) := (h.wk k x hx).1 1 (by decide)

theorem wrap64_lo (n : Int) : -9223372036854775808 ≤ wrap64 n := by unfold wrap64; omega
theorem wrap64_hi (n : Int) : wrap64 n ≤ 9223372036854775807 := by unfold wrap64; omega

set_option maxHeartbeats 8000000 in
set_option maxRecDepth 100000 in
theorem once5 (room thieves : Int) (pp : Option Addr) (np cpp : Nat) (pk : Option Addr) (nk ck : Nat) (w : World) (h1 : -9223372036854775808 ≤ room) (h2 : room ≤ 9223372036854775807) (h3 : -9223372036854775808 ≤ thieves) (h4 : thieves ≤ 9223372036854775807)
    (hp : Rows2 w pp np) (hk : Rows2 w pk nk) (hnp : np ≤ 9223372036854775807) (hnk : nk ≤ 9223372036854775807) :
    Calls Try.prog 5 #[.int .i64 room, .slice pp np cpp, .int .i64 thieves, .slice pk nk ck] w (OncePost w) := by
  obtain ⟨r, hrr⟩ : ∃ r : Nat, pickF room 5 = (r : Int) := ⟨(pickF room 5).toNat, by have := pickF_lo room 5 (by decide); omega⟩
  have hr5 : r < 5 := by have := pickF_hi room 5 (by decide); omega
  obtain ⟨R, hR⟩ : ∃ R : Nat, 1 + (r : Int) = R := ⟨r + 1, by omega⟩
  have hRa : 1 ≤ R := by omega
  have hRb : R ≤ 5 := by omega
  obtain ⟨N, hN⟩ : ∃ N, min np 4 = N := ⟨_, rfl⟩
  have hNp : N ≤ np := by omega
  have hN4 : N ≤ 4 := by omega
  have HNN := Lib.hid hN
  have HRR := Lib.hid hrr
  have HRe := Lib.hid hR
  have HP := Lib.hid hp
  have HK := Lib.hid hk
  clear hN hrr hR hp hk
  go_enter Try.func5, Try.ntmps5
  go_wp2_with fail
  refine (awake10 _).mono ?_
  rintro e w1 ⟨rfl, hw1⟩
  have HW1 := Lib.hid hw1
  clear hw1
  go_wp2_with fail
  refine (pick11 _ _ _ h1 h2 (by decide) (by decide)).mono ?_
  rintro e w2 ⟨rfl, rfl⟩
  rw [HRR.out]
  go_wp2_with fail
  rw [HRe.out]
  refine (new_17 R _ (by omega) (by omega)).mono ?_
  rintro e w3 ⟨pm, cm, rfl, hw3, ho3⟩
  have HM3 := Lib.hid (rd_fr_of_owns ho3 (Nat.le_refl _)).1
  have HW3 := Lib.hid (ext_trans HW1.out hw3)
  clear HW1 hw3 ho3
  go_wp2_with fail
  go_loopw [11, 12, 13, 14] (fun v11 v12 v13 v14 wr => ∃ (i : Nat) (pm : Option Addr) (cm : Nat) (xs : List Int) (t b : Nat) (p : Option Addr) (n c : Nat) (G : List Int) (q : Option Addr) (m d : Nat) (Z : List Int), i ≤ N ∧ v14 = .int .i64 (i : Int) ∧ v11 = .slice pm (R + 2) cm ∧ v12 = .slice p n c ∧ v13 = .slice q m d ∧
      Rd wr 1 pm (R + 2) cm (ints xs) ∧ Hid (Still xs R t b) ∧ b ≤ 14 * i ∧ Two wr w.heap.size (.slice p n c) n G (.slice q m d) m Z ∧ Hid (Told i G Z (conts xs R t b)) ∧ n ≤ 14 * i ∧ m ≤ 22 * i ∧ Below w.heap.size w wr) (fun _ _ _ v14 _ => N - (intOf v14).toNat)
  case atStart => exact ⟨0, pm, cm, List.replicate (R + 2) 0, 0, 0, none, 0, 0, [], none, 0, 0, [], Nat.zero_le _, rfl, rfl, rfl, rfl, HM3.out, still_new R hRa (by omega), by omega, ⟨World.ownsRow_nil _ _ _ _, World.ownsRow_nil _ _ _ _, by simp [Value.ownBlock]⟩, told_start, by omega, by omega, HW3.out⟩
  case round =>
    obtain ⟨i, pm, cm, xs, t, b, p, n, c, G, q, m, d, Z, hi, rfl, rfl, rfl, rfl, hm1, hst, hb, htwo, htold, hn, hmz, hw⟩ := hrel
    have HM := Lib.hid hm1
    have HTWO := Lib.hid htwo
    have HW := Lib.hid hw
    clear hm1 htwo hw HM3 HW3
    by_cases hlt : i < N
    · have hi4 : i < 4 := by omega
      have hip : i < np := by omega
      obtain ⟨bp, op, p3, n3, c3, raw, rfl, hcp, hr3, hbd3⟩ := HP.out.ext HW.out i hip
      have hlr : raw.length = n3 := by have := hr3.len; rw [ints_len] at this; omega
      have HR3 := Lib.hid hr3
      have BD3 := Lib.hid hbd3
      have HLR := Lib.hid hlr
      clear hr3 hbd3 hlr
      obtain ⟨T, hT⟩ : ∃ T : Nat, pickF (wrap64 (thieves + (i : Int))) 9 = (T : Int) := ⟨(pickF (wrap64 (thieves + (i : Int))) 9).toNat, by have := pickF_lo (wrap64 (thieves + (i : Int))) 9 (by decide); omega⟩
      have hT9 : T < 9 := by have := pickF_hi (wrap64 (thieves + (i : Int))) 9 (by decide); omega
      have HT := Lib.hid hT
      have hwl := wrap64_lo (thieves + (i : Int))
      have hwh := wrap64_hi (thieves + (i : Int))
      clear hT
      by_cases hik : i < nk
      · obtain ⟨bk, ok, p4, n4, c4, picks, rfl, hck, hr4, hbd4⟩ := HK.out.ext HW.out i hik
        have HR4 := Lib.hid hr4
        have BD4 := Lib.hid hbd4
        clear hr4 hbd4
        go_wp2_with fail
        obtain ⟨ys, o, a, t2, b2, hrun, hst2, hb2, hol, hal, hod, had, hon, hoj⟩ := once_run R T i hT9 hi4 picks raw xs (100 * ((i : Int) + 1)) (by omega) (by omega) t b hst.out hb htold.out.pos
        rw [HLR.out] at hol
        obtain ⟨no, hno⟩ : ∃ no, min n3 14 = no := ⟨_, rfl⟩
        rw [hno] at hol
        have hno14 : no ≤ 14 := by omega
        have HNO := Lib.hid hno
        have RUN := Lib.hid hrun
        have ST2 := Lib.hid hst2
        have OL := Lib.hid hol
        have AL := Lib.hid hal
        have OD := Lib.hid hod
        have AD := Lib.hid had
        have ON := Lib.hid hon
        have OJ := Lib.hid hoj
        clear hno hrun hst2 hol hal hod had hon hoj
        refine (owner25 p3 n3 c3 raw (100 * ((i : Int) + 1)) _ HR3.out BD3.out (by omega) (by omega)).mono ?_
        rw [HNO.out]
        rintro e w4 ⟨v4, rfl, hw4, ho4⟩
        obtain ⟨po, co, rfl, hro, _⟩ := Rd.of_owns ho4
        have HM4 := Lib.hid (HM.out.ext hw4)
        have HTWO4 := Lib.hid (HTWO.out.ext hw4)
        have HW4 := Lib.hid (ext_trans HW.out hw4)
        have HO4 := Lib.hid hro
        have HR44 := Lib.hid (HR4.out.ext hw4)
        clear HM HTWO HW HR3 HR4 BD3 hw4 ho4 hro hcp
        go_wp2_with fail
        refine (pick11 _ _ _ hwl hwh (by decide) (by decide)).mono ?_
        rintro e w5 ⟨rfl, rfl⟩
        rw [HT.out]
        go_wp2_with fail
        refine (steals26 T _ (by omega)).mono ?_
        rintro e w5 ⟨v5, rfl, hw5, ho5⟩
        obtain ⟨pt, ct, rfl, hrt, _⟩ := Rd.of_owns ho5
        have HM5 := Lib.hid (HM4.out.ext hw5)
        have HTWO5 := Lib.hid (HTWO4.out.ext hw5)
        have HW5 := Lib.hid (ext_trans HW4.out hw5)
        have HO5 := Lib.hid (HO4.out.ext hw5)
        have HR45 := Lib.hid (HR44.out.ext hw5)
        have HT5 := Lib.hid hrt
        clear HM4 HTWO4 HW4 HO4 HR44 hw5 ho5 hrt
        go_wp2_with fail
        refine (run27_new pm po pt _ (R + 2) cm no co T ct _ _ 0 (R : Int) picks xs _ _ _ HM5.out HO5.out HT5.out HR45.out BD4.out (by omega) (by omega) (by omega) ys o a RUN.out).mono ?_
        rintro e w6 ⟨p1, c1, p2, c2, p6, c6, rfl, hw6, g1, g2, g3, f1, f2, f3⟩
        have HS6 := Lib.hid (st5_start HTWO5.out HW5.out hw6 g1 g2 g3 f1 f2 f3)
        clear HM5 HTWO5 HW5 HO5 HR45 HT5 BD4 hw6 g1 g2 g3 f1 f2 f3 RUN
        go_wp2_with fail
        refine (pick11 _ _ _ hwl hwh (by decide) (by decide)).mono ?_
        rintro e w7 ⟨rfl, rfl⟩
        rw [HT.out]
        go_wp2_with fail
        have htl := htold.out
        have HTL := Lib.hid htl
        clear htold htl hst
        obtain ⟨wo, hwo⟩ : ∃ wo : World, wo = wr := ⟨_, rfl⟩
        subst hwo
        go_loopw [12, 13, 21] (fun v12 v13 v21 wr => ∃ (k : Nat) (p : Option Addr) (n1 c : Nat) (G1 : List Int) (q : Option Addr) (m1 d : Nat) (Z1 : List Int), k ≤ no ∧ v21 = .int .i64 (k : Int) ∧ v12 = .slice p n1 c ∧ v13 = .slice q m1 d ∧
          St5 w wr (.slice p n1 c) n1 G1 (.slice q m1 d) m1 Z1 p1 p2 p6 (R + 2) no T c1 c2 c6 ys o a ∧ Hid (G1 = G ++ givenO ((o.take k).map ov)) ∧ Hid (Z1 = Z ++ goneO ((o.take k).map ov)) ∧ n1 ≤ n + k ∧ m1 ≤ m + k) (fun _ _ v21 _ => no - (intOf v21).toNat)
        case atStart => exact ⟨0, p, n, c, G, q, m, d, Z, Nat.zero_le _, rfl, rfl, rfl, HS6.out, by simp [Hid, givenO], by simp [Hid, goneO], by omega, by omega⟩
        case round =>
          obtain ⟨k, p, n1, c, G1, q, m1, d, Z1, hk, rfl, rfl, rfl, hs, hG, hZ, hn1, hm1⟩ := hrel
          have HS := Lib.hid hs
          clear hs HS6
          by_cases hkn : k < no
          · obtain ⟨y, ey⟩ : ∃ y, o[k]? = some y := ⟨o[k]'(by rw [OL.out]; exact hkn), List.getElem?_eq_getElem _⟩
            have hyd : y.done = true := OD.out y (List.mem_of_getElem? ey)
            have htk := take_next o k y ey
            have hyj : y.job = 7 ∨ y.job = 6 := by
              have e := OJ.out
              have h8 : (o.map fun y => (y.job, y.r0))[k]? = some (y.job, y.r0) := by rw [List.getElem?_map, ey]; rfl
              rw [e] at h8
              have h9 := jobsF_get raw (100 * ((i : Int) + 1)) k (by rw [HLR.out, HNO.out]; exact hkn)
              unfold jobsF at h9
              rw [h9] at h8
              simp only [Option.some.injEq, Prod.mk.injEq] at h8
              rw [← h8.1]
              unfold jobF
              split
              · exact .inl rfl
              · exact .inr rfl
            obtain ⟨b2', o2', rfl⟩ := HS.out.r2.addr (by omega) (by decide)
            have hcd := wk_done HS.out.r2 k y ey
            have hcj := wk_jobs HS.out.r2 k y ey
            have hco := aw_out HS.out.r2 k y ey
            rw [hyd] at hcd
            have hov := ov_done hyd
            obtain ⟨v, hv⟩ : ∃ v, y.out = v := ⟨_, rfl⟩
            rw [hv] at hco hov
            have hGk : givenO ((o.take (k + 1)).map ov) = givenO ((o.take k).map ov) ++ givenO [(y.job, y.r0, some v)] := by rw [htk, List.map_append, List.map_cons, List.map_nil, hov, givenO_snoc]
            have hZk : goneO ((o.take (k + 1)).map ov) = goneO ((o.take k).map ov) ++ goneO [(y.job, y.r0, some v)] := by rw [htk, List.map_append, List.map_cons, List.map_nil, hov, goneO_snoc]
            clear htk hov hyd ey
            by_cases hneg : v < 0
            · rw [givenO_no _ _ _ hneg, List.append_nil] at hGk
              rw [goneO_no _ _ _ hneg, List.append_nil] at hZk
              have HG := Lib.hid hGk
              have HZ := Lib.hid hZk
              clear hGk hZk hyj hcj hv
              go_wp2_with fail
              go_roundw
              case rel => exact ⟨k + 1, p, n1, c, G1, q, m1, d, Z1, by omega, by go_num, rfl, rfl, HS.out, by rw [HG.out]; exact hG, by rw [HZ.out]; exact hZ, by omega, by omega⟩
              case measure => simp [intOf]; omega
            · rcases hyj with ej | ej
              · rw [ej] at hGk hZk hcj
                rw [givenO_yes _ _ (by omega)] at hGk
                rw [goneO_give, List.append_nil] at hZk
                have HG : Hid (G1 ++ [v] = G ++ givenO ((o.take (k + 1)).map ov)) := by
                  show G1 ++ [v] = G ++ givenO ((o.take (k + 1)).map ov)
                  rw [hGk, hG.out, List.append_assoc]
                have HZ : Hid (Z1 = Z ++ goneO ((o.take (k + 1)).map ov)) := by
                  show Z1 = Z ++ goneO ((o.take (k + 1)).map ov)
                  rw [hZk]; exact hZ.out
                clear hGk hZk ej hv hG hZ
                have HSa := Lib.hid (HS.out.ext (ext_alloc (Below.refl _ _) (.cells #[.int .i64 v] 3)))
                have HBs := Lib.hid HSa.out.below.size
                go_wp2_with (at_builtin; go_must (refine wpList_append_rd _ rfl (.tmp 128) (.tmp 134) 22 rfl w.heap.size 3 (.int .i64 0) 1 8 Try.underlying22 info_3 rfl (by decide) _ n1 _ rfl HSa.out.two.own1 (some ⟨wr.heap.size, 0, none⟩) 1 1 [.int .i64 v] rfl (rd_one wr 3 _) (by simp [Value.oneCell']) (by unfold maxLen; omega) (by omega) HBs.out ?_))
                intro v9 w9 hown9 hg9 hb9
                obtain ⟨p9, c9, rfl, _, _⟩ := Rd.of_owns hown9
                have HS9 := Lib.hid (HSa.out.push1 hown9 hg9 (hb9.imp id fun e => e.trans (by simp)))
                clear hown9 hg9 hb9 HS HSa hcj hco hcd
                go_wp2_with fail
                go_roundw
                case rel => exact ⟨k + 1, p9, n1 + 1, c9, G1 ++ [v], q, m1, d, Z1, by omega, by go_num, rfl, rfl, HS9.out, HG.out, HZ.out, by omega, by omega⟩
                case measure => simp [intOf]; omega
              · rw [ej] at hGk hZk hcj
                rw [givenO_other _ _ _ (by decide), List.append_nil] at hGk
                rw [goneO_yes _ _ _ (by decide) (by omega)] at hZk
                have HG : Hid (G1 = G ++ givenO ((o.take (k + 1)).map ov)) := by
                  show G1 = G ++ givenO ((o.take (k + 1)).map ov)
                  rw [hGk]; exact hG.out
                have HZ : Hid (Z1 ++ [v] = Z ++ goneO ((o.take (k + 1)).map ov)) := by
                  show Z1 ++ [v] = Z ++ goneO ((o.take (k + 1)).map ov)
                  rw [hZk, hZ.out, List.append_assoc]
                clear hGk hZk ej hv hG hZ
                have HSa := Lib.hid (HS.out.ext (ext_alloc (Below.refl _ _) (.cells #[.int .i64 v] 3)))
                have HBs := Lib.hid HSa.out.below.size
                go_wp2_with (at_builtin; go_must (refine wpList_append_rd _ rfl (.tmp 99) (.tmp 105) 22 rfl w.heap.size 3 (.int .i64 0) 1 8 Try.underlying22 info_3 rfl (by decide) _ m1 _ rfl HSa.out.two.own2 (some ⟨wr.heap.size, 0, none⟩) 1 1 [.int .i64 v] rfl (rd_one wr 3 _) (by simp [Value.oneCell']) (by unfold maxLen; omega) (by omega) HBs.out ?_))
                intro v9 w9 hown9 hg9 hb9
                obtain ⟨p9, c9, rfl, _, _⟩ := Rd.of_owns hown9
                have HS9 := Lib.hid (HSa.out.push2 hown9 hg9 (hb9.imp id fun e => e.trans (by simp)))
                clear hown9 hg9 hb9 HS HSa hcj hco hcd
                go_wp2_with fail
                go_roundw
                case rel => exact ⟨k + 1, p, n1, c, G1, p9, m1 + 1, c9, Z1 ++ [v], by omega, by go_num, rfl, rfl, HS9.out, HG.out, HZ.out, by omega, by omega⟩
                case measure => simp [intOf]; omega
          · obtain rfl : no = k := by omega
            rw [List.take_of_length_le (by rw [OL.out]; exact Nat.le_refl _)] at hG hZ
            go_wp2_with fail
            obtain ⟨n2, hn2⟩ : ∃ n2, n1 = n2 := ⟨_, rfl⟩
            subst hn2
            obtain ⟨wo, hwo⟩ : ∃ wo : World, wo = wr := ⟨_, rfl⟩
            subst hwo
            go_loopw [13, 22] (fun v13 v22 wr => ∃ (k : Nat) (q : Option Addr) (m2 d : Nat) (Z2 : List Int), k ≤ T ∧ v22 = .int .i64 (k : Int) ∧ v13 = .slice q m2 d ∧
              St5 w wr (.slice p n1 c) n1 G1 (.slice q m2 d) m2 Z2 p1 p2 p6 (R + 2) no T c1 c2 c6 ys o a ∧ Hid (Z2 = Z1 ++ goneT ((a.take k).map tv)) ∧ m2 ≤ m1 + k) (fun _ v22 _ => T - (intOf v22).toNat)
            case atStart => exact ⟨0, q, m1, d, Z1, Nat.zero_le _, rfl, rfl, HS.out, by simp [Hid, goneT], by omega⟩
            case round =>
              obtain ⟨k, q, m2, d, Z2, hkT, rfl, rfl, hs, hZ2, hm2⟩ := hrel
              have HSB := Lib.hid hs
              clear hs HS
              by_cases hkt : k < T
              · obtain ⟨y, ey⟩ : ∃ y, a[k]? = some y := ⟨a[k]'(by rw [AL.out]; exact hkt), List.getElem?_eq_getElem _⟩
                have hyd : y.done = true := AD.out y (List.mem_of_getElem? ey)
                have htk := take_next a k y ey
                obtain ⟨b3', o3', rfl⟩ := HSB.out.r3.addr (by omega) (by decide)
                have hcd := wk_done HSB.out.r3 k y ey
                have hco := aw_out HSB.out.r3 k y ey
                rw [hyd] at hcd
                have hov := tv_done hyd
                obtain ⟨v, hv⟩ : ∃ v, y.out = v := ⟨_, rfl⟩
                rw [hv] at hco hov
                have hZk : goneT ((a.take (k + 1)).map tv) = goneT ((a.take k).map tv) ++ goneT [some v] := by rw [htk, List.map_append, List.map_cons, List.map_nil, hov, goneT_snoc]
                clear htk hov hyd ey hv
                by_cases hneg : v < 0
                · rw [goneT_no _ hneg, List.append_nil] at hZk
                  have HZ : Hid (Z2 = Z1 ++ goneT ((a.take (k + 1)).map tv)) := by
                    show Z2 = Z1 ++ goneT ((a.take (k + 1)).map tv)
                    rw [hZk]; exact hZ2.out
                  have hneg2 : ¬ 0 ≤ v := by omega
                  clear hZk hZ2
                  go_wp2_with fail
                  go_roundw
                  case rel => exact ⟨k + 1, q, m2, d, Z2, by omega, by go_num, rfl, HSB.out, HZ.out, by omega⟩
                  case measure => simp [intOf]; omega
                · have hneg2 : 0 ≤ v := by omega
                  rw [goneT_yes _ hneg2] at hZk
                  have HZ : Hid (Z2 ++ [v] = Z1 ++ goneT ((a.take (k + 1)).map tv)) := by
                    show Z2 ++ [v] = Z1 ++ goneT ((a.take (k + 1)).map tv)
                    rw [hZk, hZ2.out, List.append_assoc]
                  clear hZk hZ2
                  have HSa := Lib.hid (HSB.out.ext (ext_alloc (Below.refl _ _) (.cells #[.int .i64 v] 3)))
                  have HBs := Lib.hid HSa.out.below.size
                  go_wp2_with (at_builtin; go_must (refine wpList_append_rd _ rfl (.tmp 154) (.tmp 160) 22 rfl w.heap.size 3 (.int .i64 0) 1 8 Try.underlying22 info_3 rfl (by decide) _ m2 _ rfl HSa.out.two.own2 (some ⟨wr.heap.size, 0, none⟩) 1 1 [.int .i64 v] rfl (rd_one wr 3 _) (by simp [Value.oneCell']) (by unfold maxLen; omega) (by omega) HBs.out ?_))
                  intro v9 w9 hown9 hg9 hb9
                  obtain ⟨p9, c9, rfl, _, _⟩ := Rd.of_owns hown9
                  have HS9 := Lib.hid (HSa.out.push2 hown9 hg9 (hb9.imp id fun e => e.trans (by simp)))
                  clear hown9 hg9 hb9 HSB HSa hco hcd
                  go_wp2_with fail
                  go_roundw
                  case rel => exact ⟨k + 1, p9, m2 + 1, c9, Z2 ++ [v], by omega, by go_num, rfl, HS9.out, HZ.out, by omega⟩
                  case measure => simp [intOf]; omega
              · obtain rfl : T = k := by omega
                rw [List.take_of_length_le (by rw [AL.out]; exact Nat.le_refl _)] at hZ2
                have hnext := told_next HTL.out raw (o.map ov) (a.map tv) ON.out (by rw [List.map_map]; exact OJ.out)
                rw [← hG.out, ← hZ.out, ← hZ2.out] at hnext
                obtain ⟨hlen, hone⟩ := told_all hnext
                have HNX := Lib.hid hnext
                have HLEN := Lib.hid hlen
                have HONE := Lib.hid hone
                have hl1 : G1.length = n1 := by have := HSB.out.two.own1.1; rw [ints_len] at this; omega
                have hl2 : Z2.length = m2 := by have := HSB.out.two.own2.1; rw [ints_len] at this; omega
                have HL1 := Lib.hid hl1
                have HL2 := Lib.hid hl2
                clear hnext hlen hone hl1 hl2 hkt hkn hZ hZ2 hG
                obtain ⟨wo, hwo⟩ : ∃ wo : World, wo = wr := ⟨_, rfl⟩
                subst hwo
                have HRZ := Lib.hid (rd_fr_of_owns HSB.out.two.own2 (Nat.le_refl _)).1
                go_wp2_with (at_builtin; go_must (refine wpList_append_rd _ rfl (.const (.slice none 0 0)) (.tmp 162) 22 rfl wo.heap.size 3 (.int .i64 0) 1 8 Try.underlying22 info_3 rfl (by decide) _ 0 [] rfl (World.ownsRow_nil _ _ _ _) q m2 d (ints Z2) rfl HRZ.out (ints_one _) (by unfold maxLen; omega) (by omega) (Nat.le_refl _) ?_))
                intro v7 w7 hown7 hg7 _
                have hx7 : Below wo.heap.size wo w7 := ext_grown (Below.refl _ _) hg7 (by intro k hk; simp [Value.ownBlock] at hk)
                have HX7 := Lib.hid hx7
                have HS7 := Lib.hid (HSB.out.ext hx7)
                have HO7 := Lib.hid hown7
                clear hown7 hg7 hx7 HRZ
                go_wp2_with fail
                refine (tasks15_still p1 c1 R ys t2 b2 _ ST2.out (by omega) HS7.out.r1).mono ?_
                obtain ⟨L2, hL2⟩ : ∃ L2, conts ys R t2 b2 = L2 := ⟨_, rfl⟩
                have hll : L2.length ≤ 60 := by rw [← hL2, conts_len]; omega
                have hsum : m2 + L2.length = n1 := by
                  have e1 := HLEN.out
                  have e2 := HL1.out
                  have e3 := HL2.out
                  rw [hL2, List.length_append] at e1
                  omega
                have hone2 := HONE.out
                rw [hL2] at hone2 ⊢
                obtain ⟨ln, hln⟩ : ∃ ln, L2.length = ln := ⟨_, rfl⟩
                rw [hln] at hll hsum ⊢
                have ONE := Lib.hid hone2
                have HCL := Lib.hid hL2
                have HSUM := Lib.hid hsum
                have HLN := Lib.hid hln
                clear hone2 hL2 hsum hln HONE HLEN
                rintro e w8 ⟨pt2, ct2, rfl, hw8, ht8⟩
                have HX8 := Lib.hid (ext_trans HX7.out hw8)
                have HO8 := Lib.hid (own_ext HO7.out hw8)
                have HT8 := Lib.hid ht8
                clear HS7 HX7 HO7 hw8 ht8
                go_wp2_with (at_builtin; go_must (refine wpList_append_rd _ rfl (.tmp 163) (.tmp 166) 22 rfl wo.heap.size 3 (.int .i64 0) 1 8 Try.underlying22 info_3 rfl (by decide) _ m2 _ rfl HO8.out pt2 ln ct2 (ints L2) rfl HT8.out (ints_one _) (by unfold maxLen; omega) (by omega) HX8.out.size ?_))
                intro v9 w9 hown9 hg9 _
                have hx9 := owns_grown HO8.out HX8.out hg9 (Nat.le_refl _) HX8.out.size
                have hs9 := HSB.out.ext hx9
                rw [HSUM.out] at hown9
                obtain ⟨p9, c9, rfl, hr9, _⟩ := Rd.of_owns hown9
                have HALL : Hid (Rd w9 1 p9 n1 c9 (ints (Z2 ++ L2))) := by
                  show Rd w9 1 p9 n1 c9 (ints (Z2 ++ L2))
                  rw [show ints (Z2 ++ L2) = ints Z2 ++ ints L2 by simp [ints]]
                  exact hr9
                have HGR := Lib.hid (rd_fr_of_owns hs9.two.own1 (Nat.le_refl _)).1
                have HS9 := Lib.hid hs9
                clear hown9 hg9 hx9 hs9 hr9 HO8 HX8 HT8 HSB
                go_wp2_with fail
                go_loopw [24] (fun v24 wr => ∃ k : Nat, k ≤ n1 ∧ v24 = .int .i64 (k : Int) ∧ ∃ s, wr = w9.drewN s) (fun v24 _ => n1 - (intOf v24).toNat)
                case atStart => exact ⟨0, Nat.zero_le _, rfl, 0, rfl⟩
                case round =>
                  obtain ⟨k, hk1, rfl, s, rfl⟩ := hrel
                  by_cases hk2 : k < n1
                  · obtain ⟨bg, og, rfl⟩ := HGR.out.addr (by omega) (by decide)
                    obtain ⟨bz, oz, rfl⟩ := HALL.out.addr (by omega) (by decide)
                    have hg1l := HL1.out
                    have hcg := HGR.out.cell k _ (ints_get G1 k (by omega))
                    obtain ⟨x, hx⟩ : ∃ x, G1.getD k 0 = x := ⟨_, rfl⟩
                    rw [hx] at hcg
                    have hx1 : (Z2 ++ L2).count x = 1 := ONE.out x (by
                      rw [← hx, List.getD_eq_getElem?_getD, List.getElem?_eq_getElem (by omega)]
                      exact List.getElem_mem _)
                    have HX1 := Lib.hid hx1
                    clear hx1 hx hg1l
                    go_wp2_with fail
                    go_loopw [25, 26] (fun v25 v26 wr => ∃ j : Nat, j ≤ n1 ∧ v26 = .int .i64 (j : Int) ∧ ∃ cn : Int, v25 = .int .i64 cn ∧ Hid (cn = ((((Z2 ++ L2).take j).count x : Nat) : Int)) ∧ ∃ s, wr = w9.drewN s) (fun _ v26 _ => n1 - (intOf v26).toNat)
                    case atStart => exact ⟨0, Nat.zero_le _, rfl, 0, rfl, by simp [Hid], s, rfl⟩
                    case round =>
                      obtain ⟨j, hj1, rfl, cn, rfl, hcn, s, rfl⟩ := hrel
                      have hcn1 : 0 ≤ cn := by have := hcn.out; omega
                      have hcn2 : cn ≤ j := by
                        have := hcn.out
                        have h5 : ((Z2 ++ L2).take j).count x ≤ ((Z2 ++ L2).take j).length := List.count_le_length
                        rw [List.length_take] at h5
                        omega
                      by_cases hj2 : j < n1
                      · have hzl : (Z2 ++ L2).length = n1 := by have := HALL.out.len; rw [ints_len] at this; omega
                        have hca := HALL.out.cell j _ (ints_get (Z2 ++ L2) j (by omega))
                        obtain ⟨z, hz⟩ : ∃ z, (Z2 ++ L2).getD j 0 = z := ⟨_, rfl⟩
                        rw [hz] at hca
                        have hz2 : (Z2 ++ L2)[j]? = some z := by rw [← hz, List.getD_eq_getElem?_getD, List.getElem?_eq_getElem (by omega)]; rfl
                        have htk := take_next (Z2 ++ L2) j z hz2
                        by_cases hzx : z = x
                        · have HC1 : Hid (cn + 1 = ((((Z2 ++ L2).take (j + 1)).count x : Nat) : Int)) := by
                            show cn + 1 = _
                            rw [htk, hzx, List.count_append, List.count_singleton_self, hcn.out]; omega
                          rw [hzx] at hca
                          clear htk hz2 hz hzx hzl hcn
                          go_wp2_with fail
                          go_quiet (fail)
                          go_wp2_with fail
                          go_roundw
                          case rel => exact ⟨j + 1, by omega, by go_num, cn + 1, rfl, HC1.out, _, rfl⟩
                          case measure => simp [intOf]; omega
                        · have HC1 : Hid (cn = ((((Z2 ++ L2).take (j + 1)).count x : Nat) : Int)) := by
                            show cn = _
                            rw [htk, List.count_append, List.count_eq_zero.2 (show x ∉ [z] by simp; exact fun e => hzx e.symm), hcn.out]; omega
                          have hb : (z == x) = false := by simpa using hzx
                          clear htk hz2 hz hzx hzl hcn
                          go_wp2_with fail
                          go_quiet (fail)
                          go_wp2_with fail
                          go_roundw
                          case rel => exact ⟨j + 1, by omega, by go_num, cn, rfl, HC1.out, _, rfl⟩
                          case measure => simp [intOf]; omega
                      · have hjn : n1 = j := by omega
                        have hzl : (Z2 ++ L2).length = n1 := by have := HALL.out.len; rw [ints_len] at this; omega
                        have hc1 := hcn.out
                        rw [List.take_of_length_le (by omega), HX1.out] at hc1
                        obtain rfl : cn = 1 := by omega
                        clear hc1 hcn hzl
                        go_wp2_with fail
                        go_roundw
                        case rel => exact ⟨k + 1, by omega, by go_num, _, rfl⟩
                        case measure => simp [intOf]; omega
                  · have hkn : n1 = k := by omega
                    go_wp2_with fail
                    go_roundw
                    case rel => exact ⟨i + 1, p1, c1, ys, t2, b2, p, n1, c, G1, q, m2, d, Z2, by omega, by go_num, rfl, rfl, rfl, HS9.out.r1.drewN _, ST2.out, hb2, ⟨own_drewN HS9.out.two.own1 _, own_drewN HS9.out.two.own2 _, HS9.out.two.ne⟩, HNX.out, by omega, by omega, ext_drewN HS9.out.below _⟩
                    case measure => simp [intOf]; omega
      · obtain ⟨picks, hpk⟩ : ∃ picks : List Int, picks = [] := ⟨_, rfl⟩
        have HR4 : Hid (Rd wr 1 none 0 0 (ints picks)) := by subst hpk; exact rd_nili wr
        have BD4 : Hid (Bd picks) := by subst hpk; exact bd_nil
        clear hpk
        go_wp2_with fail
        obtain ⟨ys, o, a, t2, b2, hrun, hst2, hb2, hol, hal, hod, had, hon, hoj⟩ := once_run R T i hT9 hi4 picks raw xs (100 * ((i : Int) + 1)) (by omega) (by omega) t b hst.out hb htold.out.pos
        rw [HLR.out] at hol
        obtain ⟨no, hno⟩ : ∃ no, min n3 14 = no := ⟨_, rfl⟩
        rw [hno] at hol
        have hno14 : no ≤ 14 := by omega
        have HNO := Lib.hid hno
        have RUN := Lib.hid hrun
        have ST2 := Lib.hid hst2
        have OL := Lib.hid hol
        have AL := Lib.hid hal
        have OD := Lib.hid hod
        have AD := Lib.hid had
        have ON := Lib.hid hon
        have OJ := Lib.hid hoj
        clear hno hrun hst2 hol hal hod had hon hoj
        refine (owner25 p3 n3 c3 raw (100 * ((i : Int) + 1)) _ HR3.out BD3.out (by omega) (by omega)).mono ?_
        rw [HNO.out]
        rintro e w4 ⟨v4, rfl, hw4, ho4⟩
        obtain ⟨po, co, rfl, hro, _⟩ := Rd.of_owns ho4
        have HM4 := Lib.hid (HM.out.ext hw4)
        have HTWO4 := Lib.hid (HTWO.out.ext hw4)
        have HW4 := Lib.hid (ext_trans HW.out hw4)
        have HO4 := Lib.hid hro
        have HR44 := Lib.hid (HR4.out.ext hw4)
        clear HM HTWO HW HR3 HR4 BD3 hw4 ho4 hro hcp
        go_wp2_with fail
        refine (pick11 _ _ _ hwl hwh (by decide) (by decide)).mono ?_
        rintro e w5 ⟨rfl, rfl⟩
        rw [HT.out]
        go_wp2_with fail
        refine (steals26 T _ (by omega)).mono ?_
        rintro e w5 ⟨v5, rfl, hw5, ho5⟩
        obtain ⟨pt, ct, rfl, hrt, _⟩ := Rd.of_owns ho5
        have HM5 := Lib.hid (HM4.out.ext hw5)
        have HTWO5 := Lib.hid (HTWO4.out.ext hw5)
        have HW5 := Lib.hid (ext_trans HW4.out hw5)
        have HO5 := Lib.hid (HO4.out.ext hw5)
        have HR45 := Lib.hid (HR44.out.ext hw5)
        have HT5 := Lib.hid hrt
        clear HM4 HTWO4 HW4 HO4 HR44 hw5 ho5 hrt
        go_wp2_with fail
        refine (run27_new pm po pt _ (R + 2) cm no co T ct _ _ 0 (R : Int) picks xs _ _ _ HM5.out HO5.out HT5.out HR45.out BD4.out (by omega) (by omega) (by omega) ys o a RUN.out).mono ?_
        rintro e w6 ⟨p1, c1, p2, c2, p6, c6, rfl, hw6, g1, g2, g3, f1, f2, f3⟩
        have HS6 := Lib.hid (st5_start HTWO5.out HW5.out hw6 g1 g2 g3 f1 f2 f3)
        clear HM5 HTWO5 HW5 HO5 HR45 HT5 BD4 hw6 g1 g2 g3 f1 f2 f3 RUN
        go_wp2_with fail
        refine (pick11 _ _ _ hwl hwh (by decide) (by decide)).mono ?_
        rintro e w7 ⟨rfl, rfl⟩
        rw [HT.out]
        go_wp2_with fail
        have htl := htold.out
        have HTL := Lib.hid htl
        clear htold htl hst
        obtain ⟨wo, hwo⟩ : ∃ wo : World, wo = wr := ⟨_, rfl⟩
        subst hwo
        go_loopw [12, 13, 21] (fun v12 v13 v21 wr => ∃ (k : Nat) (p : Option Addr) (n1 c : Nat) (G1 : List Int) (q : Option Addr) (m1 d : Nat) (Z1 : List Int), k ≤ no ∧ v21 = .int .i64 (k : Int) ∧ v12 = .slice p n1 c ∧ v13 = .slice q m1 d ∧
          St5 w wr (.slice p n1 c) n1 G1 (.slice q m1 d) m1 Z1 p1 p2 p6 (R + 2) no T c1 c2 c6 ys o a ∧ Hid (G1 = G ++ givenO ((o.take k).map ov)) ∧ Hid (Z1 = Z ++ goneO ((o.take k).map ov)) ∧ n1 ≤ n + k ∧ m1 ≤ m + k) (fun _ _ v21 _ => no - (intOf v21).toNat)
        case atStart => exact ⟨0, p, n, c, G, q, m, d, Z, Nat.zero_le _, rfl, rfl, rfl, HS6.out, by simp [Hid, givenO], by simp [Hid, goneO], by omega, by omega⟩
        case round =>
          obtain ⟨k, p, n1, c, G1, q, m1, d, Z1, hk, rfl, rfl, rfl, hs, hG, hZ, hn1, hm1⟩ := hrel
          have HS := Lib.hid hs
          clear hs HS6
          by_cases hkn : k < no
          · obtain ⟨y, ey⟩ : ∃ y, o[k]? = some y := ⟨o[k]'(by rw [OL.out]; exact hkn), List.getElem?_eq_getElem _⟩
            have hyd : y.done = true := OD.out y (List.mem_of_getElem? ey)
            have htk := take_next o k y ey
            have hyj : y.job = 7 ∨ y.job = 6 := by
              have e := OJ.out
              have h8 : (o.map fun y => (y.job, y.r0))[k]? = some (y.job, y.r0) := by rw [List.getElem?_map, ey]; rfl
              rw [e] at h8
              have h9 := jobsF_get raw (100 * ((i : Int) + 1)) k (by rw [HLR.out, HNO.out]; exact hkn)
              unfold jobsF at h9
              rw [h9] at h8
              simp only [Option.some.injEq, Prod.mk.injEq] at h8
              rw [← h8.1]
              unfold jobF
              split
              · exact .inl rfl
              · exact .inr rfl
            obtain ⟨b2', o2', rfl⟩ := HS.out.r2.addr (by omega) (by decide)
            have hcd := wk_done HS.out.r2 k y ey
            have hcj := wk_jobs HS.out.r2 k y ey
            have hco := aw_out HS.out.r2 k y ey
            rw [hyd] at hcd
            have hov := ov_done hyd
            obtain ⟨v, hv⟩ : ∃ v, y.out = v := ⟨_, rfl⟩
            rw [hv] at hco hov
            have hGk : givenO ((o.take (k + 1)).map ov) = givenO ((o.take k).map ov) ++ givenO [(y.job, y.r0, some v)] := by rw [htk, List.map_append, List.map_cons, List.map_nil, hov, givenO_snoc]
            have hZk : goneO ((o.take (k + 1)).map ov) = goneO ((o.take k).map ov) ++ goneO [(y.job, y.r0, some v)] := by rw [htk, List.map_append, List.map_cons, List.map_nil, hov, goneO_snoc]
            clear htk hov hyd ey
            by_cases hneg : v < 0
            · rw [givenO_no _ _ _ hneg, List.append_nil] at hGk
              rw [goneO_no _ _ _ hneg, List.append_nil] at hZk
              have HG := Lib.hid hGk
              have HZ := Lib.hid hZk
              clear hGk hZk hyj hcj hv
              go_wp2_with fail
              go_roundw
              case rel => exact ⟨k + 1, p, n1, c, G1, q, m1, d, Z1, by omega, by go_num, rfl, rfl, HS.out, by rw [HG.out]; exact hG, by rw [HZ.out]; exact hZ, by omega, by omega⟩
              case measure => simp [intOf]; omega
            · rcases hyj with ej | ej
              · rw [ej] at hGk hZk hcj
                rw [givenO_yes _ _ (by omega)] at hGk
                rw [goneO_give, List.append_nil] at hZk
                have HG : Hid (G1 ++ [v] = G ++ givenO ((o.take (k + 1)).map ov)) := by
                  show G1 ++ [v] = G ++ givenO ((o.take (k + 1)).map ov)
                  rw [hGk, hG.out, List.append_assoc]
                have HZ : Hid (Z1 = Z ++ goneO ((o.take (k + 1)).map ov)) := by
                  show Z1 = Z ++ goneO ((o.take (k + 1)).map ov)
                  rw [hZk]; exact hZ.out
                clear hGk hZk ej hv hG hZ
                have HSa := Lib.hid (HS.out.ext (ext_alloc (Below.refl _ _) (.cells #[.int .i64 v] 3)))
                have HBs := Lib.hid HSa.out.below.size
                go_wp2_with (at_builtin; go_must (refine wpList_append_rd _ rfl (.tmp 128) (.tmp 134) 22 rfl w.heap.size 3 (.int .i64 0) 1 8 Try.underlying22 info_3 rfl (by decide) _ n1 _ rfl HSa.out.two.own1 (some ⟨wr.heap.size, 0, none⟩) 1 1 [.int .i64 v] rfl (rd_one wr 3 _) (by simp [Value.oneCell']) (by unfold maxLen; omega) (by omega) HBs.out ?_))
                intro v9 w9 hown9 hg9 hb9
                obtain ⟨p9, c9, rfl, _, _⟩ := Rd.of_owns hown9
                have HS9 := Lib.hid (HSa.out.push1 hown9 hg9 (hb9.imp id fun e => e.trans (by simp)))
                clear hown9 hg9 hb9 HS HSa hcj hco hcd
                go_wp2_with fail
                go_roundw
                case rel => exact ⟨k + 1, p9, n1 + 1, c9, G1 ++ [v], q, m1, d, Z1, by omega, by go_num, rfl, rfl, HS9.out, HG.out, HZ.out, by omega, by omega⟩
                case measure => simp [intOf]; omega
              · rw [ej] at hGk hZk hcj
                rw [givenO_other _ _ _ (by decide), List.append_nil] at hGk
                rw [goneO_yes _ _ _ (by decide) (by omega)] at hZk
                have HG : Hid (G1 = G ++ givenO ((o.take (k + 1)).map ov)) := by
                  show G1 = G ++ givenO ((o.take (k + 1)).map ov)
                  rw [hGk]; exact hG.out
                have HZ : Hid (Z1 ++ [v] = Z ++ goneO ((o.take (k + 1)).map ov)) := by
                  show Z1 ++ [v] = Z ++ goneO ((o.take (k + 1)).map ov)
                  rw [hZk, hZ.out, List.append_assoc]
                clear hGk hZk ej hv hG hZ
                have HSa := Lib.hid (HS.out.ext (ext_alloc (Below.refl _ _) (.cells #[.int .i64 v] 3)))
                have HBs := Lib.hid HSa.out.below.size
                go_wp2_with (at_builtin; go_must (refine wpList_append_rd _ rfl (.tmp 99) (.tmp 105) 22 rfl w.heap.size 3 (.int .i64 0) 1 8 Try.underlying22 info_3 rfl (by decide) _ m1 _ rfl HSa.out.two.own2 (some ⟨wr.heap.size, 0, none⟩) 1 1 [.int .i64 v] rfl (rd_one wr 3 _) (by simp [Value.oneCell']) (by unfold maxLen; omega) (by omega) HBs.out ?_))
                intro v9 w9 hown9 hg9 hb9
                obtain ⟨p9, c9, rfl, _, _⟩ := Rd.of_owns hown9
                have HS9 := Lib.hid (HSa.out.push2 hown9 hg9 (hb9.imp id fun e => e.trans (by simp)))
                clear hown9 hg9 hb9 HS HSa hcj hco hcd
                go_wp2_with fail
                go_roundw
                case rel => exact ⟨k + 1, p, n1, c, G1, p9, m1 + 1, c9, Z1 ++ [v], by omega, by go_num, rfl, rfl, HS9.out, HG.out, HZ.out, by omega, by omega⟩
                case measure => simp [intOf]; omega
          · obtain rfl : no = k := by omega
            rw [List.take_of_length_le (by rw [OL.out]; exact Nat.le_refl _)] at hG hZ
            go_wp2_with fail
            obtain ⟨n2, hn2⟩ : ∃ n2, n1 = n2 := ⟨_, rfl⟩
            subst hn2
            obtain ⟨wo, hwo⟩ : ∃ wo : World, wo = wr := ⟨_, rfl⟩
            subst hwo
            go_loopw [13, 22] (fun v13 v22 wr => ∃ (k : Nat) (q : Option Addr) (m2 d : Nat) (Z2 : List Int), k ≤ T ∧ v22 = .int .i64 (k : Int) ∧ v13 = .slice q m2 d ∧
              St5 w wr (.slice p n1 c) n1 G1 (.slice q m2 d) m2 Z2 p1 p2 p6 (R + 2) no T c1 c2 c6 ys o a ∧ Hid (Z2 = Z1 ++ goneT ((a.take k).map tv)) ∧ m2 ≤ m1 + k) (fun _ v22 _ => T - (intOf v22).toNat)
            case atStart => exact ⟨0, q, m1, d, Z1, Nat.zero_le _, rfl, rfl, HS.out, by simp [Hid, goneT], by omega⟩
            case round =>
              obtain ⟨k, q, m2, d, Z2, hkT, rfl, rfl, hs, hZ2, hm2⟩ := hrel
              have HSB := Lib.hid hs
              clear hs HS
              by_cases hkt : k < T
              · obtain ⟨y, ey⟩ : ∃ y, a[k]? = some y := ⟨a[k]'(by rw [AL.out]; exact hkt), List.getElem?_eq_getElem _⟩
                have hyd : y.done = true := AD.out y (List.mem_of_getElem? ey)
                have htk := take_next a k y ey
                obtain ⟨b3', o3', rfl⟩ := HSB.out.r3.addr (by omega) (by decide)
                have hcd := wk_done HSB.out.r3 k y ey
                have hco := aw_out HSB.out.r3 k y ey
                rw [hyd] at hcd
                have hov := tv_done hyd
                obtain ⟨v, hv⟩ : ∃ v, y.out = v := ⟨_, rfl⟩
                rw [hv] at hco hov
                have hZk : goneT ((a.take (k + 1)).map tv) = goneT ((a.take k).map tv) ++ goneT [some v] := by rw [htk, List.map_append, List.map_cons, List.map_nil, hov, goneT_snoc]
                clear htk hov hyd ey hv
                by_cases hneg : v < 0
                · rw [goneT_no _ hneg, List.append_nil] at hZk
                  have HZ : Hid (Z2 = Z1 ++ goneT ((a.take (k + 1)).map tv)) := by
                    show Z2 = Z1 ++ goneT ((a.take (k + 1)).map tv)
                    rw [hZk]; exact hZ2.out
                  have hneg2 : ¬ 0 ≤ v := by omega
                  clear hZk hZ2
                  go_wp2_with fail
                  go_roundw
                  case rel => exact ⟨k + 1, q, m2, d, Z2, by omega, by go_num, rfl, HSB.out, HZ.out, by omega⟩
                  case measure => simp [intOf]; omega
                · have hneg2 : 0 ≤ v := by omega
                  rw [goneT_yes _ hneg2] at hZk
                  have HZ : Hid (Z2 ++ [v] = Z1 ++ goneT ((a.take (k + 1)).map tv)) := by
                    show Z2 ++ [v] = Z1 ++ goneT ((a.take (k + 1)).map tv)
                    rw [hZk, hZ2.out, List.append_assoc]
                  clear hZk hZ2
                  have HSa := Lib.hid (HSB.out.ext (ext_alloc (Below.refl _ _) (.cells #[.int .i64 v] 3)))
                  have HBs := Lib.hid HSa.out.below.size
                  go_wp2_with (at_builtin; go_must (refine wpList_append_rd _ rfl (.tmp 154) (.tmp 160) 22 rfl w.heap.size 3 (.int .i64 0) 1 8 Try.underlying22 info_3 rfl (by decide) _ m2 _ rfl HSa.out.two.own2 (some ⟨wr.heap.size, 0, none⟩) 1 1 [.int .i64 v] rfl (rd_one wr 3 _) (by simp [Value.oneCell']) (by unfold maxLen; omega) (by omega) HBs.out ?_))
                  intro v9 w9 hown9 hg9 hb9
                  obtain ⟨p9, c9, rfl, _, _⟩ := Rd.of_owns hown9
                  have HS9 := Lib.hid (HSa.out.push2 hown9 hg9 (hb9.imp id fun e => e.trans (by simp)))
                  clear hown9 hg9 hb9 HSB HSa hco hcd
                  go_wp2_with fail
                  go_roundw
                  case rel => exact ⟨k + 1, p9, m2 + 1, c9, Z2 ++ [v], by omega, by go_num, rfl, HS9.out, HZ.out, by omega⟩
                  case measure => simp [intOf]; omega
              · obtain rfl : T = k := by omega
                rw [List.take_of_length_le (by rw [AL.out]; exact Nat.le_refl _)] at hZ2
                have hnext := told_next HTL.out raw (o.map ov) (a.map tv) ON.out (by rw [List.map_map]; exact OJ.out)
                rw [← hG.out, ← hZ.out, ← hZ2.out] at hnext
                obtain ⟨hlen, hone⟩ := told_all hnext
                have HNX := Lib.hid hnext
                have HLEN := Lib.hid hlen
                have HONE := Lib.hid hone
                have hl1 : G1.length = n1 := by have := HSB.out.two.own1.1; rw [ints_len] at this; omega
                have hl2 : Z2.length = m2 := by have := HSB.out.two.own2.1; rw [ints_len] at this; omega
                have HL1 := Lib.hid hl1
                have HL2 := Lib.hid hl2
                clear hnext hlen hone hl1 hl2 hkt hkn hZ hZ2 hG
                obtain ⟨wo, hwo⟩ : ∃ wo : World, wo = wr := ⟨_, rfl⟩
                subst hwo
                have HRZ := Lib.hid (rd_fr_of_owns HSB.out.two.own2 (Nat.le_refl _)).1
                go_wp2_with (at_builtin; go_must (refine wpList_append_rd _ rfl (.const (.slice none 0 0)) (.tmp 162) 22 rfl wo.heap.size 3 (.int .i64 0) 1 8 Try.underlying22 info_3 rfl (by decide) _ 0 [] rfl (World.ownsRow_nil _ _ _ _) q m2 d (ints Z2) rfl HRZ.out (ints_one _) (by unfold maxLen; omega) (by omega) (Nat.le_refl _) ?_))
                intro v7 w7 hown7 hg7 _
                have hx7 : Below wo.heap.size wo w7 := ext_grown (Below.refl _ _) hg7 (by intro k hk; simp [Value.ownBlock] at hk)
                have HX7 := Lib.hid hx7
                have HS7 := Lib.hid (HSB.out.ext hx7)
                have HO7 := Lib.hid hown7
                clear hown7 hg7 hx7 HRZ
                go_wp2_with fail
                refine (tasks15_still p1 c1 R ys t2 b2 _ ST2.out (by omega) HS7.out.r1).mono ?_
                obtain ⟨L2, hL2⟩ : ∃ L2, conts ys R t2 b2 = L2 := ⟨_, rfl⟩
                have hll : L2.length ≤ 60 := by rw [← hL2, conts_len]; omega
                have hsum : m2 + L2.length = n1 := by
                  have e1 := HLEN.out
                  have e2 := HL1.out
                  have e3 := HL2.out
                  rw [hL2, List.length_append] at e1
                  omega
                have hone2 := HONE.out
                rw [hL2] at hone2 ⊢
                obtain ⟨ln, hln⟩ : ∃ ln, L2.length = ln := ⟨_, rfl⟩
                rw [hln] at hll hsum ⊢
                have ONE := Lib.hid hone2
                have HCL := Lib.hid hL2
                have HSUM := Lib.hid hsum
                have HLN := Lib.hid hln
                clear hone2 hL2 hsum hln HONE HLEN
                rintro e w8 ⟨pt2, ct2, rfl, hw8, ht8⟩
                have HX8 := Lib.hid (ext_trans HX7.out hw8)
                have HO8 := Lib.hid (own_ext HO7.out hw8)
                have HT8 := Lib.hid ht8
                clear HS7 HX7 HO7 hw8 ht8
                go_wp2_with (at_builtin; go_must (refine wpList_append_rd _ rfl (.tmp 163) (.tmp 166) 22 rfl wo.heap.size 3 (.int .i64 0) 1 8 Try.underlying22 info_3 rfl (by decide) _ m2 _ rfl HO8.out pt2 ln ct2 (ints L2) rfl HT8.out (ints_one _) (by unfold maxLen; omega) (by omega) HX8.out.size ?_))
                intro v9 w9 hown9 hg9 _
                have hx9 := owns_grown HO8.out HX8.out hg9 (Nat.le_refl _) HX8.out.size
                have hs9 := HSB.out.ext hx9
                rw [HSUM.out] at hown9
                obtain ⟨p9, c9, rfl, hr9, _⟩ := Rd.of_owns hown9
                have HALL : Hid (Rd w9 1 p9 n1 c9 (ints (Z2 ++ L2))) := by
                  show Rd w9 1 p9 n1 c9 (ints (Z2 ++ L2))
                  rw [show ints (Z2 ++ L2) = ints Z2 ++ ints L2 by simp [ints]]
                  exact hr9
                have HGR := Lib.hid (rd_fr_of_owns hs9.two.own1 (Nat.le_refl _)).1
                have HS9 := Lib.hid hs9
                clear hown9 hg9 hx9 hs9 hr9 HO8 HX8 HT8 HSB
                go_wp2_with fail
                go_loopw [24] (fun v24 wr => ∃ k : Nat, k ≤ n1 ∧ v24 = .int .i64 (k : Int) ∧ ∃ s, wr = w9.drewN s) (fun v24 _ => n1 - (intOf v24).toNat)
                case atStart => exact ⟨0, Nat.zero_le _, rfl, 0, rfl⟩
                case round =>
                  obtain ⟨k, hk1, rfl, s, rfl⟩ := hrel
                  by_cases hk2 : k < n1
                  · obtain ⟨bg, og, rfl⟩ := HGR.out.addr (by omega) (by decide)
                    obtain ⟨bz, oz, rfl⟩ := HALL.out.addr (by omega) (by decide)
                    have hg1l := HL1.out
                    have hcg := HGR.out.cell k _ (ints_get G1 k (by omega))
                    obtain ⟨x, hx⟩ : ∃ x, G1.getD k 0 = x := ⟨_, rfl⟩
                    rw [hx] at hcg
                    have hx1 : (Z2 ++ L2).count x = 1 := ONE.out x (by
                      rw [← hx, List.getD_eq_getElem?_getD, List.getElem?_eq_getElem (by omega)]
                      exact List.getElem_mem _)
                    have HX1 := Lib.hid hx1
                    clear hx1 hx hg1l
                    go_wp2_with fail
                    go_loopw [25, 26] (fun v25 v26 wr => ∃ j : Nat, j ≤ n1 ∧ v26 = .int .i64 (j : Int) ∧ ∃ cn : Int, v25 = .int .i64 cn ∧ Hid (cn = ((((Z2 ++ L2).take j).count x : Nat) : Int)) ∧ ∃ s, wr = w9.drewN s) (fun _ v26 _ => n1 - (intOf v26).toNat)
                    case atStart => exact ⟨0, Nat.zero_le _, rfl, 0, rfl, by simp [Hid], s, rfl⟩
                    case round =>
                      obtain ⟨j, hj1, rfl, cn, rfl, hcn, s, rfl⟩ := hrel
                      have hcn1 : 0 ≤ cn := by have := hcn.out; omega
                      have hcn2 : cn ≤ j := by
                        have := hcn.out
                        have h5 : ((Z2 ++ L2).take j).count x ≤ ((Z2 ++ L2).take j).length := List.count_le_length
                        rw [List.length_take] at h5
                        omega
                      by_cases hj2 : j < n1
                      · have hzl : (Z2 ++ L2).length = n1 := by have := HALL.out.len; rw [ints_len] at this; omega
                        have hca := HALL.out.cell j _ (ints_get (Z2 ++ L2) j (by omega))
                        obtain ⟨z, hz⟩ : ∃ z, (Z2 ++ L2).getD j 0 = z := ⟨_, rfl⟩
                        rw [hz] at hca
                        have hz2 : (Z2 ++ L2)[j]? = some z := by rw [← hz, List.getD_eq_getElem?_getD, List.getElem?_eq_getElem (by omega)]; rfl
                        have htk := take_next (Z2 ++ L2) j z hz2
                        by_cases hzx : z = x
                        · have HC1 : Hid (cn + 1 = ((((Z2 ++ L2).take (j + 1)).count x : Nat) : Int)) := by
                            show cn + 1 = _
                            rw [htk, hzx, List.count_append, List.count_singleton_self, hcn.out]; omega
                          rw [hzx] at hca
                          clear htk hz2 hz hzx hzl hcn
                          go_wp2_with fail
                          go_quiet (fail)
                          go_wp2_with fail
                          go_roundw
                          case rel => exact ⟨j + 1, by omega, by go_num, cn + 1, rfl, HC1.out, _, rfl⟩
                          case measure => simp [intOf]; omega
                        · have HC1 : Hid (cn = ((((Z2 ++ L2).take (j + 1)).count x : Nat) : Int)) := by
                            show cn = _
                            rw [htk, List.count_append, List.count_eq_zero.2 (show x ∉ [z] by simp; exact fun e => hzx e.symm), hcn.out]; omega
                          have hb : (z == x) = false := by simpa using hzx
                          clear htk hz2 hz hzx hzl hcn
                          go_wp2_with fail
                          go_quiet (fail)
                          go_wp2_with fail
                          go_roundw
                          case rel => exact ⟨j + 1, by omega, by go_num, cn, rfl, HC1.out, _, rfl⟩
                          case measure => simp [intOf]; omega
                      · have hjn : n1 = j := by omega
                        have hzl : (Z2 ++ L2).length = n1 := by have := HALL.out.len; rw [ints_len] at this; omega
                        have hc1 := hcn.out
                        rw [List.take_of_length_le (by omega), HX1.out] at hc1
                        obtain rfl : cn = 1 := by omega
                        clear hc1 hcn hzl
                        go_wp2_with fail
                        go_roundw
                        case rel => exact ⟨k + 1, by omega, by go_num, _, rfl⟩
                        case measure => simp [intOf]; omega
                  · have hkn : n1 = k := by omega
                    go_wp2_with fail
                    go_roundw
                    case rel => exact ⟨i + 1, p1, c1, ys, t2, b2, p, n1, c, G1, q, m2, d, Z2, by omega, by go_num, rfl, rfl, rfl, HS9.out.r1.drewN _, ST2.out, hb2, ⟨own_drewN HS9.out.two.own1 _, own_drewN HS9.out.two.own2 _, HS9.out.two.ne⟩, HNX.out, by omega, by omega, ext_drewN HS9.out.below _⟩
                    case measure => simp [intOf]; omega
    · obtain rfl : N = i := by omega
      have hnn := HNN.out
      by_cases hx : N < np
      · have hx4 : ¬ N < 4 := by omega
        clear hnn
        go_wp2_with fail
        go_ret
        exact ⟨rfl, HW.out⟩
      · clear hnn
        go_wp2_with fail
        go_ret
        exact ⟨rfl, HW.out⟩

end Go.Proofs.Ytdnajckhnknlcaa
