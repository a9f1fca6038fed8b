/-
  The contracts of the functions that these laws reach, part 11.
-/
import Derived.Test.YtdnajckhnknlcaaR10

/-! Run, of the reference. -/
namespace Go.Proofs.Ytdnajckhnknlcaa
set_option linter.unusedVariables false
set_option linter.unusedSimpArgs false
open Go.RowKit

theorem any_take (f : Wk → Bool) (ws : List Wk) (k : Nat) (x : Wk) (hx : ws[k]? = some x) : (ws.take (k + 1)).any f = ((ws.take k).any f || f x) := by
  rw [List.take_add_one, hx]; simp

theorem nextF_sign (p q : List Int) (s s' : Nat) (l : List Int) (a b : Int) (h : nextF p s l a < 0) : nextF q s' l b < 0 := by
  by_cases h0 : alive l l.length = []
  · simp [nextF, h0]
  · exfalso
    unfold nextF at h
    simp only [h0, if_false] at h
    split at h <;> omega

set_option maxHeartbeats 8000000 in
set_option maxRecDepth 100000 in
theorem rrun28 (pm p q pk : Option Addr) (L cm n c m d np cp : Nat) (at_ room : Int) (picks xs0 : List Int) (own0 all0 : List Wk) (w : World)
    (hm : Rd w 1 pm L cm (ints xs0)) (ho : Rd w 12 p n c (wkCells own0)) (ha : Rd w 12 q m d (wkCells all0)) (hk : Rd w 1 pk np cp (ints picks)) (hbd : Bd picks)
    (hn : n ≤ 1000) (hm1 : m ≤ 999) (hL : L ≤ 100000) (R D : RunR) (hR : runF at_ room picks 100000 xs0 own0 all0 (-1) = R)
    (hD1 : oddF own0 all0 = true → D = ⟨1, xs0, own0, all0⟩) (hD2 : oddF own0 all0 = false → R.e ≠ 0 → D = ⟨R.e, xs0, own0, all0⟩) (hD3 : oddF own0 all0 = false → R.e = 0 → D = R) :
    Calls Try.prog 28 #[.slice pm L cm, .int .i64 at_, .int .i64 room, .slice pk np cp, .slice p n c, .slice q m d] w (RunPost27 L n m D w) := by
  have HM := Lib.hid hm
  have HO := Lib.hid ho
  have HA := Lib.hid ha
  have HK := Lib.hid hk
  have HBD := Lib.hid hbd
  have HLO := Lib.hid ho.wlen
  have HLA := Lib.hid ha.wlen
  have HR0 := Lib.hid hR
  have HD1 := Lib.hid hD1
  have HD2 := Lib.hid hD2
  have HD3 := Lib.hid hD3
  have H1 := Lib.hid (wk_one own0)
  have H2 := Lib.hid (wk_one all0)
  clear hm ho ha hk hbd hR hD1 hD2 hD3
  obtain ⟨o0, ho0⟩ : ∃ o0, Hid (decide (64 ≤ m) = o0) := ⟨_, rfl⟩
  obtain ⟨o1, ho1⟩ : ∃ o1, Hid ((o0 || own0.any (fun x => x.job == 5)) = o1) := ⟨_, rfl⟩
  go_enter Try.func28, Try.ntmps28
  go_wp2_with fail
  go_loopw [16, 17] (fun o i wr => ∃ k : Nat, k ≤ n ∧ i = .int .i64 (k : Int) ∧ o = .bool (o0 || (own0.take k).any (fun x => x.job == 5)) ∧ wr = w) (fun _ i _ => n - (intOf i).toNat)
  case atStart => exact ⟨0, Nat.zero_le _, rfl, by rw [← ho0.out]; simp; omega, rfl⟩
  case round =>
    obtain ⟨k, hk, rfl, rfl, rfl⟩ := hrel
    obtain ⟨ob, hob⟩ : ∃ ob, Hid ((o0 || (own0.take k).any (fun x => x.job == 5)) = ob) := ⟨_, rfl⟩
    rw [hob.out]
    by_cases hlt : k < n
    · obtain ⟨b, off, rfl⟩ := HO.out.addr (by omega) (by decide)
      obtain ⟨x, ex⟩ : ∃ x, own0[k]? = some x := ⟨own0[k]'(by rw [HLO.out]; exact hlt), by simp [HLO.out, hlt]⟩
      have hcj2 : wr.cell? ⟨b, off + k * 12 + 1, none⟩ = some (.int .i64 x.job) := (HO.out.wk k x ex).1 1 (by decide)
      have HNX := Lib.hid (show (o0 || (own0.take (k + 1)).any (fun x => x.job == 5)) = (ob || x.job == 5) by rw [any_take _ own0 k x ex, ← hob.out, Bool.or_assoc])
      cases ob
      · go_wp2_with fail
        go_roundw
        case rel => exact ⟨k + 1, by omega, by go_num, by rw [HNX.out]; simp, trivial⟩
        case measure => simp [intOf]; omega
      · go_wp2_with fail
        go_roundw
        case rel => exact ⟨k + 1, by omega, by go_num, by rw [HNX.out]; simp, trivial⟩
        case measure => simp [intOf]; omega
    · have hkn : k = n := by omega
      subst hkn
      have hob2 : ob = o1 := by rw [← hob.out, ← ho1.out, List.take_of_length_le (by rw [HLO.out]; exact Nat.le_refl _)]
      subst hob2
      clear hob
      go_wp2_with fail
      go_loopw [16, 18] (fun o i ws => ∃ j : Nat, j ≤ m ∧ i = .int .i64 (j : Int) ∧ o = .bool (ob || (all0.take j).any (fun x => x.job != 5)) ∧ ws = wr) (fun _ i _ => m - (intOf i).toNat)
      case atStart => exact ⟨0, Nat.zero_le _, rfl, by simp, rfl⟩
      case round =>
        obtain ⟨j, hj, rfl, rfl, rfl⟩ := hrel
        obtain ⟨oc, hoc⟩ : ∃ oc, Hid ((ob || (all0.take j).any (fun x => x.job != 5)) = oc) := ⟨_, rfl⟩
        rw [hoc.out]
        by_cases hltj : j < m
        · obtain ⟨b, off, rfl⟩ := HA.out.addr (by omega) (by decide)
          obtain ⟨x, ex⟩ : ∃ x, all0[j]? = some x := ⟨all0[j]'(by rw [HLA.out]; exact hltj), by simp [HLA.out, hltj]⟩
          have hcj2 : wr.cell? ⟨b, off + j * 12 + 1, none⟩ = some (.int .i64 x.job) := (HA.out.wk j x ex).1 1 (by decide)
          have HNX := Lib.hid (show (ob || (all0.take (j + 1)).any (fun x => x.job != 5)) = (oc || x.job != 5) by rw [any_take _ all0 j x ex, ← hoc.out, Bool.or_assoc])
          cases oc
          · go_wp2_with fail
            go_roundw
            case rel => exact ⟨j + 1, by omega, by go_num, by rw [HNX.out]; simp, trivial⟩
            case measure => simp [intOf]; omega
          · go_wp2_with fail
            go_roundw
            case rel => exact ⟨j + 1, by omega, by go_num, by rw [HNX.out]; simp, trivial⟩
            case measure => simp [intOf]; omega
        · have hjm : j = m := by omega
          subst hjm
          have hoc2 : oddF own0 all0 = oc := by
            rw [← hoc.out, ← ho1.out, ← ho0.out, List.take_of_length_le (by rw [HLA.out]; exact Nat.le_refl _)]
            unfold oddF
            rw [HLA.out]
          have HOC := Lib.hid hoc2
          clear hoc hoc2
          cases oc
          rotate_left
          · go_wp2_with fail
            refine bodyPost_ret (v := .tuple #[.slice pm L cm, .slice p k c, .slice q j d, .int .i64 1]) (by simp [results, Try.results28, go_sem]) rfl ?_
            rw [HD1.out HOC.out]
            exact ⟨pm, cm, p, c, q, d, rfl, Below.refl _ _, HM.out, HO.out, HA.out⟩
          · have HE2 := Lib.hid (HD2.out HOC.out)
            have HE3 := Lib.hid (HD3.out HOC.out)
            clear HOC
            go_wp2_with (at_builtin; go_must (refine wpList_copy _ rfl (.const (.slice none 0 0)) (.tmp 67) 28 rfl 25 _ 12 96 Try.underlying28 info_25 rfl (by decide) rfl p k c (wkCells own0) rfl HO.out H1.out (by omega) ?_))
            intro p1 c1 w1 hown1 hb1
            go_wp2_with (at_builtin; go_must (refine wpList_copy _ rfl (.const (.slice none 0 0)) (.tmp 69) 28 rfl 25 _ 12 96 Try.underlying28 info_25 rfl (by decide) rfl q j d (wkCells all0) rfl (HA.out.ext hb1) H2.out (by omega) ?_))
            intro p2 c2 w2 hown2 hb2
            have HC0 := Lib.hid (CrewAt.mk (own_ext hown1 hb2) hown2 (fun a ha => by subst ha; exact (hown1.lt _ rfl).2) hb1.size)
            have HW0 := Lib.hid (ext_trans hb1 hb2)
            have HDA := Lib.hid (show ∀ a, p1 = some a → wr.heap.size ≤ a.block from fun a ha => by subst ha; exact (hown1.lt _ rfl).1)
            have HDB := Lib.hid (show ∀ a, p2 = some a → wr.heap.size ≤ a.block from fun a ha => by subst ha; exact Nat.le_trans hb1.size (hown2.lt _ rfl).1)
            clear hown1 hown2 hb1 hb2
            obtain ⟨w, hw⟩ : ∃ w, w = wr := ⟨_, rfl⟩
            subst hw
            go_wp2_with fail
            go_loopw [19, 22, 23] (fun v19 v22 v23 wr => ∃ (f N cw : Nat) (pw : Option Addr) (xs : List Int) (own all : List Wk) (last : Int), N + f = 100000 ∧ v19 = .slice pw L cw ∧ v23 = .int .i64 N ∧ v22 = .int .i64 last ∧ -1 ≤ last ∧ last ≤ 1000 ∧
                Rd wr 1 pw L cw (ints xs) ∧ Hid (Dis pw L p1) ∧ Hid (Dis pw L p2) ∧ CrewAt wr w.heap.size w1.heap.size p1 p2 k j c1 c2 own all ∧ Below w.heap.size w wr ∧ Hid (runF at_ room picks f xs own all last = R))
              (fun _ _ v23 _ => 100001 - (intOf v23).toNat)
            case atStart =>
              refine ⟨100000, 0, cm, pm, xs0, own0, all0, -1, rfl, rfl, rfl, rfl, by omega, by omega, HM.out.ext HW0.out, ?_, ?_, HC0.out, HW0.out, HR0⟩
              · exact fun a ha b hb hL' e => by have h1 := HDA.out a ha; have h2 := HM.out.lt (by decide) b hb hL'; omega
              · exact fun a ha b hb hL' e => by have h1 := HDB.out a ha; have h2 := HM.out.lt (by decide) b hb hL'; omega
            case round =>
              obtain ⟨f, N, cw, pw, xs, own, all, last, hNf, rfl, rfl, rfl, hl0, hl1, hm, hd1, hd2, HC, HW, HRf⟩ := hrel
              have HOWN := Lib.hid HC.rdo.wlen
              have HALL := Lib.hid HC.rdt.wlen
              have HRd := Lib.hid hm
              have HC' := Lib.hid HC
              have HKW := Lib.hid (HK.out.ext HW)
              have HLF := Lib.hid (leftF_len own all)
              clear hm HC
              have ARM44 := Lib.hid (fun W (hW : Below wr.heap.size wr W) => left44 p1 p2 k j c1 c2 own all W (HC'.out.ext hW).rdo (HC'.out.ext hW).rdt hn (by omega))
              cases f with
              | zero =>
                have hN : N = 100000 := by omega
                subst hN
                obtain ⟨i, hi⟩ : ∃ i, Hid (nextF [] 0 (leftF own all) last = i) := ⟨_, rfl⟩
                by_cases hneg : i < 0
                · have HF := Lib.hid (runF_stop at_ room picks 0 100000 xs own all last (by omega) (nextF_sign _ _ _ _ _ _ _ (by rw [hi.out]; exact hneg)))
                  rw [HRf.out] at HF
                  go_wp2_with (first
                    | (go_at_call 44; go_must (refine (ARM44.out _ (Below.refl _ _)).mono ?_; rintro e w3 ⟨pl, cl, rfl, hb3, hol⟩))
                    | (go_at_call 43; go_must (refine (rnext_any none pl 0 0 (j + 1) cl 0 last [] (leftF own all) _ (Rd.nil' _ _) (rd_fr_of_owns hol (Nat.le_refl _)).1 (by omega) (fun i h => by cases h) (by omega) hl0 (by omega)).mono ?_; rintro e w4 ⟨rfl, rfl⟩; rw [hi.out])))
                  refine bodyPost_ret (v := .tuple #[.slice pw L cw, .slice p1 k c1, .slice p2 j c2, .int .i64 0]) (by simp [results, Try.results28, go_sem]) rfl ?_
                  rw [HE3.out (by rw [HF.out]), HF.out]
                  exact ⟨pw, cw, p1, c1, p2, c2, rfl, ext_trans HW hb3, HRd.out.ext hb3, (HC'.out.ext hb3).rdo, (HC'.out.ext hb3).rdt⟩
                · have HF := Lib.hid (runF_long at_ room picks xs own all last (fun h => hneg (by have := nextF_sign _ [] _ 0 _ _ last h; rw [hi.out] at this; exact this)))
                  rw [HRf.out] at HF
                  go_wp2_with (first
                    | (go_at_call 44; go_must (refine (ARM44.out _ (Below.refl _ _)).mono ?_; rintro e w3 ⟨pl, cl, rfl, hb3, hol⟩))
                    | (go_at_call 43; go_must (refine (rnext_any none pl 0 0 (j + 1) cl 0 last [] (leftF own all) _ (Rd.nil' _ _) (rd_fr_of_owns hol (Nat.le_refl _)).1 (by omega) (fun i h => by cases h) (by omega) hl0 (by omega)).mono ?_; rintro e w4 ⟨rfl, rfl⟩; rw [hi.out])))
                  refine bodyPost_ret (v := .tuple #[.slice pm L cm, .slice p k c, .slice q j d, .int .i64 3]) (by simp [results, Try.results28, go_sem]) rfl ?_
                  rw [HE2.out (by rw [HF.out]; simp), HF.out]
                  exact ⟨pm, cm, p, c, q, d, rfl, ext_trans HW hb3, HM.out.ext (ext_trans HW hb3), HO.out.ext (ext_trans HW hb3), HA.out.ext (ext_trans HW hb3)⟩
              | succ f =>
                obtain ⟨i, hi⟩ : ∃ i, Hid (nextF picks N (leftF own all) last = i) := ⟨_, rfl⟩
                have HNF := Lib.hid hNf
                have hN2 : decide ((N : Int) < 100000) = true := by simp; omega
                clear hNf
                by_cases hneg : i < 0
                · have HF := Lib.hid (runF_stop at_ room picks (f + 1) N xs own all last HNF.out (by rw [hi.out]; exact hneg))
                  rw [HRf.out] at HF
                  go_wp2_with (first
                    | (go_at_call 44; go_must (refine (ARM44.out _ (Below.refl _ _)).mono ?_; rintro e w3 ⟨pl, cl, rfl, hb3, hol⟩))
                    | (go_at_call 43; go_must (refine (rnext_any pk pl np cp (j + 1) cl N last picks (leftF own all) _ (HKW.out.ext hb3) (rd_fr_of_owns hol (Nat.le_refl _)).1 (by omega) HBD.out (by have := HNF.out; omega) hl0 (by omega)).mono ?_; rintro e w4 ⟨rfl, rfl⟩; rw [hi.out])))
                  refine bodyPost_ret (v := .tuple #[.slice pw L cw, .slice p1 k c1, .slice p2 j c2, .int .i64 0]) (by simp [results, Try.results28, go_sem]) rfl ?_
                  rw [HE3.out (by rw [HF.out]), HF.out]
                  exact ⟨pw, cw, p1, c1, p2, c2, rfl, ext_trans HW hb3, HRd.out.ext hb3, (HC'.out.ext hb3).rdo, (HC'.out.ext hb3).rdt⟩
                · obtain ⟨g, kk, x, HS⟩ := slot_at wr _ _ p1 p2 k j c1 c2 own all HC'.out picks N last i hi.out hneg hn hm1
                  have HSh := Lib.hid HS
                  have hsm := HS.small
                  have hlo := HS.lo
                  have hhi := HS.hi
                  have hwh := HS.wh
                  clear HS
                  have hstep := runF_step at_ room picks f N xs own all last i HNF.out hi.out hneg x HSh.out.pick
                  rw [HRf.out] at hstep
                  have HXL : xs.length = L := by have := HRd.out.len; rw [ints_len] at this; omega
                  subst HXL
                  obtain ⟨⟨se, ys, x'⟩, hs⟩ : ∃ s, Hid (stepF xs at_ room x = s) := ⟨_, rfl⟩
                  have hys : ys.length = xs.length := by have := stepF_len xs at_ room x; rw [hs.out] at this; exact this
                  have HYS := Lib.hid hys
                  rw [hs.out] at hstep
                  have HD := Lib.hid (fun W (hW : Rd W 1 pw xs.length cw (ints xs)) => rstep_any pw cw xs at_ room x W hW hL)
                  rw [hs.out] at HD
                  have HST := Lib.hid hstep
                  clear hstep hys
                  rcases hwh with ⟨rfl, rfl, hfk, hkn⟩ | ⟨rfl, rfl, hkn⟩
                  · have HFK := Lib.hid hfk
                    clear hfk
                    have ARM45 : Hid (∀ W, Below wr.heap.size wr W → Calls Try.prog 45 #[.slice (some ⟨g, 0, none⟩) k c1] W fun e w' => e = .returned (.int .i64 kk) ∧ W = w' ∧ Below wr.heap.size wr W ∧ (∀ j, j < 12 → W.cell? ⟨g, kk * 12 + j, none⟩ = (#[.int .i64 x.pc, .int .i64 x.job, .int .i64 x.r0, .int .i64 x.r1, .int .i64 x.r2, .int .i64 x.r3, .int .i64 x.r4, .int .i64 x.r5, .int .i64 x.r6, .int .i64 x.r7, .bool x.done, .int .i64 x.out] : Array Value)[j]?) ∧ W.cell? ⟨g, kk * 12, none⟩ = some (.int .i64 x.pc) ∧ (∀ o, W.frozen? ⟨g, o, none⟩ = false)) := fun W hW => (first45 _ k c1 own W (HC'.out.ext hW).rdo (by omega)).mono fun e w' ⟨h1, h2⟩ => ⟨by rw [h1, HFK.out], h2, hW, (HSh.out.cells W hW).1, (HSh.out.cells W hW).2, HSh.out.frozen W hW⟩
                    by_cases hse : se = 0
                    · subst hse
                      go_wp2_with (first
                        | (go_at_call 44; go_must (refine (ARM44.out _ (Below.refl _ _)).mono ?_; rintro e w3 ⟨pl, cl, rfl, hb3, hol⟩))
                        | (go_at_call 43; go_must (refine (rnext_any pk pl np cp (j + 1) cl N last picks (leftF own all) _ (HKW.out.ext hb3) (rd_fr_of_owns hol (Nat.le_refl _)).1 (by omega) HBD.out (by have := HNF.out; omega) hl0 (by omega)).mono ?_; rintro e w4 ⟨rfl, rfl⟩; rw [hi.out]))
                        | (go_at_call 45; go_must (refine (ARM45.out _ (by repeat (first | (with_reducible assumption) | (with_reducible exact Below.refl _ _) | (with_reducible refine ext_set ?_ _ _ (by simp <;> omega)) | (with_reducible apply ext_drewN) | (with_reducible apply ext_drew) | (with_reducible apply ext_alloc)))).mono ?_; rintro e w4 ⟨rfl, rfl, hE4, hq3, hq2, hq7⟩))
                        | (go_at_call 13; go_must (refine (HD.out _ (HRd.out.ext (by repeat (first | (with_reducible assumption) | (with_reducible exact Below.refl _ _) | (with_reducible refine ext_set ?_ _ _ (by simp <;> omega)) | (with_reducible apply ext_drewN) | (with_reducible apply ext_drew) | (with_reducible apply ext_alloc))))).mono ?_; rintro e w5 ⟨p5, c5, rfl, hb5, hr5, hf5⟩; have hE5 := ext_trans (show Below wr.heap.size wr _ from (by repeat (first | (with_reducible assumption) | (with_reducible exact Below.refl _ _) | (with_reducible refine ext_set ?_ _ _ (by simp <;> omega)) | (with_reducible apply ext_drewN) | (with_reducible apply ext_drew) | (with_reducible apply ext_alloc)))) hb5; simp only [Wk.v, Wk.cells])))
                      have HE5 := Lib.hid hE5
                      have hB27 := Blk.new w5 25 #[.int .i64 x'.pc, .int .i64 x'.job, .int .i64 x'.r0, .int .i64 x'.r1, .int .i64 x'.r2, .int .i64 x'.r3, .int .i64 x'.r4, .int .i64 x'.r5, .int .i64 x'.r6, .int .i64 x'.r7, .bool x'.done, .int .i64 x'.out]
                      have hE7 := ext_alloc hE5 (.cells #[.int .i64 x'.pc, .int .i64 x'.job, .int .i64 x'.r0, .int .i64 x'.r1, .int .i64 x'.r2, .int .i64 x'.r3, .int .i64 x'.r4, .int .i64 x'.r5, .int .i64 x'.r6, .int .i64 x'.r7, .bool x'.done, .int .i64 x'.out] 25)
                      have hr7 := hr5.alloc (.cells #[.int .i64 x'.pc, .int .i64 x'.job, .int .i64 x'.r0, .int .i64 x'.r1, .int .i64 x'.r2, .int .i64 x'.r3, .int .i64 x'.r4, .int .i64 x'.r5, .int .i64 x'.r6, .int .i64 x'.r7, .bool x'.done, .int .i64 x'.out] 25)
                      clear hq3 hq2 hq7 hE5 hN2 hsm
                      have HHI := Lib.hid hhi
                      have HLO2 := Lib.hid hlo
                      clear hhi hlo
                      generalize w5.alloc (.cells #[.int .i64 x'.pc, .int .i64 x'.job, .int .i64 x'.r0, .int .i64 x'.r1, .int .i64 x'.r2, .int .i64 x'.r3, .int .i64 x'.r4, .int .i64 x'.r5, .int .i64 x'.r6, .int .i64 x'.r7, .bool x'.done, .int .i64 x'.out] 25) = w7 at *
                      have hbc7 := hB27.cell
                      obtain ⟨hs1, hs2⟩ := HSh.out.cells w7 hE7
                      have hs4 : ∀ j, j < 12 → w7.cell? ⟨g, kk * 12 + j, none⟩ = (#[.int .i64 x.pc, .int .i64 x.job, .int .i64 x.r0, .int .i64 x.r1, .int .i64 x.r2, .int .i64 x.r3, .int .i64 x.r4, .int .i64 x.r5, .int .i64 x.r6, .int .i64 x.r7, .bool x.done, .int .i64 x.out] : Array Value)[j]? := hs1
                      clear hs1
                      have hs3 := HSh.out.frozen w7 hE7
                      go_region_with (first
                        | (go_at_call 45; go_must (refine (ARM45.out _ (by repeat (first | (with_reducible assumption) | (with_reducible exact Below.refl _ _) | (with_reducible refine ext_set ?_ _ _ (by simp <;> omega)) | (with_reducible apply ext_drewN) | (with_reducible apply ext_drew) | (with_reducible apply ext_alloc)))).mono ?_; rintro e w6 ⟨rfl, rfl, _, _, _, _⟩)))
                      all_goals
                        go_wp2_with fail
                        have hgs := set12_grown w7 g kk x'
                        have HF5 : ∀ b, p5 = some b → wr.heap.size ≤ b.block := fun b hb => by have h1 := hf5 trivial b hb; have h2 := hb3.size; simp at h1; omega
                        have hne5 : NeN g p5 xs.length := fun a ha _ e => by have h8 := HF5 a ha; have h9 := HHI.out; omega
                        have hNf := HNF.out
                        have hwr : wrap64 ((N : Int) + 1) = ((N + 1 : Nat) : Int) := by unfold wrap64; omega
                        go_roundw
                        case rel =>
                          refine ⟨f, N + 1, c5, p5, ys, putO own 0 x', putT all 0 x', 0, by omega, rfl, by rw [hwr], rfl, by omega, by omega, (Rd.drew (hr7.grownN' hgs hne5)), ?_, ?_, CrewAt.ext (HSh.out.put w7 x' hE7) (ext_drew (Below.refl _ _)), ext_drew (ext_grown (ext_trans HW hE7) hgs (by rintro b ⟨⟩; exact HLO2.out)), ?_⟩
                          · exact fun a ha b hb _ e => by have h1 := HF5 b hb; have h2 := (HC'.out.own.lt _ (by rw [ha]; rfl)).2; omega
                          · exact fun a ha b hb _ e => by have h1 := HF5 b hb; have h2 := (HC'.out.all.lt _ (by rw [ha]; rfl)).2; omega
                          · have h8 := HST.out
                            rw [if_neg (by simp)] at h8
                            exact h8.symm
                        case measure => rw [hwr]; simp [intOf]; omega
                    · have hz : (se != 0) = true := by simpa using hse
                      go_wp2_with (first
                        | (go_at_call 44; go_must (refine (ARM44.out _ (Below.refl _ _)).mono ?_; rintro e w3 ⟨pl, cl, rfl, hb3, hol⟩))
                        | (go_at_call 43; go_must (refine (rnext_any pk pl np cp (j + 1) cl N last picks (leftF own all) _ (HKW.out.ext hb3) (rd_fr_of_owns hol (Nat.le_refl _)).1 (by omega) HBD.out (by have := HNF.out; omega) hl0 (by omega)).mono ?_; rintro e w4 ⟨rfl, rfl⟩; rw [hi.out]))
                        | (go_at_call 45; go_must (refine (ARM45.out _ (by repeat (first | (with_reducible assumption) | (with_reducible exact Below.refl _ _) | (with_reducible refine ext_set ?_ _ _ (by simp <;> omega)) | (with_reducible apply ext_drewN) | (with_reducible apply ext_drew) | (with_reducible apply ext_alloc)))).mono ?_; rintro e w4 ⟨rfl, rfl, hE4, hq3, hq2, hq7⟩))
                        | (go_at_call 13; go_must (refine (HD.out _ (HRd.out.ext (by repeat (first | (with_reducible assumption) | (with_reducible exact Below.refl _ _) | (with_reducible refine ext_set ?_ _ _ (by simp <;> omega)) | (with_reducible apply ext_drewN) | (with_reducible apply ext_drew) | (with_reducible apply ext_alloc))))).mono ?_; rintro e w5 ⟨p5, c5, rfl, hb5, hr5, hf5⟩; have hE5 := ext_trans (show Below wr.heap.size wr _ from (by repeat (first | (with_reducible assumption) | (with_reducible exact Below.refl _ _) | (with_reducible refine ext_set ?_ _ _ (by simp <;> omega)) | (with_reducible apply ext_drewN) | (with_reducible apply ext_drew) | (with_reducible apply ext_alloc)))) hb5; simp only [Wk.v, Wk.cells])))
                      refine bodyPost_ret (v := .tuple #[.slice pm xs.length cm, .slice p k c, .slice q j d, .int .i64 se]) (by simp [results, Try.results28, go_sem]) rfl ?_
                      have h8 := HST.out
                      rw [if_pos hse] at h8
                      rw [HE2.out (by rw [h8]; exact hse), h8]
                      exact ⟨pm, cm, p, c, q, d, rfl, ext_trans HW (by repeat (first | (with_reducible assumption) | (with_reducible exact Below.refl _ _) | (with_reducible refine ext_set ?_ _ _ (by simp <;> omega)) | (with_reducible apply ext_drewN) | (with_reducible apply ext_drew) | (with_reducible apply ext_alloc))), HM.out.ext (ext_trans HW (by repeat (first | (with_reducible assumption) | (with_reducible exact Below.refl _ _) | (with_reducible refine ext_set ?_ _ _ (by simp <;> omega)) | (with_reducible apply ext_drewN) | (with_reducible apply ext_drew) | (with_reducible apply ext_alloc)))), HO.out.ext (ext_trans HW (by repeat (first | (with_reducible assumption) | (with_reducible exact Below.refl _ _) | (with_reducible refine ext_set ?_ _ _ (by simp <;> omega)) | (with_reducible apply ext_drewN) | (with_reducible apply ext_drew) | (with_reducible apply ext_alloc)))), HA.out.ext (ext_trans HW (by repeat (first | (with_reducible assumption) | (with_reducible exact Below.refl _ _) | (with_reducible refine ext_set ?_ _ _ (by simp <;> omega)) | (with_reducible apply ext_drewN) | (with_reducible apply ext_drew) | (with_reducible apply ext_alloc))))⟩
                  · have hz0 : (((kk : Int) + 1) == 0) = false := by simp; omega
                    have HHI := Lib.hid hhi
                    have HLO2 := Lib.hid hlo
                    clear hhi hlo
                    by_cases hse : se = 0
                    · subst hse
                      go_wp2_with (first
                        | (go_at_call 44; go_must (refine (ARM44.out _ (Below.refl _ _)).mono ?_; rintro e w3 ⟨pl, cl, rfl, hb3, hol⟩)))
                      refine (rnext_any pk pl np cp (j + 1) cl N last picks (leftF own all) _ (HKW.out.ext hb3) (rd_fr_of_owns hol (Nat.le_refl _)).1 (by omega) HBD.out (by have := HNF.out; omega) hl0 (by omega)).mono ?_; rintro e w4 ⟨rfl, rfl⟩; rw [hi.out]; have hE4 := ext_alloc hb3 (.cells #[.int .i64 0, .int .i64 0, .int .i64 0, .int .i64 0, .int .i64 0, .int .i64 0, .int .i64 0, .int .i64 0, .int .i64 0, .int .i64 0, .bool false, .int .i64 0] 25); obtain ⟨hq1, hq2⟩ := HSh.out.cells _ hE4; have hq3 : ∀ j, j < 12 → (w3.alloc (.cells #[.int .i64 0, .int .i64 0, .int .i64 0, .int .i64 0, .int .i64 0, .int .i64 0, .int .i64 0, .int .i64 0, .int .i64 0, .int .i64 0, .bool false, .int .i64 0] 25)).cell? ⟨g, kk * 12 + j, none⟩ = (#[.int .i64 x.pc, .int .i64 x.job, .int .i64 x.r0, .int .i64 x.r1, .int .i64 x.r2, .int .i64 x.r3, .int .i64 x.r4, .int .i64 x.r5, .int .i64 x.r6, .int .i64 x.r7, .bool x.done, .int .i64 x.out] : Array Value)[j]? := hq1; clear hq1
                      clear hN2
                      go_wp2_with (first
                        | (go_at_call 13; go_must (refine (HD.out _ (HRd.out.ext (by repeat (first | (with_reducible assumption) | (with_reducible exact Below.refl _ _) | (with_reducible refine ext_set ?_ _ _ (by simp <;> omega)) | (with_reducible apply ext_drewN) | (with_reducible apply ext_drew) | (with_reducible apply ext_alloc))))).mono ?_; rintro e w5 ⟨p5, c5, rfl, hb5, hr5, hf5⟩; have hE5 := ext_trans (show Below wr.heap.size wr _ from (by repeat (first | (with_reducible assumption) | (with_reducible exact Below.refl _ _) | (with_reducible refine ext_set ?_ _ _ (by simp <;> omega)) | (with_reducible apply ext_drewN) | (with_reducible apply ext_drew) | (with_reducible apply ext_alloc)))) hb5; have hE7 := ext_alloc hE5 (.cells #[.int .i64 x'.pc, .int .i64 x'.job, .int .i64 x'.r0, .int .i64 x'.r1, .int .i64 x'.r2, .int .i64 x'.r3, .int .i64 x'.r4, .int .i64 x'.r5, .int .i64 x'.r6, .int .i64 x'.r7, .bool x'.done, .int .i64 x'.out] 25); obtain ⟨hs1, hs2⟩ := HSh.out.cells _ hE7; have hs4 : ∀ j, j < 12 → (w5.alloc (.cells #[.int .i64 x'.pc, .int .i64 x'.job, .int .i64 x'.r0, .int .i64 x'.r1, .int .i64 x'.r2, .int .i64 x'.r3, .int .i64 x'.r4, .int .i64 x'.r5, .int .i64 x'.r6, .int .i64 x'.r7, .bool x'.done, .int .i64 x'.out] 25)).cell? ⟨g, kk * 12 + j, none⟩ = (#[.int .i64 x.pc, .int .i64 x.job, .int .i64 x.r0, .int .i64 x.r1, .int .i64 x.r2, .int .i64 x.r3, .int .i64 x.r4, .int .i64 x.r5, .int .i64 x.r6, .int .i64 x.r7, .bool x.done, .int .i64 x.out] : Array Value)[j]? := hs1; clear hs1; have hs3 := HSh.out.frozen _ hE7; simp only [Wk.v, Wk.cells])))

                      have hgs := set12_grown (w5.alloc (.cells #[.int .i64 x'.pc, .int .i64 x'.job, .int .i64 x'.r0, .int .i64 x'.r1, .int .i64 x'.r2, .int .i64 x'.r3, .int .i64 x'.r4, .int .i64 x'.r5, .int .i64 x'.r6, .int .i64 x'.r7, .bool x'.done, .int .i64 x'.out] 25)) g kk x'
                      have hr7 := hr5.alloc (.cells #[.int .i64 x'.pc, .int .i64 x'.job, .int .i64 x'.r0, .int .i64 x'.r1, .int .i64 x'.r2, .int .i64 x'.r3, .int .i64 x'.r4, .int .i64 x'.r5, .int .i64 x'.r6, .int .i64 x'.r7, .bool x'.done, .int .i64 x'.out] 25)
                      have HF5 : ∀ b, p5 = some b → wr.heap.size ≤ b.block := fun b hb => by have h1 := hf5 rfl b hb; have h2 := hb3.size; simp at h1; omega
                      have hne5 : NeN g p5 xs.length := fun a ha _ e => by have h8 := HF5 a ha; have h9 := HHI.out; omega
                      have hNf := HNF.out
                      have hwr : wrap64 ((N : Int) + 1) = ((N + 1 : Nat) : Int) := by unfold wrap64; omega
                      go_roundw
                      case rel =>
                        refine ⟨f, N + 1, c5, p5, ys, putO own ((kk : Int) + 1) x', putT all ((kk : Int) + 1) x', (kk : Int) + 1, by omega, rfl, by rw [hwr], rfl, by omega, by omega, hr7.grownN' hgs hne5, ?_, ?_, HSh.out.put _ x' hE7, ext_grown (ext_trans HW hE7) hgs (by rintro b ⟨⟩; exact HLO2.out), ?_⟩
                        · exact fun a ha b hb _ e => by have h1 := HF5 b hb; have h2 := (HC'.out.own.lt _ (by rw [ha]; rfl)).2; omega
                        · exact fun a ha b hb _ e => by have h1 := HF5 b hb; have h2 := (HC'.out.all.lt _ (by rw [ha]; rfl)).2; omega
                        · have h8 := HST.out
                          rw [if_neg (by simp)] at h8
                          exact h8.symm
                      case measure => rw [hwr]; simp [intOf]; omega
                    · have hz : (se != 0) = true := by simpa using hse
                      go_wp2_with (first
                        | (go_at_call 44; go_must (refine (ARM44.out _ (Below.refl _ _)).mono ?_; rintro e w3 ⟨pl, cl, rfl, hb3, hol⟩)))
                      refine (rnext_any pk pl np cp (j + 1) cl N last picks (leftF own all) _ (HKW.out.ext hb3) (rd_fr_of_owns hol (Nat.le_refl _)).1 (by omega) HBD.out (by have := HNF.out; omega) hl0 (by omega)).mono ?_; rintro e w4 ⟨rfl, rfl⟩; rw [hi.out]; have hE4 := ext_alloc hb3 (.cells #[.int .i64 0, .int .i64 0, .int .i64 0, .int .i64 0, .int .i64 0, .int .i64 0, .int .i64 0, .int .i64 0, .int .i64 0, .int .i64 0, .bool false, .int .i64 0] 25); obtain ⟨hq1, hq2⟩ := HSh.out.cells _ hE4; have hq3 : ∀ j, j < 12 → (w3.alloc (.cells #[.int .i64 0, .int .i64 0, .int .i64 0, .int .i64 0, .int .i64 0, .int .i64 0, .int .i64 0, .int .i64 0, .int .i64 0, .int .i64 0, .bool false, .int .i64 0] 25)).cell? ⟨g, kk * 12 + j, none⟩ = (#[.int .i64 x.pc, .int .i64 x.job, .int .i64 x.r0, .int .i64 x.r1, .int .i64 x.r2, .int .i64 x.r3, .int .i64 x.r4, .int .i64 x.r5, .int .i64 x.r6, .int .i64 x.r7, .bool x.done, .int .i64 x.out] : Array Value)[j]? := hq1; clear hq1
                      clear hN2
                      go_wp2_with (first
                        | (go_at_call 13; go_must (refine (HD.out _ (HRd.out.ext (by repeat (first | (with_reducible assumption) | (with_reducible exact Below.refl _ _) | (with_reducible refine ext_set ?_ _ _ (by simp <;> omega)) | (with_reducible apply ext_drewN) | (with_reducible apply ext_drew) | (with_reducible apply ext_alloc))))).mono ?_; rintro e w5 ⟨p5, c5, rfl, hb5, hr5, hf5⟩; have hE5 := ext_trans (show Below wr.heap.size wr _ from (by repeat (first | (with_reducible assumption) | (with_reducible exact Below.refl _ _) | (with_reducible refine ext_set ?_ _ _ (by simp <;> omega)) | (with_reducible apply ext_drewN) | (with_reducible apply ext_drew) | (with_reducible apply ext_alloc)))) hb5; simp only [Wk.v, Wk.cells])))

                      refine bodyPost_ret (v := .tuple #[.slice pm xs.length cm, .slice p k c, .slice q j d, .int .i64 se]) (by simp [results, Try.results28, go_sem]) rfl ?_
                      have h8 := HST.out
                      rw [if_pos hse] at h8
                      rw [HE2.out (by rw [h8]; exact hse), h8]
                      exact ⟨pm, cm, p, c, q, d, rfl, ext_trans HW (by repeat (first | (with_reducible assumption) | (with_reducible exact Below.refl _ _) | (with_reducible refine ext_set ?_ _ _ (by simp <;> omega)) | (with_reducible apply ext_drewN) | (with_reducible apply ext_drew) | (with_reducible apply ext_alloc))), HM.out.ext (ext_trans HW (by repeat (first | (with_reducible assumption) | (with_reducible exact Below.refl _ _) | (with_reducible refine ext_set ?_ _ _ (by simp <;> omega)) | (with_reducible apply ext_drewN) | (with_reducible apply ext_drew) | (with_reducible apply ext_alloc)))), HO.out.ext (ext_trans HW (by repeat (first | (with_reducible assumption) | (with_reducible exact Below.refl _ _) | (with_reducible refine ext_set ?_ _ _ (by simp <;> omega)) | (with_reducible apply ext_drewN) | (with_reducible apply ext_drew) | (with_reducible apply ext_alloc)))), HA.out.ext (ext_trans HW (by repeat (first | (with_reducible assumption) | (with_reducible exact Below.refl _ _) | (with_reducible refine ext_set ?_ _ _ (by simp <;> omega)) | (with_reducible apply ext_drewN) | (with_reducible apply ext_drew) | (with_reducible apply ext_alloc))))⟩

end Go.Proofs.Ytdnajckhnknlcaa
