/-
  The contracts of the functions that these laws reach, part 12.
-/
import Derived.Test.YtdnajckhnknlcaaR11
import Derived.WalkLawsBesides

/-! Run, of the reference: what it hands back. -/
namespace Go.Proofs.Ytdnajckhnknlcaa
set_option linter.unusedVariables false
set_option linter.unusedSimpArgs false
open Go.RowKit

theorem rrun28_any (pm p q pk : Option Addr) (L cm n c m d np cp : Nat) (at_ room : Int) (picks xs : List Int) (own all : List Wk) (w : World)
    (hm : Rd w 1 pm L cm (ints xs)) (ho : Rd w 12 p n c (wkCells own)) (ha : Rd w 12 q m d (wkCells all)) (hk : Rd w 1 pk np cp (ints picks)) (hbd : Bd picks)
    (hn : n ≤ 1000) (hm1 : m ≤ 999) (hL : L ≤ 100000) :
    Calls Try.prog 28 #[.slice pm L cm, .int .i64 at_, .int .i64 room, .slice pk np cp, .slice p n c, .slice q m d] w (RunPost27 L n m (dRunF at_ room picks xs own all) w) := by
  refine rrun28 pm p q pk L cm n c m d np cp at_ room picks xs own all w hm ho ha hk hbd hn hm1 hL _ _ rfl (fun h => ?_) (fun h1 h2 => ?_) (fun h1 h2 => ?_)
  · unfold dRunF; rw [if_pos h]
  · unfold dRunF; rw [if_neg (by rw [h1]; decide), if_pos h2]
  · unfold dRunF; rw [if_neg (by rw [h1]; decide), if_neg (by rw [h2]; decide)]

end Go.Proofs.Ytdnajckhnknlcaa

/-! The tasks that are in a deque, in plain Lean. -/
namespace Go.Proofs.Ytdnajckhnknlcaa
set_option linter.unusedVariables false
set_option linter.unusedSimpArgs false
open Go.RowKit

/-- The task at the place of n. -/
def taskAt (xs : List Int) (a r : Nat) (n : Int) : Int := xs.getD (a + 2 + (n % r).toNat) 0

/-- k tasks from the top on. -/
def taskTo (xs : List Int) (a r k : Nat) : List Int := (List.range k).map fun (i : Nat) => taskAt xs a r (xs.getD a 0 + (i : Int))

def tasksF (xs : List Int) (at_ room : Int) : List Int :=
  if may room = false ∨ at_ < 0 ∨ (xs.length : Int) - room - 2 < at_ ∨ xs.getD at_.toNat 0 < 0 then []
  else taskTo xs at_.toNat room.toNat (min (xs.getD (at_.toNat + 1) 0 - xs.getD at_.toNat 0).toNat room.toNat)

theorem taskTo_succ (xs : List Int) (a r k : Nat) : taskTo xs a r (k + 1) = taskTo xs a r k ++ [taskAt xs a r (xs.getD a 0 + (k : Int))] := by
  simp [taskTo, List.range_succ]
theorem taskTo_len (xs : List Int) (a r k : Nat) : (taskTo xs a r k).length = k := by simp [taskTo]

end Go.Proofs.Ytdnajckhnknlcaa

/-! The tasks that are in a deque: the reference. -/
namespace Go.Proofs.Ytdnajckhnknlcaa
set_option linter.unusedVariables false
set_option linter.unusedSimpArgs false
open Go.RowKit

set_option maxHeartbeats 1000000 in
theorem tasks16_room (p : Option Addr) (L c : Nat) (at_ room : Int) (w : World) (hm : Hid (may room = false)) :
    Calls Try.prog 16 #[.slice p L c, .int .i64 at_, .int .i64 room] w fun e w' => e = .returned (.slice none 0 0) ∧ w = w' := by
  go_enter Try.func16, Try.ntmps16
  go_wp2_with (go_at_call 33; go_must (refine (rmay_f room _ hm.out).mono ?_; rintro e w2 ⟨rfl, rfl⟩))
  go_ret
  exact ⟨rfl, rfl⟩

set_option maxHeartbeats 1000000 in
theorem tasks16_at (p : Option Addr) (L c : Nat) (at_ room : Int) (w : World) (hr1 : 1 ≤ room) (hr2 : room ≤ 1000) (hL : L ≤ 100000) (h : at_ < 0) :
    Calls Try.prog 16 #[.slice p L c, .int .i64 at_, .int .i64 room] w fun e w' => e = .returned (.slice none 0 0) ∧ w = w' := by
  go_enter Try.func16, Try.ntmps16
  go_wp2_with (go_at_call 33; go_must (refine (rmay_t room _ (by omega) (by omega)).mono ?_; rintro e w2 ⟨rfl, rfl⟩))
  go_ret
  exact ⟨rfl, rfl⟩

set_option maxHeartbeats 1000000 in
theorem tasks16_far (p : Option Addr) (L c : Nat) (at_ room : Int) (w : World) (hr1 : 1 ≤ room) (hr2 : room ≤ 1000) (hL : L ≤ 100000) (h0 : 0 ≤ at_) (h : (L : Int) - room - 2 < at_) :
    Calls Try.prog 16 #[.slice p L c, .int .i64 at_, .int .i64 room] w fun e w' => e = .returned (.slice none 0 0) ∧ w = w' := by
  go_enter Try.func16, Try.ntmps16
  go_wp2_with (go_at_call 33; go_must (refine (rmay_t room _ (by omega) (by omega)).mono ?_; rintro e w2 ⟨rfl, rfl⟩))
  go_ret
  exact ⟨rfl, rfl⟩

set_option maxHeartbeats 1000000 in
theorem tasks16_neg (b off : Nat) (L c : Nat) (a r : Nat) (x : Int) (w : World) (hr1 : 1 ≤ r) (hr2 : r ≤ 1000) (hL : L ≤ 100000) (h : a + r + 2 ≤ L) (hx : w.cell? ⟨b, off + a, none⟩ = some (.int .i64 x)) (hx0 : x < 0) :
    Calls Try.prog 16 #[.slice (some ⟨b, off, none⟩) L c, .int .i64 a, .int .i64 r] w fun e w' => e = .returned (.slice none 0 0) ∧ w = w' := by
  have h1 : ¬ (L : Int) - (r : Int) - 2 < (a : Int) := by omega
  go_enter Try.func16, Try.ntmps16
  go_wp2_with (go_at_call 33; go_must (refine (rmay_t r _ (by omega) (by omega)).mono ?_; rintro e w2 ⟨rfl, rfl⟩))
  go_ret
  exact ⟨rfl, rfl⟩

set_option maxHeartbeats 4000000 in
theorem tasks16_go (p : Option Addr) (L c : Nat) (a r : Nat) (xs : List Int) (w : World) (hm : Rd w 1 p L c (ints xs)) (hr1 : 1 ≤ r) (hr2 : r ≤ 1000) (hL : L ≤ 100000) (h : a + r + 2 ≤ L) (hx0 : 0 ≤ xs.getD a 0)
    (hxh : xs.getD (a + 1) 0 ≤ 9223372036854775807) :
    Calls Try.prog 16 #[.slice p L c, .int .i64 a, .int .i64 r] w fun e w' => ∃ p' c', e = .returned (.slice p' (taskTo xs a r (min (xs.getD (a + 1) 0 - xs.getD a 0).toNat r)).length c') ∧ Below w.heap.size w w' ∧
      Rd w' 1 p' (taskTo xs a r (min (xs.getD (a + 1) 0 - xs.getD a 0).toNat r)).length c' (ints (taskTo xs a r (min (xs.getD (a + 1) 0 - xs.getD a 0).toNat r))) := by
  have hl : xs.length = L := by have := hm.len; rw [ints_len] at this; omega
  obtain ⟨b, off, rfl⟩ := hm.addr (by omega) (by decide)
  have hct := hm.cell a _ (ints_get xs a (by omega))
  have hcb := hm.cell (a + 1) _ (ints_get xs (a + 1) (by omega))
  have hbl := hm.lt (by decide) _ rfl (by omega)
  simp only at hbl
  rw [taskTo_len]
  obtain ⟨t, ht⟩ : ∃ t, Hid (xs.getD a 0 = t) := ⟨_, rfl⟩
  obtain ⟨u, hu⟩ : ∃ u, Hid (xs.getD (a + 1) 0 = u) := ⟨_, rfl⟩
  rw [ht.out] at hct hx0 ⊢
  rw [hu.out] at hcb hxh ⊢
  obtain ⟨K, hK⟩ : ∃ K, min (u - t).toNat r = K := ⟨_, rfl⟩
  rw [hK]
  have hKr : K ≤ r := by omega
  have HM := Lib.hid hm
  have HL := Lib.hid hl
  have HK := Lib.hid hK
  have h1 : ¬ (L : Int) - (r : Int) - 2 < (a : Int) := by omega
  have hcell := fun (k : Nat) => hm.cell (a + 2 + ((t + (k : Int)) % r).toNat) _ (ints_get xs (a + 2 + ((t + (k : Int)) % r).toNat) (by have h8 := Int.emod_nonneg (t + (k : Int)) (b := (r : Int)) (by omega); have h9 := Int.emod_lt_of_pos (t + (k : Int)) (b := (r : Int)) (by omega); omega))
  have HC := Lib.hid hcell
  clear hm hl hK hcell
  go_enter Try.func16, Try.ntmps16
  go_wp2_with (go_at_call 33; go_must (refine (rmay_t r _ (by omega) (by omega)).mono ?_; rintro e w2 ⟨rfl, rfl⟩))
  go_loopw [7, 8] (fun v i wr => ∃ k : Nat, k ≤ K ∧ i = .int .i64 (t + (k : Int)) ∧ wr.ownsRow w.heap.size 3 1 v k (ints (taskTo xs a r k)) ∧ Below w.heap.size w wr) (fun _ i _ => K - (intOf i - t).toNat)
  case atStart => exact ⟨0, Nat.zero_le _, by simp, World.ownsRow_nil _ _ _ _, Below.refl _ _⟩
  case round =>
    obtain ⟨k, hk, rfl, HO, HW⟩ := hrel
    have hct2 : wr.cell? ⟨b, off + a, none⟩ = some (.int .i64 t) := by rw [HW.cell (p := ⟨b, off + a, none⟩) hbl]; exact hct
    have hcb2 : wr.cell? ⟨b, off + (a + 1), none⟩ = some (.int .i64 u) := by rw [HW.cell (p := ⟨b, off + (a + 1), none⟩) hbl]; exact hcb
    obtain ⟨pv, cv, rfl, hR, _⟩ := Rd.of_owns HO
    have HO2 := Lib.hid HO
    clear HO hct hcb
    have hkr : k ≤ r := by omega
    by_cases hlt : k < K
    · have hKe := HK.out
      have hku : t + (k : Int) < u := by omega
      have hkr2 : k < r := by omega
      obtain ⟨j, hj⟩ : ∃ j : Nat, (t + (k : Int)) % r = j := ⟨((t + (k : Int)) % r).toNat, by have := Int.emod_nonneg (t + (k : Int)) (b := (r : Int)) (by omega); omega⟩
      have hjr : j < r := by have := Int.emod_lt_of_pos (t + (k : Int)) (b := (r : Int)) (by omega); omega
      have hcj : wr.cell? ⟨b, off + (a + 2 + j), none⟩ = some (.int .i64 (taskAt xs a r (t + (k : Int)))) := by
        rw [HW.cell (p := ⟨b, off + (a + 2 + j), none⟩) hbl]
        have := HC.out k
        unfold taskAt
        rw [hj] at this ⊢
        exact this
      have hjT : (t + (k : Int)).tmod r = j := by rw [Int.tmod_eq_emod_of_nonneg (by omega)]; exact hj
      obtain ⟨y, hy⟩ : ∃ y, Hid (taskAt xs a r (t + (k : Int)) = y) := ⟨_, rfl⟩
      rw [hy.out] at hcj
      have hs := taskTo_succ xs a r k
      rw [ht.out, hy.out] at hs
      have HS := Lib.hid hs
      clear hs hR hKe
      go_wp2_with (at_builtin; go_must (refine wpList_append_rd _ rfl (.tmp 51) (.tmp 61) 22 rfl w.heap.size 3 (.int .i64 0) 1 8 Try.underlying22 info_3 rfl (by decide) _ k _ rfl (HO2.out.alloc _) (some ⟨wr.heap.size, 0, none⟩) 1 1 [.int .i64 y] rfl (rd_one wr 3 _) (by simp [Value.oneCell']) (by unfold maxLen; omega) (by omega) (by have := HW.size; simp; omega) ?_))
      intro v' w1 hown1 hg1 _
      have HE := Lib.hid (owns_grown (HO2.out.alloc (.cells #[.int .i64 y] 3)) (ext_alloc HW _) hg1 (Nat.le_refl _) (by have := HW.size; simp; omega))
      have HO3 := Lib.hid hown1
      clear hown1 hg1
      go_wp2_with fail
      go_roundw
      case rel => exact ⟨k + 1, by omega, by go_num, by rw [HS.out]; have := HO3.out; simpa [ints] using this, HE.out⟩
      case measure => simp [intOf]; omega
    · have hkK : k = K := by omega
      subst hkK
      have hKe := HK.out
      by_cases hku : t + (k : Int) < u
      · have hkr2 : k = r := by omega
        subst hkr2
        clear hKe hlt
        go_wp2_with fail
        go_ret
        exact ⟨pv, cv, rfl, HW, hR⟩
      · clear hKe hlt
        go_wp2_with fail
        go_ret
        exact ⟨pv, cv, rfl, HW, hR⟩

theorem tasks16_any (p : Option Addr) (L c : Nat) (at_ room : Int) (xs : List Int) (w : World) (hm : Rd w 1 p L c (ints xs)) (hL : L ≤ 100000) (hbd : Bd xs) :
    Calls Try.prog 16 #[.slice p L c, .int .i64 at_, .int .i64 room] w fun e w' => ∃ p' c', e = .returned (.slice p' (tasksF xs at_ room).length c') ∧ Below w.heap.size w w' ∧ Rd w' 1 p' (tasksF xs at_ room).length c' (ints (tasksF xs at_ room)) := by
  have hl : xs.length = L := by have := hm.len; rw [ints_len] at this; omega
  have nilr : ∀ (e : Ending) (w' : World), (e = .returned (.slice none 0 0) ∧ w = w') → ∃ p' c', e = .returned (.slice p' ([] : List Int).length c') ∧ Below w.heap.size w w' ∧ Rd w' 1 p' ([] : List Int).length c' (ints []) := by
    rintro e w' ⟨rfl, rfl⟩
    exact ⟨none, 0, rfl, Below.refl _ _, Rd.nil' _ _⟩
  by_cases h1 : may room = false
  · have e : tasksF xs at_ room = [] := by unfold tasksF; rw [if_pos (.inl h1)]
    rw [e]; exact (tasks16_room p L c at_ room w h1).mono nilr
  · have hmt : may room = true := by simpa using h1
    simp only [may, Bool.and_eq_true, decide_eq_true_eq] at hmt
    obtain ⟨hr1, hr2⟩ := hmt
    by_cases h2 : at_ < 0
    · have e : tasksF xs at_ room = [] := by unfold tasksF; rw [if_pos (.inr (.inl h2))]
      rw [e]; exact (tasks16_at p L c at_ room w hr1 hr2 hL h2).mono nilr
    · by_cases h3 : (xs.length : Int) - room - 2 < at_
      · have e : tasksF xs at_ room = [] := by unfold tasksF; rw [if_pos (.inr (.inr (.inl h3)))]
        rw [e]; exact (tasks16_far p L c at_ room w hr1 hr2 hL (by omega) (by omega)).mono nilr
      · obtain ⟨a, rfl⟩ := Int.eq_ofNat_of_zero_le (show 0 ≤ at_ by omega)
        obtain ⟨r, rfl⟩ := Int.eq_ofNat_of_zero_le (show 0 ≤ room by omega)
        by_cases h4 : xs.getD a 0 < 0
        · have e : tasksF xs a r = [] := by unfold tasksF; rw [if_pos (.inr (.inr (.inr (by simpa using h4))))]
          rw [e]
          obtain ⟨b, off, rfl⟩ := hm.addr (by omega) (by decide)
          exact (tasks16_neg b off L c a r _ w (by omega) (by omega) hL (by omega) (hm.cell a _ (ints_get xs a (by omega))) h4).mono nilr
        · have e : tasksF xs a r = taskTo xs a r (min (xs.getD (a + 1) 0 - xs.getD a 0).toNat r) := by
            unfold tasksF
            rw [if_neg (by rw [Int.toNat_natCast]; rintro (h | h | h | h); exact h1 h; exact h2 h; exact h3 h; exact h4 h)]
            simp
          rw [e]
          exact tasks16_go p L c a r xs w hm (by omega) (by omega) hL (by omega) (by omega) (hbd (a + 1) (by omega)).2

end Go.Proofs.Ytdnajckhnknlcaa

/-! Run, of the program: nobody is odd. -/
namespace Go.Proofs.Ytdnajckhnknlcaa
set_option linter.unusedVariables false
set_option linter.unusedSimpArgs false
open Go.RowKit

/-- What the crew's run leaves, told in one way where it goes well and where not. -/
theorem run41_ok (B B2 : Nat) (p q pk : Option Addr) (n m c d np cp : Nat) (at_ room : Int) (picks : List Int) (pm0 : Option Addr) (L cm0 : Nat) (xs0 : List Int) (own0 all0 : List Wk) (w : World)
    (hB : B ≤ w.heap.size) (hC0 : CrewAt w B B2 p q n m c d own0 all0) (hm0 : Rd w 1 pm0 L cm0 (ints xs0)) (hd1 : Dis pm0 L p) (hd2 : Dis pm0 L q) (hk : Rd w 1 pk np cp (ints picks)) (hkB : ∀ a, pk = some a → 0 < np → a.block < B) (hbd : Bd picks)
    (hn : n ≤ 1000) (hm : m ≤ 999) (hL : L ≤ 100000) (he : (runF at_ room picks 100000 xs0 own0 all0 (-1)).e = 0) :
    Calls Try.prog 41 #[.agg #[.slice p n c, .slice q m d], .slice pm0 L cm0, .int .i64 at_, .int .i64 room, .slice pk np cp] w fun e w' =>
      ∃ p' c', e = .returned (.tuple #[.slice p' L c', .int .i64 0]) ∧ Below B w w' ∧ Keep w w' p q ∧ Rd w' 1 p' L c' (ints (runF at_ room picks 100000 xs0 own0 all0 (-1)).xs) ∧
        CrewAt w' B B2 p q n m c d (runF at_ room picks 100000 xs0 own0 all0 (-1)).own (runF at_ room picks 100000 xs0 own0 all0 (-1)).all := by
  refine (run41 B B2 p q pk n m c d np cp at_ room picks pm0 L cm0 xs0 own0 all0 w hB hC0 hm0 hd1 hd2 hk hkB hbd hn hm hL _ rfl).mono ?_
  rintro e w' ⟨h1, h2, h3, _⟩
  obtain ⟨p', c', he', h4, h5⟩ := h3 he
  exact ⟨p', c', he', h1, h2, h4, h5⟩

theorem run41_err (B B2 : Nat) (p q pk : Option Addr) (n m c d np cp : Nat) (at_ room : Int) (picks : List Int) (pm0 : Option Addr) (L cm0 : Nat) (xs0 : List Int) (own0 all0 : List Wk) (w : World)
    (hB : B ≤ w.heap.size) (hC0 : CrewAt w B B2 p q n m c d own0 all0) (hm0 : Rd w 1 pm0 L cm0 (ints xs0)) (hd1 : Dis pm0 L p) (hd2 : Dis pm0 L q) (hk : Rd w 1 pk np cp (ints picks)) (hkB : ∀ a, pk = some a → 0 < np → a.block < B) (hbd : Bd picks)
    (hn : n ≤ 1000) (hm : m ≤ 999) (hL : L ≤ 100000) (E : Int) (hE : E ≠ 0) (he : (runF at_ room picks 100000 xs0 own0 all0 (-1)).e = E) :
    Calls Try.prog 41 #[.agg #[.slice p n c, .slice q m d], .slice pm0 L cm0, .int .i64 at_, .int .i64 room, .slice pk np cp] w fun e w' =>
      e = .returned (.tuple #[.slice none 0 0, .int .i64 E]) ∧ Below B w w' := by
  refine (run41 B B2 p q pk n m c d np cp at_ room picks pm0 L cm0 xs0 own0 all0 w hB hC0 hm0 hd1 hd2 hk hkB hbd hn hm hL _ rfl).mono ?_
  rintro e w' ⟨h1, h2, _, h3⟩
  have := h3 (by rw [he]; exact hE)
  rw [he] at this
  exact ⟨this, h1⟩

set_option maxHeartbeats 4000000 in
theorem run27_ok (pm p q pk : Option Addr) (L cm n c m d np cp : Nat) (at_ room : Int) (picks xs : List Int) (own all : List Wk) (w : World)
    (hm : Rd w 1 pm L cm (ints xs)) (ho : Rd w 12 p n c (wkCells own)) (ha : Rd w 12 q m d (wkCells all)) (hk : Rd w 1 pk np cp (ints picks)) (hbd : Bd picks)
    (hn : n ≤ 1000) (hm1 : m ≤ 999) (hL : L ≤ 100000) (hodd : oddF own all = false) (R : RunR) (hRR : runF at_ room picks 100000 xs own all (-1) = R) (he : R.e = 0) :
    Calls Try.prog 27 #[.slice pm L cm, .int .i64 at_, .int .i64 room, .slice pk np cp, .slice p n c, .slice q m d] w (RunPost27 L n m R w) := by
  obtain ⟨ec, ys, own', all'⟩ := R
  simp only at he
  subst he
  have HM := Lib.hid hm
  have HO := Lib.hid ho
  have HA := Lib.hid ha
  have HK := Lib.hid hk
  have HBD := Lib.hid hbd
  have HODD := Lib.hid hodd
  have H1 := Lib.hid (ints_one xs)
  have HRR := Lib.hid hRR
  have HKB := Lib.hid (fun (a : Addr) (h : pk = some a) (h0 : 0 < np) => hk.lt (by decide) a h h0)
  clear hm ho ha hodd hk hbd hRR
  go_enter Try.func27, Try.ntmps27
  go_wp2_with (go_at_call 39; go_must (refine (own39 p q n m c d own all _ HO.out HA.out hn (by omega)).mono ?_; rintro e w1 ⟨p1, c1, p2, c2, B, rfl, hb1, ho1, ha1, hap, hle⟩))
  refine (odd40 p1 p2 n m c1 c2 own all _ ((rd_fr_of_owns ho1 (Nat.le_refl _)).1.alloc _) ((rd_fr_of_owns ha1 (Nat.le_refl _)).1.alloc _) hn (by omega)).mono ?_
  rintro e w2 ⟨rfl, hb2⟩
  rw [HODD.out]
  have HC1 := Lib.hid (CrewAt.mk ho1 ha1 hap hle)
  have ht := ((Blk.new w1 68 #[.slice p1 n c1, .slice p2 m c2]).ext hb2)
  have htc := ht.cell
  have htl := ht.lt
  have hE2 := ext_trans (ext_alloc hb1 (.cells #[.slice p1 n c1, .slice p2 m c2] 68)) hb2
  have hp1 : ∀ a, p1 = some a → a.block < w1.heap.size := fun a ha => by subst ha; exact (ho1.lt _ rfl).2
  have hp2 : ∀ a, p2 = some a → a.block < w1.heap.size := fun a ha => by subst ha; exact (ha1.lt _ rfl).2
  have HP1 := Lib.hid hp1
  have HP2 := Lib.hid hp2
  clear ho1 ha1 hap hle hp1 hp2
  go_wp2_with fail
  go_region_with (first
    | (go_at_call 32; go_must (refine (clone_int pm L cm (ints xs) _ ?_ H1.out (by omega)).mono ?_; (· exact (HM.out.ext hE2).drew); rintro e w3 ⟨p3, c3, rfl, hb3, ho3⟩; have ht3 := (ht.drew.ext hb3); have ht3c := ht3.cell; have hE3 := ext_trans (ext_drew hE2) hb3; have hC3 := ((HC1.out.ext (ext_alloc (Below.refl _ _) _)).ext (ext_trans (ext_drew hb2) hb3)); have hr3 := rd_fr_of_owns ho3 (Nat.le_refl _)))
    | (go_at_call 41; go_must (refine (run41_ok w.heap.size B p1 p2 pk n m c1 c2 np cp at_ room picks p3 L c3 xs own all _ hE3.size hC3 hr3.1 ?_ ?_ (HK.out.ext hE3) HKB.out HBD.out hn hm1 hL (by rw [HRR.out])).mono ?_; (· exact Dis.fresh hr3.2 (fun a ha => Nat.lt_of_lt_of_le (HP1.out a ha) (Nat.le_trans (Nat.le_of_lt htl) (Nat.le_refl _)))); (· exact Dis.fresh hr3.2 (fun a ha => Nat.lt_of_lt_of_le (HP2.out a ha) (Nat.le_trans (Nat.le_of_lt htl) (Nat.le_refl _)))); rintro e w4 ⟨p4, c4, rfl, hb4, hk4, hr4, hc4⟩; rw [HRR.out] at hr4 hc4)))
  all_goals
    have ht4 : Blk w4 w1.heap.size 68 #[.slice p1 n c1, .slice p2 m c2] := by
      have h9 := hk4 w1.heap.size ht3.lt (fun a ha => by have := HP1.out a ha; omega) (fun a ha => by have := HP2.out a ha; omega)
      unfold Blk; rw [h9]; exact ht3
    have ht4c := ht4.cell
    have hE4 := hE3.trans hb4
    clear htc ht3c
    go_wp2_with fail
    go_quiet (fail)
    go_wp2_with fail
    refine bodyPost_ret (v := .tuple #[.slice p4 L c4, .slice p1 n c1, .slice p2 m c2, .int .i64 0]) (by simp [results, Try.results27, go_sem]) rfl ⟨p4, c4, p1, c1, p2, c2, rfl, ext_drewN hE4 _, hr4.drewN _, hc4.rdo.drewN _, hc4.rdt.drewN _⟩

set_option maxHeartbeats 4000000 in
theorem run27_err (pm p q pk : Option Addr) (L cm n c m d np cp : Nat) (at_ room : Int) (picks xs : List Int) (own all : List Wk) (w : World)
    (hm : Rd w 1 pm L cm (ints xs)) (ho : Rd w 12 p n c (wkCells own)) (ha : Rd w 12 q m d (wkCells all)) (hk : Rd w 1 pk np cp (ints picks)) (hbd : Bd picks)
    (hn : n ≤ 1000) (hm1 : m ≤ 999) (hL : L ≤ 100000) (hodd : oddF own all = false) (E : Int) (hRR : (runF at_ room picks 100000 xs own all (-1)).e = E) (he : E ≠ 0) :
    Calls Try.prog 27 #[.slice pm L cm, .int .i64 at_, .int .i64 room, .slice pk np cp, .slice p n c, .slice q m d] w (RunPost27 L n m ⟨E, xs, own, all⟩ w) := by
  have HM := Lib.hid hm
  have HO := Lib.hid ho
  have HA := Lib.hid ha
  have HK := Lib.hid hk
  have HBD := Lib.hid hbd
  have HODD := Lib.hid hodd
  have H1 := Lib.hid (ints_one xs)
  have H2 := Lib.hid (wk_one own)
  have H3 := Lib.hid (wk_one all)
  have HRR := Lib.hid hRR
  have HKB := Lib.hid (fun (a : Addr) (h : pk = some a) (h0 : 0 < np) => hk.lt (by decide) a h h0)
  have hz : (E == 0) = false := by simpa using he
  clear hm ho ha hodd hk hbd hRR
  go_enter Try.func27, Try.ntmps27
  go_wp2_with (go_at_call 39; go_must (refine (own39 p q n m c d own all _ HO.out HA.out hn (by omega)).mono ?_; rintro e w1 ⟨p1, c1, p2, c2, B, rfl, hb1, ho1, ha1, hap, hle⟩))
  refine (odd40 p1 p2 n m c1 c2 own all _ ((rd_fr_of_owns ho1 (Nat.le_refl _)).1.alloc _) ((rd_fr_of_owns ha1 (Nat.le_refl _)).1.alloc _) hn (by omega)).mono ?_
  rintro e w2 ⟨rfl, hb2⟩
  rw [HODD.out]
  have HC1 := Lib.hid (CrewAt.mk ho1 ha1 hap hle)
  have ht := ((Blk.new w1 68 #[.slice p1 n c1, .slice p2 m c2]).ext hb2)
  have htc := ht.cell
  have htl := ht.lt
  have hE2 := ext_trans (ext_alloc hb1 (.cells #[.slice p1 n c1, .slice p2 m c2] 68)) hb2
  have hp1 : ∀ a, p1 = some a → a.block < w1.heap.size := fun a ha => by subst ha; exact (ho1.lt _ rfl).2
  have hp2 : ∀ a, p2 = some a → a.block < w1.heap.size := fun a ha => by subst ha; exact (ha1.lt _ rfl).2
  have HP1 := Lib.hid hp1
  have HP2 := Lib.hid hp2
  clear ho1 ha1 hap hle hp1 hp2
  go_wp2_with fail
  go_region_with (first
    | (go_at_call 32; go_must (refine (clone_int pm L cm (ints xs) _ ?_ H1.out (by omega)).mono ?_; (· exact (HM.out.ext hE2).drew); rintro e w3 ⟨p3, c3, rfl, hb3, ho3⟩; have ht3 := (ht.drew.ext hb3); have ht3c := ht3.cell; have hE3 := ext_trans (ext_drew hE2) hb3; have hC3 := ((HC1.out.ext (ext_alloc (Below.refl _ _) _)).ext (ext_trans (ext_drew hb2) hb3)); have hr3 := rd_fr_of_owns ho3 (Nat.le_refl _)))
    | (go_at_call 41; go_must (refine (run41_err w.heap.size B p1 p2 pk n m c1 c2 np cp at_ room picks p3 L c3 xs own all _ hE3.size hC3 hr3.1 ?_ ?_ (HK.out.ext hE3) HKB.out HBD.out hn hm1 hL E he HRR.out).mono ?_; (· exact Dis.fresh hr3.2 (fun a ha => Nat.lt_of_lt_of_le (HP1.out a ha) (Nat.le_trans (Nat.le_of_lt htl) (Nat.le_refl _)))); (· exact Dis.fresh hr3.2 (fun a ha => Nat.lt_of_lt_of_le (HP2.out a ha) (Nat.le_trans (Nat.le_of_lt htl) (Nat.le_refl _)))); rintro e w4 ⟨rfl, hb4⟩)))
  all_goals
    have hE4 : Below w.heap.size w w4 := hE3.trans hb4
    clear htc ht3c
    go_wp2_with fail
    refine (clone_int pm L cm (ints xs) _ (HM.out.ext hE4) H1.out (by omega)).mono ?_
    rintro e w5 ⟨p5, c5, rfl, hb5, ho5⟩
    go_wp2_with fail
    refine (clone_wk p n c (wkCells own) _ ((HO.out.ext hE4).ext hb5) H2.out (by omega)).mono ?_
    rintro e w6 ⟨p6, c6, rfl, hb6, ho6⟩
    go_wp2_with fail
    refine (clone_wk q m d (wkCells all) _ (((HA.out.ext hE4).ext hb5).ext hb6) H3.out (by omega)).mono ?_
    rintro e w7 ⟨p7, c7, rfl, hb7, ho7⟩
    go_wp2_with fail
    refine bodyPost_ret (v := .tuple #[.slice p5 L c5, .slice p6 n c6, .slice p7 m c7, .int .i64 E]) (by simp [results, Try.results27, go_sem]) rfl ⟨p5, c5, p6, c6, p7, c7, rfl, ?_, ?_, ?_, ?_⟩
    · exact ext_trans (ext_trans (ext_trans hE4 hb5) hb6) hb7
    · exact ((rd_fr_of_owns ho5 (Nat.le_refl _)).1.ext hb6).ext hb7
    · exact (rd_fr_of_owns ho6 (Nat.le_refl _)).1.ext hb7
    · exact (rd_fr_of_owns ho7 (Nat.le_refl _)).1

theorem run27_any (pm p q pk : Option Addr) (L cm n c m d np cp : Nat) (at_ room : Int) (picks xs : List Int) (own all : List Wk) (w : World)
    (hm : Rd w 1 pm L cm (ints xs)) (ho : Rd w 12 p n c (wkCells own)) (ha : Rd w 12 q m d (wkCells all)) (hk : Rd w 1 pk np cp (ints picks)) (hbd : Bd picks)
    (hn : n ≤ 1000) (hm1 : m ≤ 999) (hL : L ≤ 100000) :
    Calls Try.prog 27 #[.slice pm L cm, .int .i64 at_, .int .i64 room, .slice pk np cp, .slice p n c, .slice q m d] w (RunPost27 L n m (dRunF at_ room picks xs own all) w) := by
  unfold dRunF
  by_cases h : oddF own all = true
  · rw [if_pos h]
    exact run27_odd pm p q pk L cm n c m d np cp at_ room xs own all w hm ho ha hn hm1 hL h
  · rw [if_neg h]
    have hf : oddF own all = false := by simpa using h
    by_cases he : (runF at_ room picks 100000 xs own all (-1)).e = 0
    · rw [if_neg (by simpa using he)]
      exact run27_ok pm p q pk L cm n c m d np cp at_ room picks xs own all w hm ho ha hk hbd hn hm1 hL hf _ rfl he
    · rw [if_pos he]
      exact run27_err pm p q pk L cm n c m d np cp at_ room picks xs own all w hm ho ha hk hbd hn hm1 hL hf _ rfl he

end Go.Proofs.Ytdnajckhnknlcaa

/-! The tasks that are in a deque: the program. -/
namespace Go.Proofs.Ytdnajckhnknlcaa
set_option linter.unusedVariables false
set_option linter.unusedSimpArgs false
open Go.RowKit

set_option maxHeartbeats 1000000 in
theorem tasks15_room (p : Option Addr) (L c : Nat) (at_ room : Int) (w : World) (hm : Hid (may room = false)) :
    Calls Try.prog 15 #[.slice p L c, .int .i64 at_, .int .i64 room] w fun e w' => e = .returned (.slice none 0 0) ∧ w = w' := by
  go_enter Try.func15, Try.ntmps15
  go_wp2_with (go_at_call 31; go_must (refine (may_f room _ hm.out).mono ?_; rintro e w2 ⟨rfl, rfl⟩))
  go_ret
  exact ⟨rfl, rfl⟩

set_option maxHeartbeats 1000000 in
theorem tasks15_at (p : Option Addr) (L c : Nat) (at_ room : Int) (w : World) (hr1 : 1 ≤ room) (hr2 : room ≤ 1000) (hL : L ≤ 100000) (h : at_ < 0) :
    Calls Try.prog 15 #[.slice p L c, .int .i64 at_, .int .i64 room] w fun e w' => e = .returned (.slice none 0 0) ∧ w = w' := by
  go_enter Try.func15, Try.ntmps15
  go_wp2_with (go_at_call 31; go_must (refine (may_t room _ (by omega) (by omega)).mono ?_; rintro e w2 ⟨rfl, rfl⟩))
  go_ret
  exact ⟨rfl, rfl⟩

set_option maxHeartbeats 1000000 in
theorem tasks15_far (p : Option Addr) (L c : Nat) (at_ room : Int) (w : World) (hr1 : 1 ≤ room) (hr2 : room ≤ 1000) (hL : L ≤ 100000) (h0 : 0 ≤ at_) (h : (L : Int) - room - 2 < at_) :
    Calls Try.prog 15 #[.slice p L c, .int .i64 at_, .int .i64 room] w fun e w' => e = .returned (.slice none 0 0) ∧ w = w' := by
  go_enter Try.func15, Try.ntmps15
  go_wp2_with (go_at_call 31; go_must (refine (may_t room _ (by omega) (by omega)).mono ?_; rintro e w2 ⟨rfl, rfl⟩))
  go_ret
  exact ⟨rfl, rfl⟩

set_option maxHeartbeats 1000000 in
theorem tasks15_neg (b off : Nat) (L c : Nat) (a r : Nat) (x : Int) (w : World) (hr1 : 1 ≤ r) (hr2 : r ≤ 1000) (hL : L ≤ 100000) (h : a + r + 2 ≤ L) (hx : w.cell? ⟨b, off + a, none⟩ = some (.int .i64 x)) (hx0 : x < 0) :
    Calls Try.prog 15 #[.slice (some ⟨b, off, none⟩) L c, .int .i64 a, .int .i64 r] w fun e w' => e = .returned (.slice none 0 0) ∧ w = w' := by
  have h1 : ¬ (L : Int) - (r : Int) - 2 < (a : Int) := by omega
  go_enter Try.func15, Try.ntmps15
  go_wp2_with (go_at_call 31; go_must (refine (may_t r _ (by omega) (by omega)).mono ?_; rintro e w2 ⟨rfl, rfl⟩))
  go_ret
  exact ⟨rfl, rfl⟩

set_option maxHeartbeats 4000000 in
theorem tasks15_go (p : Option Addr) (L c : Nat) (a r : Nat) (xs : List Int) (w : World) (hm : Rd w 1 p L c (ints xs)) (hr1 : 1 ≤ r) (hr2 : r ≤ 1000) (hL : L ≤ 100000) (h : a + r + 2 ≤ L) (hx0 : 0 ≤ xs.getD a 0)
    (hxh : xs.getD (a + 1) 0 ≤ 9223372036854775807) :
    Calls Try.prog 15 #[.slice p L c, .int .i64 a, .int .i64 r] w fun e w' => ∃ p' c', e = .returned (.slice p' (taskTo xs a r (min (xs.getD (a + 1) 0 - xs.getD a 0).toNat r)).length c') ∧ Below w.heap.size w w' ∧
      Rd w' 1 p' (taskTo xs a r (min (xs.getD (a + 1) 0 - xs.getD a 0).toNat r)).length c' (ints (taskTo xs a r (min (xs.getD (a + 1) 0 - xs.getD a 0).toNat r))) := by
  have hl : xs.length = L := by have := hm.len; rw [ints_len] at this; omega
  obtain ⟨b, off, rfl⟩ := hm.addr (by omega) (by decide)
  have hct := hm.cell a _ (ints_get xs a (by omega))
  have hcb := hm.cell (a + 1) _ (ints_get xs (a + 1) (by omega))
  have hbl := hm.lt (by decide) _ rfl (by omega)
  simp only at hbl
  rw [taskTo_len]
  obtain ⟨t, ht⟩ : ∃ t, Hid (xs.getD a 0 = t) := ⟨_, rfl⟩
  obtain ⟨u, hu⟩ : ∃ u, Hid (xs.getD (a + 1) 0 = u) := ⟨_, rfl⟩
  rw [ht.out] at hct hx0 ⊢
  rw [hu.out] at hcb hxh ⊢
  obtain ⟨K, hK⟩ : ∃ K, min (u - t).toNat r = K := ⟨_, rfl⟩
  rw [hK]
  have hKr : K ≤ r := by omega
  have HM := Lib.hid hm
  have HL := Lib.hid hl
  have HK := Lib.hid hK
  have h1 : ¬ (L : Int) - (r : Int) - 2 < (a : Int) := by omega
  have hcell := fun (k : Nat) => hm.cell (a + 2 + ((t + (k : Int)) % r).toNat) _ (ints_get xs (a + 2 + ((t + (k : Int)) % r).toNat) (by have h8 := Int.emod_nonneg (t + (k : Int)) (b := (r : Int)) (by omega); have h9 := Int.emod_lt_of_pos (t + (k : Int)) (b := (r : Int)) (by omega); omega))
  have HC := Lib.hid hcell
  clear hm hl hK hcell
  go_enter Try.func15, Try.ntmps15
  go_wp2_with (go_at_call 31; go_must (refine (may_t r _ (by omega) (by omega)).mono ?_; rintro e w2 ⟨rfl, rfl⟩))
  go_loopw [6, 7] (fun v i wr => ∃ k : Nat, k ≤ K ∧ i = .int .i64 (t + (k : Int)) ∧ wr.ownsRow w.heap.size 3 1 v k (ints (taskTo xs a r k)) ∧ Below w.heap.size w wr) (fun _ i _ => K - (intOf i - t).toNat)
  case atStart => exact ⟨0, Nat.zero_le _, by simp, World.ownsRow_nil _ _ _ _, Below.refl _ _⟩
  case round =>
    obtain ⟨k, hk, rfl, HO, HW⟩ := hrel
    have hct2 : wr.cell? ⟨b, off + a, none⟩ = some (.int .i64 t) := by rw [HW.cell (p := ⟨b, off + a, none⟩) hbl]; exact hct
    have hcb2 : wr.cell? ⟨b, off + (a + 1), none⟩ = some (.int .i64 u) := by rw [HW.cell (p := ⟨b, off + (a + 1), none⟩) hbl]; exact hcb
    obtain ⟨pv, cv, rfl, hR, _⟩ := Rd.of_owns HO
    have HO2 := Lib.hid HO
    clear HO hct hcb
    have hkr : k ≤ r := by omega
    by_cases hlt : k < K
    · have hKe := HK.out
      have hku : t + (k : Int) < u := by omega
      have hkr2 : k < r := by omega
      obtain ⟨j, hj⟩ : ∃ j : Nat, (t + (k : Int)) % r = j := ⟨((t + (k : Int)) % r).toNat, by have := Int.emod_nonneg (t + (k : Int)) (b := (r : Int)) (by omega); omega⟩
      have hjr : j < r := by have := Int.emod_lt_of_pos (t + (k : Int)) (b := (r : Int)) (by omega); omega
      have hcj : wr.cell? ⟨b, off + (a + 2 + j), none⟩ = some (.int .i64 (taskAt xs a r (t + (k : Int)))) := by
        rw [HW.cell (p := ⟨b, off + (a + 2 + j), none⟩) hbl]
        have := HC.out k
        unfold taskAt
        rw [hj] at this ⊢
        exact this
      have hjT : (t + (k : Int)).tmod r = j := by rw [Int.tmod_eq_emod_of_nonneg (by omega)]; exact hj
      obtain ⟨y, hy⟩ : ∃ y, Hid (taskAt xs a r (t + (k : Int)) = y) := ⟨_, rfl⟩
      rw [hy.out] at hcj
      have hs := taskTo_succ xs a r k
      rw [ht.out, hy.out] at hs
      have HS := Lib.hid hs
      clear hs hR hKe
      go_wp2_with (at_builtin; go_must (refine wpList_append_rd _ rfl (.tmp 50) (.tmp 60) 22 rfl w.heap.size 3 (.int .i64 0) 1 8 Try.underlying22 info_3 rfl (by decide) _ k _ rfl (HO2.out.alloc _) (some ⟨wr.heap.size, 0, none⟩) 1 1 [.int .i64 y] rfl (rd_one wr 3 _) (by simp [Value.oneCell']) (by unfold maxLen; omega) (by omega) (by have := HW.size; simp; omega) ?_))
      intro v' w1 hown1 hg1 _
      have HE := Lib.hid (owns_grown (HO2.out.alloc (.cells #[.int .i64 y] 3)) (ext_alloc HW _) hg1 (Nat.le_refl _) (by have := HW.size; simp; omega))
      have HO3 := Lib.hid hown1
      clear hown1 hg1
      go_wp2_with fail
      go_roundw
      case rel => exact ⟨k + 1, by omega, by go_num, by rw [HS.out]; have := HO3.out; simpa [ints] using this, HE.out⟩
      case measure => simp [intOf]; omega
    · have hkK : k = K := by omega
      subst hkK
      have hKe := HK.out
      by_cases hku : t + (k : Int) < u
      · have hkr2 : k = r := by omega
        subst hkr2
        clear hKe hlt
        go_wp2_with fail
        go_ret
        exact ⟨pv, cv, rfl, HW, hR⟩
      · clear hKe hlt
        go_wp2_with fail
        go_ret
        exact ⟨pv, cv, rfl, HW, hR⟩

theorem tasks15_any (p : Option Addr) (L c : Nat) (at_ room : Int) (xs : List Int) (w : World) (hm : Rd w 1 p L c (ints xs)) (hL : L ≤ 100000) (hbd : Bd xs) :
    Calls Try.prog 15 #[.slice p L c, .int .i64 at_, .int .i64 room] w fun e w' => ∃ p' c', e = .returned (.slice p' (tasksF xs at_ room).length c') ∧ Below w.heap.size w w' ∧ Rd w' 1 p' (tasksF xs at_ room).length c' (ints (tasksF xs at_ room)) := by
  have hl : xs.length = L := by have := hm.len; rw [ints_len] at this; omega
  have nilr : ∀ (e : Ending) (w' : World), (e = .returned (.slice none 0 0) ∧ w = w') → ∃ p' c', e = .returned (.slice p' ([] : List Int).length c') ∧ Below w.heap.size w w' ∧ Rd w' 1 p' ([] : List Int).length c' (ints []) := by
    rintro e w' ⟨rfl, rfl⟩
    exact ⟨none, 0, rfl, Below.refl _ _, Rd.nil' _ _⟩
  by_cases h1 : may room = false
  · have e : tasksF xs at_ room = [] := by unfold tasksF; rw [if_pos (.inl h1)]
    rw [e]; exact (tasks15_room p L c at_ room w h1).mono nilr
  · have hmt : may room = true := by simpa using h1
    simp only [may, Bool.and_eq_true, decide_eq_true_eq] at hmt
    obtain ⟨hr1, hr2⟩ := hmt
    by_cases h2 : at_ < 0
    · have e : tasksF xs at_ room = [] := by unfold tasksF; rw [if_pos (.inr (.inl h2))]
      rw [e]; exact (tasks15_at p L c at_ room w hr1 hr2 hL h2).mono nilr
    · by_cases h3 : (xs.length : Int) - room - 2 < at_
      · have e : tasksF xs at_ room = [] := by unfold tasksF; rw [if_pos (.inr (.inr (.inl h3)))]
        rw [e]; exact (tasks15_far p L c at_ room w hr1 hr2 hL (by omega) (by omega)).mono nilr
      · obtain ⟨a, rfl⟩ := Int.eq_ofNat_of_zero_le (show 0 ≤ at_ by omega)
        obtain ⟨r, rfl⟩ := Int.eq_ofNat_of_zero_le (show 0 ≤ room by omega)
        by_cases h4 : xs.getD a 0 < 0
        · have e : tasksF xs a r = [] := by unfold tasksF; rw [if_pos (.inr (.inr (.inr (by simpa using h4))))]
          rw [e]
          obtain ⟨b, off, rfl⟩ := hm.addr (by omega) (by decide)
          exact (tasks15_neg b off L c a r _ w (by omega) (by omega) hL (by omega) (hm.cell a _ (ints_get xs a (by omega))) h4).mono nilr
        · have e : tasksF xs a r = taskTo xs a r (min (xs.getD (a + 1) 0 - xs.getD a 0).toNat r) := by
            unfold tasksF
            rw [if_neg (by rw [Int.toNat_natCast]; rintro (h | h | h | h); exact h1 h; exact h2 h; exact h3 h; exact h4 h)]
            simp
          rw [e]
          exact tasks15_go p L c a r xs w hm (by omega) (by omega) hL (by omega) (by omega) (hbd (a + 1) (by omega)).2

end Go.Proofs.Ytdnajckhnknlcaa

/-! What the first runs of a law come to. -/
namespace Go.Proofs.Ytdnajckhnknlcaa
set_option linter.unusedVariables false
set_option linter.unusedSimpArgs false
open Go.RowKit

deriving instance DecidableEq for RunR
deriving instance DecidableEq for StR

/-- The same run, by few steps. -/
def runN (at_ room : Int) (picks : List Int) : Nat → Nat → List Int → List Wk → List Wk → Int → Option RunR
  | 0, _, _, _, _, _ => none
  | k + 1, step, xs, own, all, last =>
    let i := nextF picks step (leftF own all) last
    if i < 0 then some ⟨0, xs, own, all⟩
    else
      let s := stepF xs at_ room (pickW own all i)
      if s.e ≠ 0 then some ⟨s.e, xs, own, all⟩ else runN at_ room picks k (step + 1) s.xs (putO own i s.x) (putT all i s.x) i

theorem runN_runF (at_ room : Int) (picks : List Int) (k : Nat) : ∀ (step f : Nat) (xs : List Int) (own all : List Wk) (last : Int) (R : RunR), step + f = 100000 → k ≤ f →
    runN at_ room picks k step xs own all last = some R → runF at_ room picks f xs own all last = R := by
  induction k with
  | zero => intro step f xs own all last R _ _ h; cases h
  | succ k ih =>
    intro step f xs own all last R h hk hR
    obtain ⟨f, rfl⟩ : ∃ g, f = g + 1 := ⟨f - 1, by omega⟩
    unfold runN at hR
    unfold runF
    rw [show 100000 - (f + 1) = step by omega]
    dsimp only at hR ⊢
    split at hR
    · rename_i h0; rw [if_pos h0]; exact Option.some.inj hR
    · rename_i h0; rw [if_neg h0]
      split at hR
      · rename_i h1; rw [if_pos h1]; exact Option.some.inj hR
      · rename_i h1; rw [if_neg h1]; exact ih _ _ _ _ _ _ _ (by omega) (by omega) hR

theorem dRunF_of (at_ room : Int) (picks xs : List Int) (own all : List Wk) (k : Nat) (R : RunR) (ho : oddF own all = false) (hk : k ≤ 100000) (h : runN at_ room picks k 0 xs own all (-1) = some R) (he : R.e = 0) :
    dRunF at_ room picks xs own all = R := by
  have := runN_runF at_ room picks k 0 100000 xs own all (-1) R (by omega) hk h
  unfold dRunF
  rw [if_neg (by rw [ho]; decide), this, if_neg (by rw [he]; decide)]

end Go.Proofs.Ytdnajckhnknlcaa

/-! What the first runs of a law come to: their values. -/
namespace Go.Proofs.Ytdnajckhnknlcaa
set_option linter.unusedVariables false
set_option linter.unusedSimpArgs false
open Go.RowKit

def awA : List Wk := [⟨3, 7, 7, 0, 0, 0, 0, 0, 0, 0, true, 7⟩, ⟨3, 7, 8, 1, 0, 0, 0, 0, 0, 0, true, 8⟩, ⟨3, 6, 0, 1, 0, 8, 0, 0, 0, 0, true, 8⟩]
def awB : List Wk := [⟨5, 6, 0, 0, 0, 7, 0, 0, 0, 0, true, 7⟩, ⟨5, 6, 0, 0, 1, 0, 0, 0, 0, 0, true, -1⟩]
def awC : List Wk := [⟨1, 5, 0, 0, 0, 0, 0, 0, 0, 0, true, -1⟩]

theorem awake_one : dRunF 0 2 [] [0, 0, 0, 0] [giveF 7, giveF 8, takeF] [] = ⟨0, [0, 1, 7, 8], awA, []⟩ :=
  dRunF_of 0 2 [] _ _ _ 50 _ (by decide +kernel) (by decide) (by decide +kernel) rfl
theorem awake_two : dRunF 0 2 [] [0, 1, 7, 8] [takeF, takeF] [stealF] = ⟨0, [1, 1, 7, 8], awB, awC⟩ :=
  dRunF_of 0 2 [] _ _ _ 50 _ (by decide +kernel) (by decide) (by decide +kernel) rfl
theorem awake_tasks : tasksF [0, 1, 7, 8] 0 2 = [7] := by decide +kernel
theorem awake_none : tasksF [1, 1, 7, 8] 0 2 = [] := by decide +kernel
theorem awake_step : stepF [0, 1, 7, 8] 0 2 EMPTY = ⟨1, [0, 1, 7, 8], EMPTY⟩ := by decide +kernel

end Go.Proofs.Ytdnajckhnknlcaa

/-! A slice of workers, laid. -/
namespace Go.Proofs.Ytdnajckhnknlcaa
set_option linter.unusedVariables false
set_option linter.unusedSimpArgs false
open Go.RowKit

/-- The world with a row of workers more. -/
def wkRow (w : World) (ws : List Wk) : World := w.alloc (.cells (wkCells ws).toArray 25)

theorem run_ws1 (x : Wk) (w : World) : (Instr.buildSlice 28 1 #[(0, x.v)]).run Try.prog w = .ok (.slice (some ⟨w.heap.size, 0, none⟩) 1 1) (wkRow w [x]) := by kernel_rfl
theorem run_ws2 (x y : Wk) (w : World) : (Instr.buildSlice 28 2 #[(0, x.v), (1, y.v)]).run Try.prog w = .ok (.slice (some ⟨w.heap.size, 0, none⟩) 2 2) (wkRow w [x, y]) := by kernel_rfl
theorem run_ws3 (x y z : Wk) (w : World) : (Instr.buildSlice 28 3 #[(0, x.v), (1, y.v), (2, z.v)]).run Try.prog w = .ok (.slice (some ⟨w.heap.size, 0, none⟩) 3 3) (wkRow w [x, y, z]) := by kernel_rfl
theorem run_ws4 (x y z u : Wk) (w : World) : (Instr.buildSlice 28 4 #[(0, x.v), (1, y.v), (2, z.v), (3, u.v)]).run Try.prog w = .ok (.slice (some ⟨w.heap.size, 0, none⟩) 4 4) (wkRow w [x, y, z, u]) := by kernel_rfl

theorem wkRow_below (w : World) (ws : List Wk) : Below w.heap.size w (wkRow w ws) := ext_alloc (Below.refl _ _) _
theorem wkRow_rd (w : World) (ws : List Wk) (n : Nat) (h : ws.length = n) (hn : n ≤ 1000) : Rd (wkRow w ws) 12 (some ⟨w.heap.size, 0, none⟩) n n (wkCells ws) := by
  have hb : Blk (wkRow w ws) w.heap.size 25 (wkCells ws).toArray := Blk.new w 25 _
  refine ⟨by rw [wkCells_len, h], Nat.le_refl _, by unfold maxLen; omega, by simp, fun a ha j u hj => ?_⟩
  cases ha
  have := hb.cell j
  have e : (Addr.add ⟨w.heap.size, 0, none⟩ j) = ⟨w.heap.size, j, none⟩ := by cases j <;> simp [Addr.add]
  rw [e, this]; simpa using hj

theorem wpList_ws1 (w : World) {OPS : Array Oper} {rest : List Oper} {o : Oper} {a : Act} {Q : Exit → Act → World → Prop}
    (hg : o.guard = none) (o0 : Operand) (hop : o.op = Op.buildSlice 28 1 #[(0, o0)]) (x : Wk) (h0 : a.eval o0 = x.v)
    (hK : ∀ w', Below w.heap.size w w' → Rd w' 12 (some ⟨w.heap.size, 0, none⟩) 1 1 (wkCells [x]) → wpList Try.prog OPS Q rest (a.put o.dst (.slice (some ⟨w.heap.size, 0, none⟩) 1 1)) w') :
    wpList Try.prog OPS Q (o :: rest) a w := by
  refine wpList_plain hg fun K hK' => ?_
  unfold Oper.wp
  have hrun := run_ws1 x w
  simp [execOp, hop, h0, hrun, Result.andThen]
  exact hK' _ _ (hK _ (wkRow_below w _) (wkRow_rd w _ 1 rfl (by decide)))

theorem wpList_ws2 (w : World) {OPS : Array Oper} {rest : List Oper} {o : Oper} {a : Act} {Q : Exit → Act → World → Prop}
    (hg : o.guard = none) (o0 o1 : Operand) (hop : o.op = Op.buildSlice 28 2 #[(0, o0), (1, o1)]) (x y : Wk) (h0 : a.eval o0 = x.v) (h1 : a.eval o1 = y.v)
    (hK : ∀ w', Below w.heap.size w w' → Rd w' 12 (some ⟨w.heap.size, 0, none⟩) 2 2 (wkCells [x, y]) → wpList Try.prog OPS Q rest (a.put o.dst (.slice (some ⟨w.heap.size, 0, none⟩) 2 2)) w') :
    wpList Try.prog OPS Q (o :: rest) a w := by
  refine wpList_plain hg fun K hK' => ?_
  unfold Oper.wp
  have hrun := run_ws2 x y w
  simp [execOp, hop, h0, h1, hrun, Result.andThen]
  exact hK' _ _ (hK _ (wkRow_below w _) (wkRow_rd w _ 2 rfl (by decide)))

theorem wpList_ws3 (w : World) {OPS : Array Oper} {rest : List Oper} {o : Oper} {a : Act} {Q : Exit → Act → World → Prop}
    (hg : o.guard = none) (o0 o1 o2 : Operand) (hop : o.op = Op.buildSlice 28 3 #[(0, o0), (1, o1), (2, o2)]) (x y z : Wk) (h0 : a.eval o0 = x.v) (h1 : a.eval o1 = y.v) (h2 : a.eval o2 = z.v)
    (hK : ∀ w', Below w.heap.size w w' → Rd w' 12 (some ⟨w.heap.size, 0, none⟩) 3 3 (wkCells [x, y, z]) → wpList Try.prog OPS Q rest (a.put o.dst (.slice (some ⟨w.heap.size, 0, none⟩) 3 3)) w') :
    wpList Try.prog OPS Q (o :: rest) a w := by
  refine wpList_plain hg fun K hK' => ?_
  unfold Oper.wp
  have hrun := run_ws3 x y z w
  simp [execOp, hop, h0, h1, h2, hrun, Result.andThen]
  exact hK' _ _ (hK _ (wkRow_below w _) (wkRow_rd w _ 3 rfl (by decide)))

theorem wpList_ws4 (w : World) {OPS : Array Oper} {rest : List Oper} {o : Oper} {a : Act} {Q : Exit → Act → World → Prop}
    (hg : o.guard = none) (o0 o1 o2 o3 : Operand) (hop : o.op = Op.buildSlice 28 4 #[(0, o0), (1, o1), (2, o2), (3, o3)]) (x y z u : Wk) (h0 : a.eval o0 = x.v) (h1 : a.eval o1 = y.v) (h2 : a.eval o2 = z.v) (h3 : a.eval o3 = u.v)
    (hK : ∀ w', Below w.heap.size w w' → Rd w' 12 (some ⟨w.heap.size, 0, none⟩) 4 4 (wkCells [x, y, z, u]) → wpList Try.prog OPS Q rest (a.put o.dst (.slice (some ⟨w.heap.size, 0, none⟩) 4 4)) w') :
    wpList Try.prog OPS Q (o :: rest) a w := by
  refine wpList_plain hg fun K hK' => ?_
  unfold Oper.wp
  have hrun := run_ws4 x y z u w
  simp [execOp, hop, h0, h1, h2, h3, hrun, Result.andThen]
  exact hK' _ _ (hK _ (wkRow_below w _) (wkRow_rd w _ 4 rfl (by decide)))

end Go.Proofs.Ytdnajckhnknlcaa

/-! The first calls of a law, one by one. -/
namespace Go.Proofs.Ytdnajckhnknlcaa
set_option linter.unusedVariables false
set_option linter.unusedSimpArgs false
open Go.RowKit

theorem new_two (w : World) : Calls Try.prog 17 #[.int .i64 2] w fun e w' => ∃ p c, e = .returned (.slice p 4 c) ∧ Below w.heap.size w w' ∧ Rd w' 1 p 4 c (ints [0, 0, 0, 0]) := by
  refine (new_17 2 w (by decide) (by decide)).mono ?_
  rintro e w1 ⟨p, c, rfl, HB, hm⟩
  exact ⟨p, c, rfl, HB, (rd_fr_of_owns hm (Nat.le_refl _)).1⟩

theorem bd_nil : Bd [] := fun i h => by cases h
theorem rd_nilw (w : World) : Rd w 12 none 0 0 (wkCells []) := Rd.nil' _ _
theorem rd_nili (w : World) : Rd w 1 none 0 0 (ints []) := Rd.nil' _ _

theorem run_one (p q : Option Addr) (c d : Nat) (w : World) (hm : Rd w 1 p 4 c (ints [0, 0, 0, 0])) (ho : Rd w 12 q 3 d (wkCells [giveF 7, giveF 8, takeF])) :
    Calls Try.prog 27 #[.slice p 4 c, .int .i64 0, .int .i64 2, .slice none 0 0, .slice q 3 d, .slice none 0 0] w fun e w' =>
      ∃ p1 c1 p2 c2 p3 c3, e = .returned (.tuple #[.slice p1 4 c1, .slice p2 3 c2, .slice p3 0 c3, .int .i64 0]) ∧ Below w.heap.size w w' ∧ Rd w' 1 p1 4 c1 (ints [0, 1, 7, 8]) ∧ Rd w' 12 p2 3 c2 (wkCells awA) := by
  refine (run27_any p q none none 4 c 3 d 0 0 0 0 0 2 [] _ _ [] w hm ho (rd_nilw w) (rd_nili w) bd_nil (by decide) (by decide) (by decide)).mono ?_
  rw [awake_one]
  rintro e w' ⟨p1, c1, p2, c2, p3, c3, rfl, h1, h2, h3, _⟩
  exact ⟨p1, c1, p2, c2, p3, c3, rfl, h1, h2, h3⟩

theorem run_two (p q r : Option Addr) (c d f : Nat) (w : World) (hm : Rd w 1 p 4 c (ints [0, 1, 7, 8])) (ho : Rd w 12 q 2 d (wkCells [takeF, takeF])) (ha : Rd w 12 r 1 f (wkCells [stealF])) :
    Calls Try.prog 27 #[.slice p 4 c, .int .i64 0, .int .i64 2, .slice none 0 0, .slice q 2 d, .slice r 1 f] w fun e w' =>
      ∃ p1 c1 p2 c2 p3 c3, e = .returned (.tuple #[.slice p1 4 c1, .slice p2 2 c2, .slice p3 1 c3, .int .i64 0]) ∧ Below w.heap.size w w' ∧ Rd w' 1 p1 4 c1 (ints [1, 1, 7, 8]) ∧ Rd w' 12 p2 2 c2 (wkCells awB) ∧ Rd w' 12 p3 1 c3 (wkCells awC) := by
  refine (run27_any p q r none 4 c 2 d 1 f 0 0 0 2 [] _ _ _ w hm ho ha (rd_nili w) bd_nil (by decide) (by decide) (by decide)).mono ?_
  rw [awake_two]
  exact fun e w' h => h

theorem step_zero (p : Option Addr) (c : Nat) (w : World) (hm : Rd w 1 p 4 c (ints [0, 1, 7, 8])) :
    Calls Try.prog 12 #[.slice p 4 c, .int .i64 0, .int .i64 2, EMPTY.v] w fun e w' =>
      ∃ p1 c1, e = .returned (.tuple #[.slice p1 4 c1, .agg #[.int .i64 0, .int .i64 0, .int .i64 0, .int .i64 0, .int .i64 0, .int .i64 0, .int .i64 0, .int .i64 0, .int .i64 0, .int .i64 0, .bool false, .int .i64 0], .int .i64 1]) ∧ Below w.heap.size w w' := by
  refine (dstep_any p c [0, 1, 7, 8] 0 2 EMPTY w hm (by decide)).mono ?_
  rw [awake_step]
  rintro e w' ⟨p1, c1, rfl, h1, _⟩
  exact ⟨p1, c1, rfl, h1⟩

theorem tasks_one (p : Option Addr) (c : Nat) (w : World) (hm : Rd w 1 p 4 c (ints [0, 1, 7, 8])) :
    Calls Try.prog 15 #[.slice p 4 c, .int .i64 0, .int .i64 2] w fun e w' => ∃ p' c', e = .returned (.slice p' 1 c') ∧ Below w.heap.size w w' ∧ Rd w' 1 p' 1 c' (ints [7]) := by
  refine (tasks15_any p 4 c 0 2 _ w hm (by decide) (by intro i hi; rcases i with _ | _ | _ | _ | i <;> simp at hi ⊢ <;> omega)).mono ?_
  rw [awake_tasks]
  exact fun e w' h => h

theorem tasks_none (p : Option Addr) (c : Nat) (w : World) (hm : Rd w 1 p 4 c (ints [1, 1, 7, 8])) :
    Calls Try.prog 15 #[.slice p 4 c, .int .i64 0, .int .i64 2] w fun e w' => ∃ p' c', e = .returned (.slice p' 0 c') ∧ Below w.heap.size w w' := by
  refine (tasks15_any p 4 c 0 2 _ w hm (by decide) (by intro i hi; rcases i with _ | _ | _ | _ | i <;> simp at hi ⊢ <;> omega)).mono ?_
  rw [awake_none]
  rintro e w' ⟨p1, c1, rfl, h1, _⟩
  exact ⟨p1, c1, rfl, h1⟩

end Go.Proofs.Ytdnajckhnknlcaa
