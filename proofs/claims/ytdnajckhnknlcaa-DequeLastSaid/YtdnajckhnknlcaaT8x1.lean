/-
  What this law needs beside the contracts, part 1.
-/
import Derived.Test.YtdnajckhnknlcaaR14

/-! A deque in plain Lean: what is in it, and what each step of a worker comes to. -/
namespace Go.Proofs.Ytdnajckhnknlcaa
set_option linter.unusedVariables false
set_option linter.unusedSimpArgs false
open Go.RowKit

/-- What stands at the place of n. -/
def cellN (xs : List Int) (r n : Nat) : Int := xs.getD (2 + n % r) 0
/-- What is in a deque from the t-th on to below the b-th. -/
def conts (xs : List Int) (r t b : Nat) : List Int := (List.range' t (b - t)).map (cellN xs r)

theorem conts_len (xs : List Int) (r t b : Nat) : (conts xs r t b).length = b - t := by simp [conts]
theorem conts_nil (xs : List Int) (r t b : Nat) (h : b ≤ t) : conts xs r t b = [] := by
  unfold conts; rw [show b - t = 0 by omega]; rfl
theorem conts_snoc (xs : List Int) (r t b : Nat) (h : t ≤ b) : conts xs r t (b + 1) = conts xs r t b ++ [cellN xs r b] := by
  unfold conts
  rw [show b + 1 - t = (b - t) + 1 by omega, List.range'_concat, List.map_append]
  simp only [List.map_cons, List.map_nil, Nat.one_mul]
  rw [show t + (b - t) = b by omega]
theorem conts_cons (xs : List Int) (r t b : Nat) (h : t < b) : conts xs r t b = cellN xs r t :: conts xs r (t + 1) b := by
  unfold conts
  rw [show b - t = (b - (t + 1)) + 1 by omega, List.range'_succ]; rfl
theorem conts_congr (xs ys : List Int) (r t b : Nat) (h : ∀ n, t ≤ n → n < b → cellN xs r n = cellN ys r n) : conts xs r t b = conts ys r t b := by
  unfold conts
  apply List.map_congr_left
  intro n hn
  rw [List.mem_range'_1] at hn
  exact h n hn.1 (by omega)

theorem getD_set_self (xs : List Int) (k : Nat) (v : Int) (h : k < xs.length) : (xs.set k v).getD k 0 = v := by
  simp [List.getD_eq_getElem?_getD, h]
theorem getD_set_ne (xs : List Int) (k j : Nat) (v : Int) (h : k ≠ j) : (xs.set k v).getD j 0 = xs.getD j 0 := by
  simp [List.getD_eq_getElem?_getD, List.getElem?_set_ne h]

theorem cellN_head (xs : List Int) (r n k : Nat) (v : Int) (h : k < 2) : cellN (xs.set k v) r n = cellN xs r n := getD_set_ne _ _ _ _ (by omega)
theorem cellN_self (xs : List Int) (r n : Nat) (v : Int) (hr : 1 ≤ r) (hl : xs.length = r + 2) : cellN (xs.set (2 + n % r) v) r n = v :=
  getD_set_self _ _ _ (by have := Nat.mod_lt n (show 0 < r by omega); omega)
theorem cellN_ne (xs : List Int) (r n m : Nat) (v : Int) (h1 : m < n) (h2 : n < m + r) : cellN (xs.set (2 + n % r) v) r m = cellN xs r m := by
  refine getD_set_ne _ _ _ _ ?_
  intro e
  have e2 : n % r = m % r := by omega
  have := Nat.sub_mod_eq_zero_of_mod_eq e2
  rw [Nat.mod_eq_of_lt (by omega)] at this
  omega

theorem wrap64_id (n : Int) (h1 : -9223372036854775808 ≤ n) (h2 : n ≤ 9223372036854775807) : wrap64 n = n := by
  unfold wrap64; omega

theorem placeF_nat (r n : Nat) (hr1 : 1 ≤ r) (hr2 : r ≤ 1000) : placeF 0 r (n : Int) = ((2 + n % r : Nat) : Int) := by
  have h := Nat.mod_lt n (show 0 < r by omega)
  unfold placeF
  rw [if_neg (by omega), wrap64_id (0 + 2) (by omega) (by omega), show ((n : Int) % (r : Int)) = ((n % r : Nat) : Int) by omega, wrap64_id _ (by omega) (by omega)]
  omega

theorem doF_load (xs : List Int) (k : Nat) (o n at_ : Int) (ha : at_ = (k : Int)) (h : k < xs.length) : doF xs 1 at_ o n = ⟨0, xs, xs.getD k 0, true⟩ := by
  subst ha
  unfold doF
  rw [if_neg (by omega), if_neg (by simp), if_pos rfl]; rfl
theorem within_ok (n : Int) (h1 : -1000000000 ≤ n) (h2 : n ≤ 1000000000) : within n = true := by
  unfold within; simp; omega
theorem doF_write (xs : List Int) (k : Nat) (o n at_ : Int) (ha : at_ = (k : Int)) (h : k < xs.length) (h1 : -1000000000 ≤ n) (h2 : n ≤ 1000000000) : doF xs 2 at_ o n = ⟨0, xs.set k n, xs.getD k 0, true⟩ := by
  subst ha
  unfold doF
  rw [if_neg (by omega), if_neg (by rw [within_ok n h1 h2]; simp), if_neg (by decide), if_neg (by simp)]; rfl
theorem doF_swap_yes (xs : List Int) (k : Nat) (o n at_ : Int) (ha : at_ = (k : Int)) (h : k < xs.length) (h1 : -1000000000 ≤ n) (h2 : n ≤ 1000000000) (he : xs.getD k 0 = o) : doF xs 3 at_ o n = ⟨0, xs.set k n, xs.getD k 0, true⟩ := by
  subst ha
  unfold doF
  rw [if_neg (by omega), if_neg (by rw [within_ok n h1 h2]; simp), if_neg (by decide), if_neg (fun hh => hh.2 he)]; rfl
theorem doF_swap_no (xs : List Int) (k : Nat) (o n at_ : Int) (ha : at_ = (k : Int)) (h : k < xs.length) (h1 : -1000000000 ≤ n) (h2 : n ≤ 1000000000) (he : xs.getD k 0 ≠ o) : doF xs 3 at_ o n = ⟨0, xs, xs.getD k 0, false⟩ := by
  subst ha
  unfold doF
  rw [if_neg (by omega), if_neg (by rw [within_ok n h1 h2]; simp), if_neg (by decide), if_pos ⟨rfl, he⟩]; rfl

/-- Words of a deque at the place 0. -/
structure Dq (xs : List Int) (r : Nat) : Prop where
  one : 1 ≤ r
  top : r ≤ 1000
  len : xs.length = r + 2

theorem Dq.place {xs : List Int} {r : Nat} (h : Dq xs r) (n : Nat) : 2 + n % r < xs.length := by
  have := Nat.mod_lt n (show 0 < r from h.one); have := h.len; omega

theorem st_any {xs : List Int} {r : Nat} (h : Dq xs r) {x : Wk} (hd : x.done = false) (k a o n : Int) (ys : List Int) (y : Int) (b : Bool) (x' : Wk) (ha : accF 0 r x = some (k, a, o, n)) (hdo : doF xs k a o n = ⟨0, ys, y, b⟩) (hb : behF x ⟨0, ys, y, b⟩ r = x') :
    stepF xs 0 r x = ⟨0, ys, x'⟩ := by
  rw [stepF_some xs 0 r x k a o n (by have := h.one; omega) (by have := h.top; omega) (by decide) hd ha, hdo]
  simp [hb]

theorem w1 : wrap64 1 = 1 := wrap64_id 1 (by decide) (by decide)

theorem st_give0 {xs : List Int} {r : Nat} (h : Dq xs r) {x : Wk} (hd : x.done = false) (hj : x.job = 7) (hp : x.pc = 0) :
    stepF xs 0 r x = ⟨0, xs, { x with r1 := xs.getD 1 0, pc := 1 }⟩ :=
  st_any h hd 1 1 0 0 _ _ _ _ (by simp [accF, hj, hp, w1]) (doF_load xs 1 0 0 1 rfl (by have := h.len; omega)) (by simp [behF, hj, hp])
theorem st_give1_full {xs : List Int} {r : Nat} (h : Dq xs r) {x : Wk} (hd : x.done = false) (hj : x.job = 7) (hp : x.pc = 1) (t b : Nat) (h1 : x.r1 = b) (ht : xs.getD 0 0 = t) (hc : b ≤ 1000000) (hc2 : t ≤ 1000000) (hf : t + r ≤ b) :
    stepF xs 0 r x = ⟨0, xs, { x with r2 := xs.getD 0 0, done := true, out := -1 }⟩ :=
  st_any h hd 1 0 0 0 _ _ _ _ (by simp [accF, hj, hp]) (doF_load xs 0 0 0 0 rfl (by have := h.len; omega)) (by
    have hif : (r : Int) ≤ wrap64 (x.r1 - xs.getD 0 0) := by rw [wrap64_id _ (by omega) (by omega)]; omega
    simp only [behF, hj, hp, Int.reduceEq, ↓reduceIte, hif])
theorem st_give1_ok {xs : List Int} {r : Nat} (h : Dq xs r) {x : Wk} (hd : x.done = false) (hj : x.job = 7) (hp : x.pc = 1) (t b : Nat) (h1 : x.r1 = b) (ht : xs.getD 0 0 = t) (hc : b ≤ 1000000) (hc2 : t ≤ 1000000) (hf : b < t + r) :
    stepF xs 0 r x = ⟨0, xs, { x with r2 := xs.getD 0 0, pc := 2 }⟩ :=
  st_any h hd 1 0 0 0 _ _ _ _ (by simp [accF, hj, hp]) (doF_load xs 0 0 0 0 rfl (by have := h.len; omega)) (by
    have hif : ¬ (r : Int) ≤ wrap64 (x.r1 - xs.getD 0 0) := by rw [wrap64_id _ (by omega) (by omega)]; omega
    simp only [behF, hj, hp, Int.reduceEq, ↓reduceIte, hif])
theorem st_give2 {xs : List Int} {r : Nat} (h : Dq xs r) {x : Wk} (hd : x.done = false) (hj : x.job = 7) (hp : x.pc = 2) (b : Nat) (h1 : x.r1 = b) (h0 : -1000000000 ≤ x.r0) (h2 : x.r0 ≤ 1000000000) :
    stepF xs 0 r x = ⟨0, xs.set (2 + b % r) x.r0, { x with pc := 3 }⟩ :=
  st_any h hd 2 ((2 + b % r : Nat) : Int) 0 x.r0 _ _ _ _ (by simp [accF, hj, hp, h1, placeF_nat r b h.one h.top]) (doF_write xs (2 + b % r) 0 x.r0 _ rfl (h.place b) h0 h2) (by simp [behF, hj, hp])
theorem st_give3 {xs : List Int} {r : Nat} (h : Dq xs r) {x : Wk} (hd : x.done = false) (hj : x.job = 7) (hp : x.pc = 3) (b : Nat) (h1 : x.r1 = b) (hc : b ≤ 1000000) :
    stepF xs 0 r x = ⟨0, xs.set 1 ((b + 1 : Nat) : Int), { x with done := true, out := x.r0 }⟩ :=
  st_any h hd 2 1 0 ((b + 1 : Nat) : Int) _ _ _ _ (by simp [accF, hj, hp, h1, w1]; exact wrap64_id _ (by omega) (by omega)) (doF_write xs 1 0 _ 1 rfl (by have := h.len; omega) (by omega) (by omega)) (by simp [behF, hj, hp])

theorem st_take0 {xs : List Int} {r : Nat} (h : Dq xs r) {x : Wk} (hd : x.done = false) (hj : x.job = 6) (hp : x.pc = 0) (b : Nat) (hb : xs.getD 1 0 = b) (hc : b ≤ 1000000) :
    stepF xs 0 r x = ⟨0, xs, { x with r1 := (b : Int) - 1, pc := 1 }⟩ :=
  st_any h hd 1 1 0 0 _ _ _ _ (by simp [accF, hj, hp, w1]) (doF_load xs 1 0 0 1 rfl (by have := h.len; omega)) (by
    have hif : wrap64 (xs.getD 1 0 - 1) = (b : Int) - 1 := by rw [hb, wrap64_id _ (by omega) (by omega)]
    simp only [behF, hj, hp, Int.reduceEq, ↓reduceIte, hif])
theorem st_take1 {xs : List Int} {r : Nat} (h : Dq xs r) {x : Wk} (hd : x.done = false) (hj : x.job = 6) (hp : x.pc = 1) (h0 : -1000000000 ≤ x.r1) (h2 : x.r1 ≤ 1000000000) :
    stepF xs 0 r x = ⟨0, xs.set 1 x.r1, { x with pc := 2 }⟩ :=
  st_any h hd 2 1 0 x.r1 _ _ _ _ (by simp [accF, hj, hp, w1]) (doF_write xs 1 0 _ 1 rfl (by have := h.len; omega) h0 h2) (by simp [behF, hj, hp])
theorem st_take2_none {xs : List Int} {r : Nat} (h : Dq xs r) {x : Wk} (hd : x.done = false) (hj : x.job = 6) (hp : x.pc = 2) (hf : x.r1 < xs.getD 0 0) :
    stepF xs 0 r x = ⟨0, xs, { x with r2 := xs.getD 0 0, out := -1, pc := 5 }⟩ :=
  st_any h hd 1 0 0 0 _ _ _ _ (by simp [accF, hj, hp]) (doF_load xs 0 0 0 0 rfl (by have := h.len; omega)) (by
    simp only [behF, hj, hp, Int.reduceEq, ↓reduceIte, hf])
theorem st_take2_go {xs : List Int} {r : Nat} (h : Dq xs r) {x : Wk} (hd : x.done = false) (hj : x.job = 6) (hp : x.pc = 2) (hf : ¬ x.r1 < xs.getD 0 0) :
    stepF xs 0 r x = ⟨0, xs, { x with r2 := xs.getD 0 0, pc := 3 }⟩ :=
  st_any h hd 1 0 0 0 _ _ _ _ (by simp [accF, hj, hp]) (doF_load xs 0 0 0 0 rfl (by have := h.len; omega)) (by
    simp only [behF, hj, hp, Int.reduceEq, ↓reduceIte, hf])
theorem st_take3_done {xs : List Int} {r : Nat} (h : Dq xs r) {x : Wk} (hd : x.done = false) (hj : x.job = 6) (hp : x.pc = 3) (n : Nat) (h1 : x.r1 = n) (hf : x.r2 < x.r1) :
    stepF xs 0 r x = ⟨0, xs, { x with r3 := cellN xs r n, done := true, out := cellN xs r n }⟩ :=
  st_any h hd 1 ((2 + n % r : Nat) : Int) 0 0 _ _ _ _ (by simp [accF, hj, hp, h1, placeF_nat r n h.one h.top]) (doF_load xs (2 + n % r) 0 0 _ rfl (h.place n)) (by
    simp only [behF, hj, hp, Int.reduceEq, ↓reduceIte, hf]; rfl)
theorem st_take3_last {xs : List Int} {r : Nat} (h : Dq xs r) {x : Wk} (hd : x.done = false) (hj : x.job = 6) (hp : x.pc = 3) (n : Nat) (h1 : x.r1 = n) (hf : ¬ x.r2 < x.r1) :
    stepF xs 0 r x = ⟨0, xs, { x with r3 := cellN xs r n, pc := 4 }⟩ :=
  st_any h hd 1 ((2 + n % r : Nat) : Int) 0 0 _ _ _ _ (by simp [accF, hj, hp, h1, placeF_nat r n h.one h.top]) (doF_load xs (2 + n % r) 0 0 _ rfl (h.place n)) (by
    simp only [behF, hj, hp, Int.reduceEq, ↓reduceIte, hf]; rfl)
theorem st_take4_yes {xs : List Int} {r : Nat} (h : Dq xs r) {x : Wk} (hd : x.done = false) (hj : x.job = 6) (hp : x.pc = 4) (n : Nat) (h1 : x.r2 = n) (hc : n ≤ 1000000) (hf : xs.getD 0 0 = n) :
    stepF xs 0 r x = ⟨0, xs.set 0 ((n + 1 : Nat) : Int), { x with out := x.r3, pc := 5 }⟩ :=
  st_any h hd 3 0 n ((n + 1 : Nat) : Int) _ _ _ _ (by simp [accF, hj, hp, h1]; exact wrap64_id _ (by omega) (by omega)) (doF_swap_yes xs 0 n _ 0 rfl (by have := h.len; omega) (by omega) (by omega) hf) (by simp [behF, hj, hp])
theorem st_take4_no {xs : List Int} {r : Nat} (h : Dq xs r) {x : Wk} (hd : x.done = false) (hj : x.job = 6) (hp : x.pc = 4) (n : Nat) (h1 : x.r2 = n) (hc : n ≤ 1000000) (hf : xs.getD 0 0 ≠ n) :
    stepF xs 0 r x = ⟨0, xs, { x with out := -1, pc := 5 }⟩ :=
  st_any h hd 3 0 n ((n + 1 : Nat) : Int) _ _ _ _ (by simp [accF, hj, hp, h1]; exact wrap64_id _ (by omega) (by omega)) (doF_swap_no xs 0 n _ 0 rfl (by have := h.len; omega) (by omega) (by omega) hf) (by simp [behF, hj, hp])
theorem st_take5 {xs : List Int} {r : Nat} (h : Dq xs r) {x : Wk} (hd : x.done = false) (hj : x.job = 6) (hp : x.pc = 5) (b : Nat) (h1 : x.r1 = (b : Int) - 1) (hc : b ≤ 1000000) :
    stepF xs 0 r x = ⟨0, xs.set 1 (b : Int), { x with done := true }⟩ :=
  st_any h hd 2 1 0 (b : Int) _ _ _ _ (by simp [accF, hj, hp, h1, w1]; exact wrap64_id _ (by omega) (by omega)) (doF_write xs 1 0 _ 1 rfl (by have := h.len; omega) (by omega) (by omega)) (by simp [behF, hj, hp])

theorem st_steal0 {xs : List Int} {r : Nat} (h : Dq xs r) {x : Wk} (hd : x.done = false) (hj : x.job = 5) (hp : x.pc = 0) :
    stepF xs 0 r x = ⟨0, xs, { x with r1 := xs.getD 0 0, pc := 1 }⟩ :=
  st_any h hd 1 0 0 0 _ _ _ _ (by simp [accF, hj, hp]) (doF_load xs 0 0 0 0 rfl (by have := h.len; omega)) (by simp [behF, hj, hp])
theorem st_steal1_none {xs : List Int} {r : Nat} (h : Dq xs r) {x : Wk} (hd : x.done = false) (hj : x.job = 5) (hp : x.pc = 1) (hf : xs.getD 1 0 ≤ x.r1) :
    stepF xs 0 r x = ⟨0, xs, { x with r2 := xs.getD 1 0, done := true, out := -1 }⟩ :=
  st_any h hd 1 1 0 0 _ _ _ _ (by simp [accF, hj, hp, w1]) (doF_load xs 1 0 0 1 rfl (by have := h.len; omega)) (by
    simp only [behF, hj, hp, Int.reduceEq, ↓reduceIte, hf])
theorem st_steal1_go {xs : List Int} {r : Nat} (h : Dq xs r) {x : Wk} (hd : x.done = false) (hj : x.job = 5) (hp : x.pc = 1) (hf : ¬ xs.getD 1 0 ≤ x.r1) :
    stepF xs 0 r x = ⟨0, xs, { x with r2 := xs.getD 1 0, pc := 2 }⟩ :=
  st_any h hd 1 1 0 0 _ _ _ _ (by simp [accF, hj, hp, w1]) (doF_load xs 1 0 0 1 rfl (by have := h.len; omega)) (by
    simp only [behF, hj, hp, Int.reduceEq, ↓reduceIte, hf])
theorem st_steal2 {xs : List Int} {r : Nat} (h : Dq xs r) {x : Wk} (hd : x.done = false) (hj : x.job = 5) (hp : x.pc = 2) (n : Nat) (h1 : x.r1 = n) :
    stepF xs 0 r x = ⟨0, xs, { x with r3 := cellN xs r n, pc := 3 }⟩ :=
  st_any h hd 1 ((2 + n % r : Nat) : Int) 0 0 _ _ _ _ (by simp [accF, hj, hp, h1, placeF_nat r n h.one h.top]) (doF_load xs (2 + n % r) 0 0 _ rfl (h.place n)) (by simp [behF, hj, hp]; rfl)
theorem st_steal3_yes {xs : List Int} {r : Nat} (h : Dq xs r) {x : Wk} (hd : x.done = false) (hj : x.job = 5) (hp : x.pc = 3) (n : Nat) (h1 : x.r1 = n) (hc : n ≤ 1000000) (hf : xs.getD 0 0 = n) :
    stepF xs 0 r x = ⟨0, xs.set 0 ((n + 1 : Nat) : Int), { x with done := true, out := x.r3 }⟩ :=
  st_any h hd 3 0 n ((n + 1 : Nat) : Int) _ _ _ _ (by simp [accF, hj, hp, h1]; exact wrap64_id _ (by omega) (by omega)) (doF_swap_yes xs 0 n _ 0 rfl (by have := h.len; omega) (by omega) (by omega) hf) (by simp [behF, hj, hp])
theorem st_steal3_no {xs : List Int} {r : Nat} (h : Dq xs r) {x : Wk} (hd : x.done = false) (hj : x.job = 5) (hp : x.pc = 3) (n : Nat) (h1 : x.r1 = n) (hc : n ≤ 1000000) (hf : xs.getD 0 0 ≠ n) :
    stepF xs 0 r x = ⟨0, xs, { x with pc := 0 }⟩ :=
  st_any h hd 3 0 n ((n + 1 : Nat) : Int) _ _ _ _ (by simp [accF, hj, hp, h1]; exact wrap64_id _ (by omega) (by omega)) (doF_swap_no xs 0 n _ 0 rfl (by have := h.len; omega) (by omega) (by omega) hf) (by simp [behF, hj, hp])

end Go.Proofs.Ytdnajckhnknlcaa

/-! Who works on a deque, and what each may rely on; any run, by its steps. -/
namespace Go.Proofs.Ytdnajckhnknlcaa
set_option linter.unusedVariables false
set_option linter.unusedSimpArgs false
open Go.RowKit

/-- A job of an owner that has not begun. -/
def Fresh (y : Wk) : Prop := y.done = false ∧ y.pc = 0 ∧ ((y.job = 7 ∧ 0 ≤ y.r0 ∧ y.r0 ≤ 1000000) ∨ y.job = 6)

/-- An owner's jobs: those ahead are done, one is under way, the others have not begun. -/
def OwnSt (idle : Prop) (busy : Wk → Prop) : List Wk → Prop
  | [] => idle
  | x :: rest => (x.done = true ∧ OwnSt idle busy rest) ∨ (x.done = false ∧ busy x ∧ ∀ y ∈ rest, Fresh y)

theorem OwnSt.here {i : Prop} {b : Wk → Prop} {pre : List Wk} {x : Wk} {suf : List Wk} (h : OwnSt i b (pre ++ x :: suf)) (hp : ∀ y ∈ pre, y.done = true) (hd : x.done = false) : b x ∧ ∀ y ∈ suf, Fresh y := by
  induction pre with
  | nil => rcases h with ⟨h1, _⟩ | ⟨_, h2⟩
           · rw [hd] at h1; cases h1
           · exact h2
  | cons y pre ih =>
    rcases h with ⟨_, h2⟩ | ⟨h1, _⟩
    · exact ih h2 fun z hz => hp z (List.mem_cons_of_mem _ hz)
    · rw [hp y List.mem_cons_self] at h1; cases h1

theorem OwnSt.put_busy {i : Prop} {b : Wk → Prop} {pre : List Wk} {x : Wk} {suf : List Wk} (hp : ∀ y ∈ pre, y.done = true) (hd : x.done = false) (hb : b x) (hs : ∀ y ∈ suf, Fresh y) : OwnSt i b (pre ++ x :: suf) := by
  induction pre with
  | nil => exact .inr ⟨hd, hb, hs⟩
  | cons y pre ih => exact .inl ⟨hp y List.mem_cons_self, ih fun z hz => hp z (List.mem_cons_of_mem _ hz)⟩

theorem OwnSt.fresh {i : Prop} {b : Wk → Prop} {suf : List Wk} (hs : ∀ y ∈ suf, Fresh y) (hi : i) (hf : ∀ y, Fresh y → b y) : OwnSt i b suf := by
  cases suf with
  | nil => exact hi
  | cons y suf => exact .inr ⟨(hs y List.mem_cons_self).1, hf y (hs y List.mem_cons_self), fun z hz => hs z (List.mem_cons_of_mem _ hz)⟩

theorem OwnSt.put_done {i : Prop} {b : Wk → Prop} {pre : List Wk} {x : Wk} {suf : List Wk} (hp : ∀ y ∈ pre, y.done = true) (hd : x.done = true) (hs : ∀ y ∈ suf, Fresh y) (hi : i) (hf : ∀ y, Fresh y → b y) : OwnSt i b (pre ++ x :: suf) := by
  induction pre with
  | nil => exact .inl ⟨hd, OwnSt.fresh hs hi hf⟩
  | cons y pre ih => exact .inl ⟨hp y List.mem_cons_self, ih fun z hz => hp z (List.mem_cons_of_mem _ hz)⟩

theorem OwnSt.mono {i i' : Prop} {b b' : Wk → Prop} {l : List Wk} (h : OwnSt i b l) (hi : i → i') (hb : ∀ x, b x → b' x) : OwnSt i' b' l := by
  induction l with
  | nil => exact hi h
  | cons x l ih =>
    rcases h with ⟨h1, h2⟩ | ⟨h1, h2, h3⟩
    · exact .inl ⟨h1, ih h2⟩
    · exact .inr ⟨h1, hb x h2, h3⟩

theorem OwnSt.split {i : Prop} {b : Wk → Prop} {l : List Wk} (h : OwnSt i b l) : ((∀ y ∈ l, y.done = true) ∧ i) ∨ ∃ pre x suf, l = pre ++ x :: suf ∧ (∀ y ∈ pre, y.done = true) ∧ x.done = false ∧ b x ∧ ∀ y ∈ suf, Fresh y := by
  induction l with
  | nil => exact .inl ⟨by simp, h⟩
  | cons x l ih =>
    rcases h with ⟨h1, h2⟩ | ⟨h1, h2, h3⟩
    · rcases ih h2 with ⟨h4, h5⟩ | ⟨pre, y, suf, rfl, h5, h6, h7⟩
      · exact .inl ⟨by intro z hz; rcases List.mem_cons.1 hz with rfl | hz; exact h1; exact h4 z hz, h5⟩
      · exact .inr ⟨x :: pre, y, suf, rfl, by intro z hz; rcases List.mem_cons.1 hz with rfl | hz; exact h1; exact h5 z hz, h6, h7⟩
    · exact .inr ⟨[], x, l, rfl, by simp, h1, h2, h3⟩

/-- What an owner's job that is under way relies on: the top is t, what is in it ends below b, thieves go no further than lim. -/
def OwInv (r : Nat) (xs : List Int) (t b lim : Nat) (x : Wk) : Prop :=
  (x.job = 7 ∧ 0 ≤ x.r0 ∧ x.r0 ≤ 1000000 ∧ xs.getD 1 0 = b ∧ lim = b ∧
    (x.pc = 0 ∨ (x.pc = 1 ∧ x.r1 = b) ∨ (x.pc = 2 ∧ x.r1 = b ∧ b < t + r) ∨ (x.pc = 3 ∧ x.r1 = b ∧ b < t + r ∧ cellN xs r b = x.r0))) ∨
  (x.job = 6 ∧
    ((x.pc = 0 ∧ xs.getD 1 0 = b ∧ lim = b) ∨
     (x.pc = 1 ∧ xs.getD 1 0 = b ∧ lim = b ∧ x.r1 = (b : Int) - 1) ∨
     (x.pc = 2 ∧ xs.getD 1 0 = (b : Int) - 1 ∧ lim = b ∧ x.r1 = (b : Int) - 1) ∨
     (x.pc = 3 ∧ xs.getD 1 0 = (b : Int) - 1 ∧ x.r1 = (b : Int) - 1 ∧ 1 ≤ b ∧ ((x.r2 < x.r1 ∧ lim + 1 = b) ∨ (x.r2 = x.r1 ∧ lim = b ∧ b ≤ t + 1))) ∨
     (x.pc = 4 ∧ xs.getD 1 0 = (b : Int) - 1 ∧ x.r1 = (b : Int) - 1 ∧ x.r2 = (b : Int) - 1 ∧ 1 ≤ b ∧ lim = b ∧ b ≤ t + 1 ∧ (t + 1 = b → x.r3 = cellN xs r t)) ∨
     (x.pc = 5 ∧ xs.getD 1 0 = (b : Int) - 1 ∧ x.r1 = (b : Int) - 1 ∧ lim = b ∧ t = b)))

/-- What a thief relies on. -/
def ThInv (r : Nat) (xs : List Int) (t lim : Nat) (x : Wk) : Prop :=
  x.job = 5 ∧ (x.done = true ∨ x.pc = 0 ∨
    ∃ n : Nat, x.r1 = n ∧ n ≤ t ∧ (x.pc = 1 ∨ (x.pc = 2 ∧ (n = t → t < lim)) ∨ (x.pc = 3 ∧ (n = t → t < lim ∧ x.r3 = cellN xs r t))))

theorem ThInv.step {r : Nat} {xs xs' : List Int} {t t' lim lim' : Nat} {x : Wk} (h : ThInv r xs t lim x) (ht : t ≤ t') (hs : t' = t → t < lim → t < lim' ∧ cellN xs' r t = cellN xs r t) : ThInv r xs' t' lim' x := by
  obtain ⟨hj, h⟩ := h
  refine ⟨hj, ?_⟩
  rcases h with h | h | ⟨n, h1, h2, h⟩
  · exact .inl h
  · exact .inr (.inl h)
  · refine .inr (.inr ⟨n, h1, by omega, ?_⟩)
    rcases h with h | ⟨hp, h⟩ | ⟨hp, h⟩
    · exact .inl h
    · refine .inr (.inl ⟨hp, fun e => ?_⟩)
      have e1 : t' = t := by omega
      have := hs e1 (h (by omega))
      omega
    · refine .inr (.inr ⟨hp, fun e => ?_⟩)
      have e1 : t' = t := by omega
      obtain ⟨h3, h4⟩ := h (by omega)
      have := hs e1 h3
      rw [e1]
      exact ⟨this.1, by rw [h4, this.2]⟩

theorem OwInv.stolen {r : Nat} {xs : List Int} {t b lim : Nat} {x : Wk} (h : OwInv r xs t b lim x) (v : Int) (h1 : t < lim) (h2 : lim ≤ b) : OwInv r (xs.set 0 v) (t + 1) b lim x := by
  have e1 : (xs.set 0 v).getD 1 0 = xs.getD 1 0 := getD_set_ne _ _ _ _ (by decide)
  have e2 : ∀ n, cellN (xs.set 0 v) r n = cellN xs r n := fun n => cellN_head _ _ _ _ _ (by decide)
  unfold OwInv at *
  rw [e1]
  simp only [e2]
  rcases h with ⟨hj, h3, h4, h5, h6, h⟩ | ⟨hj, h⟩
  · refine .inl ⟨hj, h3, h4, h5, h6, ?_⟩
    rcases h with h | h | h | h
    · exact .inl h
    · exact .inr (.inl h)
    · exact .inr (.inr (.inl ⟨h.1, h.2.1, by omega⟩))
    · exact .inr (.inr (.inr ⟨h.1, h.2.1, by omega, h.2.2.2⟩))
  · refine .inr ⟨hj, ?_⟩
    rcases h with h | h | h | h | h | h
    · exact .inl h
    · exact .inr (.inl h)
    · exact .inr (.inr (.inl h))
    · refine .inr (.inr (.inr (.inl ⟨h.1, h.2.1, h.2.2.1, h.2.2.2.1, ?_⟩)))
      rcases h.2.2.2.2 with h | h
      · exact .inl h
      · exact .inr ⟨h.1, h.2.1, by omega⟩
    · exact .inr (.inr (.inr (.inr (.inl ⟨h.1, h.2.1, h.2.2.1, h.2.2.2.1, h.2.2.2.2.1, h.2.2.2.2.2.1, by omega, fun _ => by omega⟩))))
    · omega

def giveN (x : Wk) : Nat := if x.done then 0 else if x.job = 7 then 1 else 0
def gives (own : List Wk) : Nat := (own.map giveN).sum
def ownM (x : Wk) : Nat := if x.done then 0 else if x.job = 7 then (4 - x.pc).toNat else (6 - x.pc).toNat
def thM (C t : Nat) (x : Wk) : Nat := if x.done then 0 else if x.pc = 0 then 4 * (C + 1 - t) else 4 * (C + 1 - x.r1.toNat) - x.pc.toNat
def mu (C : Nat) (xs : List Int) (own all : List Wk) : Nat := (own.map ownM).sum + (all.map (thM C (xs.getD 0 0).toNat)).sum

theorem thM_mono (C t t' : Nat) (h : t ≤ t') (x : Wk) : thM C t' x ≤ thM C t x := by unfold thM; split; exact Nat.le_refl _; split; omega; exact Nat.le_refl _
theorem thM_sum (C t t' : Nat) (h : t ≤ t') (l : List Wk) : (l.map (thM C t')).sum ≤ (l.map (thM C t)).sum := by
  induction l with
  | nil => simp
  | cons x l ih => have := thM_mono C t t' h x; simp only [List.map_cons, List.sum_cons]; omega

structure Core (r C : Nat) (xs : List Int) (own all : List Wk) (t b lim : Nat) : Prop where
  dq : Dq xs r
  c : C ≤ 1000
  top : xs.getD 0 0 = t
  tl : t ≤ lim
  lb : lim ≤ b
  room : b ≤ t + r
  bound : b + gives own ≤ C
  own : OwnSt (xs.getD 1 0 = b ∧ lim = b) (OwInv r xs t b lim) own
  all : ∀ x ∈ all, ThInv r xs t lim x

theorem OwInv.of_fresh {r : Nat} {xs : List Int} {t b lim : Nat} (h : xs.getD 1 0 = b ∧ lim = b) (y : Wk) (hy : Fresh y) : OwInv r xs t b lim y := by
  obtain ⟨_, h2, h3 | h3⟩ := hy
  · exact .inl ⟨h3.1, h3.2.1, h3.2.2, h.1, h.2, .inl h2⟩
  · exact .inr ⟨h3, .inl ⟨h2, h.1, h.2⟩⟩

theorem gives_mid (pre : List Wk) (x : Wk) (suf : List Wk) : gives (pre ++ x :: suf) = gives pre + giveN x + gives suf := by simp [gives]; omega

theorem core_own {r C : Nat} {xs : List Int} {pre : List Wk} {x : Wk} {suf all : List Wk} {t b lim : Nat} (h : Core r C xs (pre ++ x :: suf) all t b lim) (hp : ∀ y ∈ pre, y.done = true) (hd : x.done = false)
    (xs' : List Int) (x' : Wk) (t' b' lim' : Nat) (hl : xs'.length = xs.length) (htop : xs'.getD 0 0 = t') (ht : t ≤ t') (htl : t' ≤ lim') (hlb : lim' ≤ b') (hroom : b' ≤ t' + r)
    (hg : b' + giveN x' ≤ b + giveN x) (hth : t' = t → t < lim → t < lim' ∧ cellN xs' r t = cellN xs r t)
    (ho : (x'.done = false ∧ OwInv r xs' t' b' lim' x') ∨ (x'.done = true ∧ xs'.getD 1 0 = b' ∧ lim' = b')) (hm : ownM x' < ownM x) :
    Core r C xs' (pre ++ x' :: suf) all t' b' lim' ∧ mu C xs' (pre ++ x' :: suf) all < mu C xs (pre ++ x :: suf) all := by
  obtain ⟨hb, hs⟩ := h.own.here hp hd
  refine ⟨⟨⟨h.dq.one, h.dq.top, by rw [hl]; exact h.dq.len⟩, h.c, htop, htl, hlb, hroom, ?_, ?_, fun y hy => (h.all y hy).step ht hth⟩, ?_⟩
  · have := h.bound
    rw [gives_mid] at *
    omega
  · rcases ho with ⟨h1, h2⟩ | ⟨h1, h2⟩
    · exact OwnSt.put_busy hp h1 h2 hs
    · exact OwnSt.put_done hp h1 hs h2 fun y hy => OwInv.of_fresh h2 y hy
  · unfold mu
    have e1 := h.top
    have := thM_sum C t t' ht all
    rw [htop, e1]
    simp only [Int.toNat_natCast, List.map_append, List.map_cons, List.sum_append, List.sum_cons]
    omega

theorem core_thief {r C : Nat} {xs : List Int} {own pre : List Wk} {x : Wk} {suf : List Wk} {t b lim : Nat} (h : Core r C xs own (pre ++ x :: suf) t b lim) 
    (x' : Wk) (hx : ThInv r xs t lim x') (hm : thM C t x' < thM C t x) :
    Core r C xs own (pre ++ x' :: suf) t b lim ∧ mu C xs own (pre ++ x' :: suf) < mu C xs own (pre ++ x :: suf) := by
  refine ⟨⟨h.dq, h.c, h.top, h.tl, h.lb, h.room, h.bound, h.own, ?_⟩, ?_⟩
  · intro y hy
    simp only [List.mem_append, List.mem_cons] at hy
    rcases hy with hy | rfl | hy
    · exact h.all y (by simp [hy])
    · exact hx
    · exact h.all y (by simp [hy])
  · unfold mu
    rw [h.top]
    simp only [Int.toNat_natCast, List.map_append, List.map_cons, List.sum_append, List.sum_cons]
    omega

theorem core_stolen {r C : Nat} {xs : List Int} {own pre : List Wk} {x : Wk} {suf : List Wk} {t b lim : Nat} (h : Core r C xs own (pre ++ x :: suf) t b lim) (hlt : t < lim)
    (x' : Wk) (hj : x'.job = 5) (hd : x'.done = true) (hm : 0 < thM C t x) :
    Core r C (xs.set 0 ((t + 1 : Nat) : Int)) own (pre ++ x' :: suf) (t + 1) b lim ∧ mu C (xs.set 0 ((t + 1 : Nat) : Int)) own (pre ++ x' :: suf) < mu C xs own (pre ++ x :: suf) := by
  have hl := h.dq.len
  have e0 : (xs.set 0 ((t + 1 : Nat) : Int)).getD 0 0 = ((t + 1 : Nat) : Int) := getD_set_self _ _ _ (by omega)
  have e1 : (xs.set 0 ((t + 1 : Nat) : Int)).getD 1 0 = xs.getD 1 0 := getD_set_ne _ _ _ _ (by decide)
  refine ⟨⟨⟨h.dq.one, h.dq.top, by simpa using h.dq.len⟩, h.c, e0, by omega, h.lb, by have := h.room; omega, h.bound, ?_, ?_⟩, ?_⟩
  · rw [e1]
    exact h.own.mono id fun y hy => hy.stolen _ hlt h.lb
  · intro y hy
    simp only [List.mem_append, List.mem_cons] at hy
    rcases hy with hy | rfl | hy
    · exact (h.all y (by simp [hy])).step (by omega) (fun e => by omega)
    · exact ⟨hj, .inl hd⟩
    · exact (h.all y (by simp [hy])).step (by omega) (fun e => by omega)
  · unfold mu
    rw [h.top, e0]
    have a1 := thM_sum C t (t + 1) (by omega) pre
    have a2 := thM_sum C t (t + 1) (by omega) suf
    have a3 : thM C (t + 1) x' = 0 := by simp [thM, hd]
    simp only [Int.toNat_natCast, List.map_append, List.map_cons, List.sum_append, List.sum_cons]
    omega

theorem split_at {α : Type _} (l : List α) (k : Nat) (x : α) (h : l[k]? = some x) : l = l.take k ++ x :: l.drop (k + 1) := by
  have hk := (List.getElem?_eq_some_iff.1 h).1
  have hx := (List.getElem?_eq_some_iff.1 h).2
  rw [← hx, ← List.drop_eq_getElem_cons hk, List.take_append_drop]
theorem set_at {α : Type _} (l : List α) (k : Nat) (x y : α) (h : l[k]? = some x) : l.set k y = l.take k ++ y :: l.drop (k + 1) := by
  have hk := (List.getElem?_eq_some_iff.1 h).1
  rw [List.set_eq_take_append_cons_drop, if_pos hk]

/-- A run, by its steps: what each step keeps, a run keeps; and it ends. -/
theorem run_ind (room : Int) (picks : List Int) (Inv : List Int → List Wk → List Wk → Prop) (m : List Int → List Wk → List Wk → Nat)
    (ho : ∀ xs pre x suf all, Inv xs (pre ++ x :: suf) all → (∀ y ∈ pre, y.done = true) → x.done = false → ∃ ys y, stepF xs 0 room x = ⟨0, ys, y⟩ ∧ Inv ys (pre ++ y :: suf) all ∧ m ys (pre ++ y :: suf) all < m xs (pre ++ x :: suf) all)
    (ht : ∀ xs own pre x suf, Inv xs own (pre ++ x :: suf) → x.done = false → ∃ ys y, stepF xs 0 room x = ⟨0, ys, y⟩ ∧ Inv ys own (pre ++ y :: suf) ∧ m ys own (pre ++ y :: suf) < m xs own (pre ++ x :: suf)) :
    ∀ f xs own all last, Inv xs own all → m xs own all ≤ f → ∃ ys o a, runF 0 room picks f xs own all last = ⟨0, ys, o, a⟩ ∧ Inv ys o a ∧ (∀ y ∈ o, y.done = true) ∧ ∀ y ∈ a, y.done = true := by
  have hdone : ∀ (l : List Int) own all, alive (leftF own all) (leftF own all).length = [] → (∀ y ∈ own, y.done = true) ∧ ∀ y ∈ all, y.done = true := by
    intro _ own all h
    constructor
    · intro y hy
      rcases hb : y.done with _ | _
      · exfalso
        have h0 : 0 < notDone own := List.length_pos_iff.2 (by
          intro e
          have : y ∈ own.filter fun x => !x.done := by rw [List.mem_filter]; exact ⟨hy, by simp [hb]⟩
          rw [e] at this; cases this)
        have := alive_mem (leftF own all) (leftF own all).length 0 (by simp [leftF]) (by simp [leftF]; omega)
        rw [h] at this; cases this
      · rfl
    · intro y hy
      rcases hb : y.done with _ | _
      · exfalso
        obtain ⟨k, hk, rfl⟩ := List.mem_iff_getElem.1 hy
        have := alive_mem (leftF own all) (leftF own all).length (k + 1) (by simp [leftF]; omega) (by
          simp [leftF, hk, hb])
        rw [h] at this; cases this
      · rfl
  have hneg : ∀ step own all last, nextF picks step (leftF own all) last < 0 → (∀ y ∈ own, y.done = true) ∧ ∀ y ∈ all, y.done = true := by
    intro step own all last h
    refine hdone [] own all ?_
    rcases Classical.em (alive (leftF own all) (leftF own all).length = []) with e | e
    · exact e
    · exfalso
      simp only [nextF] at h
      rw [if_neg e] at h
      split at h <;> omega
  have step : ∀ xs own all (i : Nat), i < (leftF own all).length → 0 < (leftF own all).getD i 0 → Inv xs own all →
      ∃ ys y, stepF xs 0 room (pickW own all i) = ⟨0, ys, y⟩ ∧ Inv ys (putO own i y) (putT all i y) ∧ m ys (putO own i y) (putT all i y) < m xs own all := by
    intro xs own all i hi hpos hinv
    cases i with
    | zero =>
      have h0 : 0 < notDone own := by simp [leftF] at hpos; omega
      obtain ⟨k, hk, hkl, hf⟩ := notDone_pos own h0
      rw [List.findIdx?_eq_some_iff_getElem] at hk
      obtain ⟨hk1, hk2, hk3⟩ := hk
      have hget : own[k]? = some own[k] := List.getElem?_eq_getElem hkl
      have hpk : pickW own all (0 : Nat) = own[k] := by simp [pickW, hf, hkl]
      rw [hpk]
      rw [split_at own k _ hget] at hinv
      obtain ⟨ys, y, h1, h2, h3⟩ := ho xs _ _ _ all hinv (by
        intro z hz
        obtain ⟨j, hj, rfl⟩ := List.mem_iff_getElem.1 hz
        have hj2 : j < k := by simp at hj; omega
        have := hk3 j hj2
        simpa using this) (by simpa using hk2)
      refine ⟨ys, y, h1, ?_, ?_⟩
      · simp only [putO, putT, Int.natCast_zero, if_true, hf]
        rw [set_at own k _ y hget]; exact h2
      · simp only [putO, putT, Int.natCast_zero, if_true, hf]
        rw [set_at own k _ y hget]
        rw [← split_at own k _ hget] at h3
        exact h3
    | succ j =>
      have hjl : j < all.length := by simp [leftF] at hi; omega
      have hget : all[j]? = some all[j] := List.getElem?_eq_getElem hjl
      have hnd : (all[j]).done = false := by
        rcases hb : (all[j]).done with _ | _
        · rfl
        · simp [leftF, hjl, hb] at hpos
      have e0 : ¬ (((j + 1 : Nat) : Int) = 0) := by omega
      have e1 : (((j + 1 : Nat) : Int) - 1).toNat = j := by omega
      have hpk : pickW own all ((j + 1 : Nat) : Int) = all[j] := by simp only [pickW, if_neg e0, e1]; simp [hjl]
      rw [hpk]
      rw [split_at all j _ hget] at hinv
      obtain ⟨ys, y, h1, h2, h3⟩ := ht xs own _ _ _ hinv hnd
      refine ⟨ys, y, h1, ?_, ?_⟩
      · simp only [putO, putT, if_neg e0, e1]
        rw [set_at all j _ y hget]; exact h2
      · simp only [putO, putT, if_neg e0, e1]
        rw [set_at all j _ y hget]
        rw [← split_at all j _ hget] at h3
        exact h3
  intro f
  induction f with
  | zero =>
    intro xs own all last hinv hm
    by_cases hn : nextF picks 100000 (leftF own all) last < 0
    · exact ⟨xs, own, all, by unfold runF; rw [if_pos hn], hinv, hneg _ _ _ _ hn⟩
    · exfalso
      obtain ⟨i, _, hi2, hi3⟩ := nextF_mem _ _ _ _ hn
      obtain ⟨ys, y, h1, h2, h3⟩ := step xs own all i hi2 hi3 hinv
      omega
  | succ f ih =>
    intro xs own all last hinv hm
    by_cases hn : nextF picks (100000 - (f + 1)) (leftF own all) last < 0
    · exact ⟨xs, own, all, by unfold runF; dsimp only; rw [if_pos hn], hinv, hneg _ _ _ _ hn⟩
    · obtain ⟨i, hi1, hi2, hi3⟩ := nextF_mem _ _ _ _ hn
      obtain ⟨ys, y, h1, h2, h3⟩ := step xs own all i hi2 hi3 hinv
      obtain ⟨zs, o, a, h4, h5⟩ := ih ys (putO own i y) (putT all i y) i h2 (by omega)
      refine ⟨zs, o, a, ?_, h5⟩
      unfold runF
      dsimp only
      rw [if_neg hn, hi1, h1]
      simp only
      rw [if_neg (by simp), h4]

end Go.Proofs.Ytdnajckhnknlcaa

/-! A run of an owner and thieves on a deque: it ends well, and what is told of it by what is given, taken and stolen. -/
namespace Go.Proofs.Ytdnajckhnknlcaa
set_option linter.unusedVariables false
set_option linter.unusedSimpArgs false
open Go.RowKit

/-- What is to be seen of an owner's job: the job, its task, what came of it. -/
def ov (x : Wk) : Int × Int × Option Int := (x.job, x.r0, if x.done = true ∨ (x.job = 6 ∧ x.pc = 5) then some x.out else none)
/-- What is to be seen of a thief. -/
def tv (x : Wk) : Option Int := if x.done = true then some x.out else none

/-- What may be told of a run: it is kept by each thing that may come to pass. -/
structure Hist (r : Nat) (J : List Int → List (Int × Int × Option Int) → List (Option Int) → Prop) : Prop where
  giveOk : ∀ L P v S ts, (∀ p ∈ P, p.2.2.isSome = true) → (∀ s ∈ S, s.2.2 = none) → L.length < r → 0 ≤ v → J L (P ++ (7, v, none) :: S) ts → J (L ++ [v]) (P ++ (7, v, some v) :: S) ts
  giveFull : ∀ L P v S ts, (∀ p ∈ P, p.2.2.isSome = true) → (∀ s ∈ S, s.2.2 = none) → L.length = r → J L (P ++ (7, v, none) :: S) ts → J L (P ++ (7, v, some (-1)) :: S) ts
  takeWin : ∀ L P v z S ts, (∀ p ∈ P, p.2.2.isSome = true) → (∀ s ∈ S, s.2.2 = none) → J (L ++ [v]) (P ++ (6, z, none) :: S) ts → J L (P ++ (6, z, some v) :: S) ts
  takeNone : ∀ P z S ts, (∀ p ∈ P, p.2.2.isSome = true) → (∀ s ∈ S, s.2.2 = none) → J [] (P ++ (6, z, none) :: S) ts → J [] (P ++ (6, z, some (-1)) :: S) ts
  steal : ∀ L v os P S, J (v :: L) os (P ++ none :: S) → J L os (P ++ some v :: S)
  stealNone : ∀ L os P S, ((∀ o ∈ os, o.2.2.isSome = true) → L = []) → J L os (P ++ none :: S) → J L os (P ++ some (-1) :: S)

theorem ov_done {x : Wk} (h : x.done = true) : ov x = (x.job, x.r0, some x.out) := by simp [ov, h]
theorem tv_done {x : Wk} (h : x.done = true) : tv x = some x.out := by simp [tv, h]
theorem tv_not {x : Wk} (h : x.done = false) : tv x = none := by simp [tv, h]
theorem ov_give {x : Wk} (h : x.done = false) (hj : x.job = 7) : ov x = (7, x.r0, none) := by simp [ov, h, hj]
theorem ov_take {x : Wk} (h : x.done = false) (hj : x.job = 6) (hp : x.pc ≠ 5) : ov x = (6, x.r0, none) := by simp [ov, h, hj, hp]
theorem ov_take5 {x : Wk} (hj : x.job = 6) (hp : x.pc = 5) : ov x = (6, x.r0, some x.out) := by simp [ov, hj, hp]

theorem pre_some {pre : List Wk} (hp : ∀ y ∈ pre, y.done = true) : ∀ p ∈ pre.map ov, p.2.2.isSome = true := by
  intro p h
  obtain ⟨y, hy, rfl⟩ := List.mem_map.1 h
  rw [ov_done (hp y hy)]; rfl
theorem suf_none {suf : List Wk} (hs : ∀ y ∈ suf, Fresh y) : ∀ s ∈ suf.map ov, s.2.2 = none := by
  intro p h
  obtain ⟨y, hy, rfl⟩ := List.mem_map.1 h
  obtain ⟨h1, h2, h3⟩ := hs y hy
  simp [ov, h1, h2]

theorem map_mid {α β : Type _} (f : α → β) (pre : List α) (x : α) (suf : List α) : (pre ++ x :: suf).map f = pre.map f ++ f x :: suf.map f := by simp

/-- What a step of an owner's job leaves. -/
def OwnPost (r C : Nat) (J : List Int → List (Int × Int × Option Int) → List (Option Int) → Prop) (xs : List Int) (pre : List Wk) (x : Wk) (suf all : List Wk) : Prop :=
  ∃ ys y, stepF xs 0 r x = ⟨0, ys, y⟩ ∧ (∃ t b lim, Core r C ys (pre ++ y :: suf) all t b lim ∧ J (conts ys r t b) ((pre ++ y :: suf).map ov) (all.map tv)) ∧ mu C ys (pre ++ y :: suf) all < mu C xs (pre ++ x :: suf) all

section
variable {r C : Nat} {J : List Int → List (Int × Int × Option Int) → List (Option Int) → Prop} {xs : List Int} {pre : List Wk} {x : Wk} {suf all : List Wk} {t b lim : Nat}

theorem own_silent (h : Core r C xs (pre ++ x :: suf) all t b lim) (hp : ∀ y ∈ pre, y.done = true) (hd : x.done = false) (hj : J (conts xs r t b) ((pre ++ x :: suf).map ov) (all.map tv))
    (ys : List Int) (y : Wk) (lim' : Nat) (hst : stepF xs 0 r x = ⟨0, ys, y⟩) (hl : ys.length = xs.length) (htop : ys.getD 0 0 = t) (htl : t ≤ lim') (hlb : lim' ≤ b)
    (hg : giveN y ≤ giveN x) (hth : t < lim → t < lim') (hcell : ∀ n, t ≤ n → n < b → cellN ys r n = cellN xs r n)
    (ho : (y.done = false ∧ OwInv r ys t b lim' y) ∨ (y.done = true ∧ ys.getD 1 0 = b ∧ lim' = b)) (hm : ownM y < ownM x) (hov : ov y = ov x) : OwnPost r C J xs pre x suf all := by
  have hlim := h.lb
  have hc := core_own h hp hd ys y t b lim' hl htop (Nat.le_refl _) htl hlb h.room (by omega) (fun _ h1 => ⟨hth h1, hcell t (Nat.le_refl _) (by omega)⟩) ho hm
  refine ⟨ys, y, hst, ⟨t, b, lim', hc.1, ?_⟩, hc.2⟩
  rw [conts_congr ys xs r t b hcell, map_mid, hov, ← map_mid]
  exact hj

theorem own_give (hJ : Hist r J) (h : Core r C xs (pre ++ x :: suf) all t b lim) (hp : ∀ y ∈ pre, y.done = true) (hd : x.done = false) (hj : J (conts xs r t b) ((pre ++ x :: suf).map ov) (all.map tv))
    (hs : ∀ y ∈ suf, Fresh y) (h7 : x.job = 7) (h0 : 0 ≤ x.r0) (h1 : x.r0 ≤ 1000000) (hbot : xs.getD 1 0 = b) (hlim : lim = b)
    (hpc : x.pc = 0 ∨ (x.pc = 1 ∧ x.r1 = b) ∨ (x.pc = 2 ∧ x.r1 = b ∧ b < t + r) ∨ (x.pc = 3 ∧ x.r1 = b ∧ b < t + r ∧ cellN xs r b = x.r0)) : OwnPost r C J xs pre x suf all := by
  have hroom := h.room
  have htl := h.tl
  have hbC : b ≤ 1000 := by have := h.bound; have := h.c; omega
  have hone := h.dq.one
  have hlen := h.dq.len
  rcases hpc with hp0 | ⟨hp1, hr1⟩ | ⟨hp2, hr1, hb2⟩ | ⟨hp3, hr1, hb3, hc3⟩
  · exact own_silent h hp hd hj _ _ lim (st_give0 h.dq hd h7 hp0) rfl h.top htl h.lb (by simp [giveN, hd]) id (fun _ _ _ => rfl)
      (.inl ⟨hd, .inl ⟨h7, h0, h1, hbot, hlim, .inr (.inl ⟨rfl, hbot⟩)⟩⟩) (by simp [ownM, hd, h7, hp0]) (by simp [ov, hd, h7])
  · by_cases hf : t + r ≤ b
    · have hc := core_own h hp hd xs { x with r2 := xs.getD 0 0, done := true, out := -1 } t b lim rfl h.top (Nat.le_refl _) htl h.lb hroom (by simp [giveN]) (fun _ h1 => ⟨h1, rfl⟩) (.inr ⟨rfl, hbot, hlim⟩) (by simp [ownM, hd, h7, hp1])
      refine ⟨_, _, st_give1_full h.dq hd h7 hp1 t b hr1 h.top (by omega) (by omega) hf, ⟨t, b, lim, hc.1, ?_⟩, hc.2⟩
      rw [map_mid] at hj ⊢
      rw [ov_give hd h7] at hj
      rw [ov_done (x := { x with r2 := xs.getD 0 0, done := true, out := -1 }) rfl]
      simp only [h7]
      exact hJ.giveFull _ _ _ _ _ (pre_some hp) (suf_none hs) (by rw [conts_len]; omega) hj
    · exact own_silent h hp hd hj _ _ lim (st_give1_ok h.dq hd h7 hp1 t b hr1 h.top (by omega) (by omega) (by omega)) rfl h.top htl h.lb (by simp [giveN, hd]) id (fun _ _ _ => rfl)
        (.inl ⟨hd, .inl ⟨h7, h0, h1, hbot, hlim, .inr (.inr (.inl ⟨rfl, hr1, by omega⟩))⟩⟩) (by simp [ownM, hd, h7, hp1]) (by simp [ov, hd, h7])
  · have hm := Nat.mod_lt b (show 0 < r from hone)
    exact own_silent h hp hd hj _ _ lim (st_give2 h.dq hd h7 hp2 b hr1 (by omega) (by omega)) (by simp) (by rw [getD_set_ne _ _ _ _ (by omega)]; exact h.top) htl h.lb (by simp [giveN, hd]) id
      (fun n h2 h3 => cellN_ne xs r b n _ h3 (by omega))
      (.inl ⟨hd, .inl ⟨h7, h0, h1, by rw [getD_set_ne _ _ _ _ (by omega)]; exact hbot, hlim, .inr (.inr (.inr ⟨rfl, hr1, hb2, cellN_self xs r b _ hone hlen⟩))⟩⟩) (by simp [ownM, hd, h7, hp2]) (by simp [ov, hd, h7])
  · have hc := core_own h hp hd (xs.set 1 ((b + 1 : Nat) : Int)) { x with done := true, out := x.r0 } t (b + 1) (b + 1) (by simp) (by rw [getD_set_ne _ _ _ _ (by omega)]; exact h.top) (Nat.le_refl _) (by omega) (Nat.le_refl _) (by omega)
      (by simp [giveN, hd, h7]) (fun _ h1 => ⟨by omega, cellN_head _ _ _ _ _ (by decide)⟩) (.inr ⟨rfl, getD_set_self _ _ _ (by omega), rfl⟩) (by simp [ownM, hd, h7, hp3])
    refine ⟨_, _, st_give3 h.dq hd h7 hp3 b hr1 (by omega), ⟨t, b + 1, b + 1, hc.1, ?_⟩, hc.2⟩
    rw [map_mid] at hj ⊢
    rw [ov_give hd h7] at hj
    rw [ov_done (x := { x with done := true, out := x.r0 }) rfl]
    simp only [h7]
    rw [conts_congr _ xs r t (b + 1) (fun n _ _ => cellN_head _ _ _ _ _ (by decide)), conts_snoc xs r t b (by omega), hc3]
    exact hJ.giveOk _ _ _ _ _ (pre_some hp) (suf_none hs) (by rw [conts_len]; omega) h0 hj

theorem own_take (hJ : Hist r J) (h : Core r C xs (pre ++ x :: suf) all t b lim) (hp : ∀ y ∈ pre, y.done = true) (hd : x.done = false) (hj : J (conts xs r t b) ((pre ++ x :: suf).map ov) (all.map tv))
    (hs : ∀ y ∈ suf, Fresh y) (h6 : x.job = 6)
    (hpc : (x.pc = 0 ∧ xs.getD 1 0 = b ∧ lim = b) ∨
     (x.pc = 1 ∧ xs.getD 1 0 = b ∧ lim = b ∧ x.r1 = (b : Int) - 1) ∨
     (x.pc = 2 ∧ xs.getD 1 0 = (b : Int) - 1 ∧ lim = b ∧ x.r1 = (b : Int) - 1) ∨
     (x.pc = 3 ∧ xs.getD 1 0 = (b : Int) - 1 ∧ x.r1 = (b : Int) - 1 ∧ 1 ≤ b ∧ ((x.r2 < x.r1 ∧ lim + 1 = b) ∨ (x.r2 = x.r1 ∧ lim = b ∧ b ≤ t + 1))) ∨
     (x.pc = 4 ∧ xs.getD 1 0 = (b : Int) - 1 ∧ x.r1 = (b : Int) - 1 ∧ x.r2 = (b : Int) - 1 ∧ 1 ≤ b ∧ lim = b ∧ b ≤ t + 1 ∧ (t + 1 = b → x.r3 = cellN xs r t)) ∨
     (x.pc = 5 ∧ xs.getD 1 0 = (b : Int) - 1 ∧ x.r1 = (b : Int) - 1 ∧ lim = b ∧ t = b)) : OwnPost r C J xs pre x suf all := by
  have hroom := h.room
  have htl := h.tl
  have hlb := h.lb
  have htop := h.top
  have hbC : b ≤ 1000 := by have := h.bound; have := h.c; omega
  have hone := h.dq.one
  have hlen := h.dq.len
  have hg0 : giveN x = 0 := by simp [giveN, hd, h6]
  rcases hpc with ⟨hp0, hb, hlim⟩ | ⟨hp1, hb, hlim, hr1⟩ | ⟨hp2, hb, hlim, hr1⟩ | ⟨hp3, hb, hr1, hb1, h3⟩ | ⟨hp4, hb, hr1, hr2, hb1, hlim, ht1, h3⟩ | ⟨hp5, hb, hr1, hlim, ht⟩
  · exact own_silent h hp hd hj _ _ lim (st_take0 h.dq hd h6 hp0 b hb (by omega)) rfl htop htl hlb (by simp [giveN, hd]) id (fun _ _ _ => rfl)
      (.inl ⟨hd, .inr ⟨h6, .inr (.inl ⟨rfl, hb, hlim, rfl⟩)⟩⟩) (by simp [ownM, hd, h6, hp0]) (by simp [ov, hd, h6, hp0])
  · exact own_silent h hp hd hj _ _ lim (st_take1 h.dq hd h6 hp1 (by omega) (by omega)) (by simp) (by rw [getD_set_ne _ _ _ _ (by omega)]; exact htop) htl hlb (by simp [giveN, hd]) id (fun _ _ _ => cellN_head _ _ _ _ _ (by decide))
      (.inl ⟨hd, .inr ⟨h6, .inr (.inr (.inl ⟨rfl, by rw [getD_set_self _ _ _ (by omega)]; exact hr1, hlim, hr1⟩))⟩⟩) (by simp [ownM, hd, h6, hp1]) (by simp [ov, hd, h6, hp1])
  · by_cases hf : x.r1 < xs.getD 0 0
    · have htb : t = b := by omega
      have hc := core_own h hp hd xs { x with r2 := xs.getD 0 0, out := -1, pc := 5 } t b lim rfl htop (Nat.le_refl _) htl hlb hroom (by simp [giveN, hd]) (fun _ h1 => ⟨h1, rfl⟩)
        (.inl ⟨hd, .inr ⟨h6, .inr (.inr (.inr (.inr (.inr ⟨rfl, hb, hr1, hlim, htb⟩))))⟩⟩) (by simp [ownM, hd, h6, hp2])
      refine ⟨_, _, st_take2_none h.dq hd h6 hp2 hf, ⟨t, b, lim, hc.1, ?_⟩, hc.2⟩
      rw [map_mid, conts_nil xs r t b (by omega)] at hj ⊢
      rw [ov_take hd h6 (by omega)] at hj
      rw [ov_take5 (x := { x with r2 := xs.getD 0 0, out := -1, pc := 5 }) h6 rfl]
      exact hJ.takeNone _ _ _ _ (pre_some hp) (suf_none hs) hj
    · by_cases h2 : t + 1 < b
      · exact own_silent h hp hd hj _ _ (b - 1) (st_take2_go h.dq hd h6 hp2 hf) rfl htop (by omega) (by omega) (by simp [giveN, hd]) (by omega) (fun _ _ _ => rfl)
          (.inl ⟨hd, .inr ⟨h6, .inr (.inr (.inr (.inl ⟨rfl, hb, hr1, by omega, .inl ⟨by simp only; omega, by omega⟩⟩)))⟩⟩) (by simp [ownM, hd, h6, hp2]) (by simp [ov, hd, h6, hp2])
      · exact own_silent h hp hd hj _ _ lim (st_take2_go h.dq hd h6 hp2 hf) rfl htop htl hlb (by simp [giveN, hd]) id (fun _ _ _ => rfl)
          (.inl ⟨hd, .inr ⟨h6, .inr (.inr (.inr (.inl ⟨rfl, hb, hr1, by omega, .inr ⟨by simp only; omega, hlim, by omega⟩⟩)))⟩⟩) (by simp [ownM, hd, h6, hp2]) (by simp [ov, hd, h6, hp2])
  · obtain ⟨n, rfl⟩ : ∃ n, b = n + 1 := ⟨b - 1, by omega⟩
    have hn : x.r1 = (n : Int) := by omega
    rcases h3 with ⟨h4, h5⟩ | ⟨h4, h5, h8⟩
    · have hc := core_own h hp hd xs { x with r3 := cellN xs r n, done := true, out := cellN xs r n } t n lim rfl htop (Nat.le_refl _) htl (by omega) (by omega) (by simp [giveN]; omega) (fun _ h1 => ⟨h1, rfl⟩)
        (.inr ⟨rfl, by omega, by omega⟩) (by simp [ownM, hd, h6, hp3])
      refine ⟨_, _, st_take3_done h.dq hd h6 hp3 n hn h4, ⟨t, n, lim, hc.1, ?_⟩, hc.2⟩
      rw [map_mid] at hj ⊢
      rw [conts_snoc xs r t n (by omega), ov_take hd h6 (by omega)] at hj
      rw [ov_done (x := { x with r3 := cellN xs r n, done := true, out := cellN xs r n }) rfl]
      simp only [h6]
      exact hJ.takeWin _ _ _ _ _ _ (pre_some hp) (suf_none hs) hj
    · exact own_silent h hp hd hj _ _ lim (st_take3_last h.dq hd h6 hp3 n hn (by omega)) rfl htop htl hlb (by simp [giveN, hd]) id (fun _ _ _ => rfl)
        (.inl ⟨hd, .inr ⟨h6, .inr (.inr (.inr (.inr (.inl ⟨rfl, hb, hr1, by simp only; omega, hb1, h5, h8, fun e => by rw [show t = n by omega]⟩))))⟩⟩) (by simp [ownM, hd, h6, hp3]) (by simp [ov, hd, h6, hp3])
  · obtain ⟨n, rfl⟩ : ∃ n, b = n + 1 := ⟨b - 1, by omega⟩
    have hn : x.r2 = (n : Int) := by omega
    by_cases htn : t = n
    · subst htn
      have hc := core_own h hp hd (xs.set 0 ((t + 1 : Nat) : Int)) { x with out := x.r3, pc := 5 } (t + 1) (t + 1) lim (by simp) (getD_set_self _ _ _ (by omega)) (by omega) (by omega) hlb (by omega) (by simp [giveN, hd]) (fun e => by omega)
        (.inl ⟨hd, .inr ⟨h6, .inr (.inr (.inr (.inr (.inr ⟨rfl, by rw [getD_set_ne _ _ _ _ (by omega)]; exact hb, hr1, hlim, rfl⟩))))⟩⟩) (by simp [ownM, hd, h6, hp4])
      refine ⟨_, _, st_take4_yes h.dq hd h6 hp4 t hn (by omega) htop, ⟨t + 1, t + 1, lim, hc.1, ?_⟩, hc.2⟩
      rw [map_mid] at hj ⊢
      rw [conts_snoc xs r t t (by omega), conts_nil xs r t t (by omega), ov_take hd h6 (by omega), ← h3 rfl] at hj
      rw [ov_take5 (x := { x with out := x.r3, pc := 5 }) h6 rfl, conts_nil _ r (t + 1) (t + 1) (by omega)]
      exact hJ.takeWin _ _ _ _ _ _ (pre_some hp) (suf_none hs) hj
    · have htb : t = n + 1 := by omega
      have hc := core_own h hp hd xs { x with out := -1, pc := 5 } t (n + 1) lim rfl htop (Nat.le_refl _) htl hlb hroom (by simp [giveN, hd]) (fun _ h1 => ⟨h1, rfl⟩)
        (.inl ⟨hd, .inr ⟨h6, .inr (.inr (.inr (.inr (.inr ⟨rfl, hb, hr1, hlim, htb⟩))))⟩⟩) (by simp [ownM, hd, h6, hp4])
      refine ⟨_, _, st_take4_no h.dq hd h6 hp4 n hn (by omega) (by omega), ⟨t, n + 1, lim, hc.1, ?_⟩, hc.2⟩
      rw [map_mid, conts_nil xs r t (n + 1) (by omega)] at hj ⊢
      rw [ov_take hd h6 (by omega)] at hj
      rw [ov_take5 (x := { x with out := -1, pc := 5 }) h6 rfl]
      exact hJ.takeNone _ _ _ _ (pre_some hp) (suf_none hs) hj
  · exact own_silent h hp hd hj _ _ lim (st_take5 h.dq hd h6 hp5 b hr1 (by omega)) (by simp) (by rw [getD_set_ne _ _ _ _ (by omega)]; exact htop) htl hlb (by simp [giveN, hd]) id (fun _ _ _ => cellN_head _ _ _ _ _ (by decide))
      (.inr ⟨rfl, getD_set_self _ _ _ (by omega), hlim⟩) (by simp [ownM, hd, h6, hp5]) (by simp [ov, hd, h6, hp5])

theorem own_step (hJ : Hist r J) (h : Core r C xs (pre ++ x :: suf) all t b lim) (hj : J (conts xs r t b) ((pre ++ x :: suf).map ov) (all.map tv)) (hp : ∀ y ∈ pre, y.done = true) (hd : x.done = false) : OwnPost r C J xs pre x suf all := by
  obtain ⟨hb, hs⟩ := h.own.here hp hd
  rcases hb with ⟨h1, h2, h3, h4, h5, h6⟩ | ⟨h1, h2⟩
  · exact own_give hJ h hp hd hj hs h1 h2 h3 h4 h5 h6
  · exact own_take hJ h hp hd hj hs h1 h2
end

section
variable {r C : Nat} {J : List Int → List (Int × Int × Option Int) → List (Option Int) → Prop} {xs : List Int} {own pre : List Wk} {x : Wk} {suf : List Wk} {t b lim : Nat}

theorem bot_lim (h : Core r C xs own (pre ++ x :: suf) t b lim) : xs.getD 1 0 ≤ (lim : Int) := by
  rcases h.own.split with ⟨_, h1, h2⟩ | ⟨_, y, _, _, _, _, h3, _⟩
  · omega
  · rcases h3 with ⟨_, _, _, h4, h5, _⟩ | ⟨_, h4⟩
    · omega
    · omega

theorem idle_nil (h : Core r C xs own (pre ++ x :: suf) t b lim) (n : Nat) (h1 : n ≤ t) (h2 : xs.getD 1 0 ≤ (n : Int)) (ha : ∀ o ∈ own.map ov, o.2.2.isSome = true) : b ≤ t := by
  have htl := h.tl
  have hlb := h.lb
  rcases h.own.split with ⟨_, h3, h4⟩ | ⟨p, y, s, rfl, hp, hd, h3, _⟩
  · omega
  · have hy := ha (ov y) (by simp)
    rcases h3 with ⟨h4, _⟩ | ⟨h4, h5⟩
    · rw [ov_give hd h4] at hy; cases hy
    · by_cases hp5 : y.pc = 5
      · omega
      · rw [ov_take hd h4 hp5] at hy; cases hy

theorem thief_step (hJ : Hist r J) (h : Core r C xs own (pre ++ x :: suf) t b lim) (hj : J (conts xs r t b) (own.map ov) ((pre ++ x :: suf).map tv)) (hd : x.done = false) :
    ∃ ys y, stepF xs 0 r x = ⟨0, ys, y⟩ ∧ (∃ t b lim, Core r C ys own (pre ++ y :: suf) t b lim ∧ J (conts ys r t b) (own.map ov) ((pre ++ y :: suf).map tv)) ∧ mu C ys own (pre ++ y :: suf) < mu C xs own (pre ++ x :: suf) := by
  have hbC : b ≤ C := by have := h.bound; omega
  have hC := h.c
  have htl := h.tl
  have hlb := h.lb
  have htop := h.top
  obtain ⟨h5, hx⟩ := h.all x (by simp)
  have silent : ∀ (y : Wk), stepF xs 0 r x = ⟨0, xs, y⟩ → y.done = false → ThInv r xs t lim y → thM C t y < thM C t x →
      ∃ ys y, stepF xs 0 r x = ⟨0, ys, y⟩ ∧ (∃ t b lim, Core r C ys own (pre ++ y :: suf) t b lim ∧ J (conts ys r t b) (own.map ov) ((pre ++ y :: suf).map tv)) ∧ mu C ys own (pre ++ y :: suf) < mu C xs own (pre ++ x :: suf) := by
    intro y h1 h2 h3 h4
    have hc := core_thief h y h3 h4
    refine ⟨xs, y, h1, ⟨t, b, lim, hc.1, ?_⟩, hc.2⟩
    rw [map_mid, tv_not h2, ← tv_not hd, ← map_mid]
    exact hj
  rcases hx with hx | hp0 | ⟨n, hn, hnt, hp1 | ⟨hp2, hl⟩ | ⟨hp3, hl⟩⟩
  · rw [hd] at hx; cases hx
  · exact silent _ (st_steal0 h.dq hd h5 hp0) hd ⟨h5, .inr (.inr ⟨t, htop, Nat.le_refl _, .inl rfl⟩)⟩ (by simp only [thM, hd, hp0, htop]; simp; omega)
  · by_cases hf : xs.getD 1 0 ≤ x.r1
    · have hc := core_thief h { x with r2 := xs.getD 1 0, done := true, out := -1 } ⟨h5, .inl rfl⟩ (by simp [thM, hd, hp1, hn]; omega)
      refine ⟨_, _, st_steal1_none h.dq hd h5 hp1 hf, ⟨t, b, lim, hc.1, ?_⟩, hc.2⟩
      rw [map_mid] at hj ⊢
      rw [tv_not hd] at hj
      rw [tv_done (x := { x with r2 := xs.getD 1 0, done := true, out := -1 }) rfl]
      exact hJ.stealNone _ _ _ _ (fun ha => conts_nil xs r t b (idle_nil h n hnt (by omega) ha)) hj
    · have hbl := bot_lim h
      exact silent _ (st_steal1_go h.dq hd h5 hp1 hf) hd ⟨h5, .inr (.inr ⟨n, hn, hnt, .inr (.inl ⟨rfl, fun e => by omega⟩)⟩)⟩ (by simp [thM, hd, hp1, hn]; omega)
  · exact silent _ (st_steal2 h.dq hd h5 hp2 n hn) hd ⟨h5, .inr (.inr ⟨n, hn, hnt, .inr (.inr ⟨rfl, fun e => ⟨hl e, by rw [e]⟩⟩)⟩)⟩ (by simp [thM, hd, hp2, hn]; omega)
  · by_cases htn : t = n
    · obtain ⟨h6, h7⟩ := hl htn.symm
      have hc := core_stolen h h6 { x with done := true, out := x.r3 } h5 rfl (by simp [thM, hd, hp3, hn]; omega)
      subst htn
      refine ⟨_, _, st_steal3_yes h.dq hd h5 hp3 t hn (by omega) htop, ⟨t + 1, b, lim, hc.1, ?_⟩, hc.2⟩
      rw [map_mid] at hj ⊢
      rw [tv_not hd, conts_cons xs r t b (by omega), ← h7] at hj
      rw [tv_done (x := { x with done := true, out := x.r3 }) rfl, conts_congr _ xs r (t + 1) b (fun n _ _ => cellN_head _ _ _ _ _ (by decide))]
      exact hJ.steal _ _ _ _ _ hj
    · exact silent _ (st_steal3_no h.dq hd h5 hp3 n hn (by omega) (by omega)) hd ⟨h5, .inr (.inl rfl)⟩ (by simp [thM, hd, hp3, hn]; omega)
end

/-- The words of a deque that nobody works on: its top is t, its bottom b. -/
structure Still (xs : List Int) (r t b : Nat) : Prop where
  dq : Dq xs r
  top : xs.getD 0 0 = t
  bot : xs.getD 1 0 = b
  tb : t ≤ b
  room : b ≤ t + r

def FreshT (x : Wk) : Prop := x.done = false ∧ x.pc = 0 ∧ x.job = 5

theorem Hist.and {r : Nat} {J : List Int → List (Int × Int × Option Int) → List (Option Int) → Prop} (h : Hist r J) (K : List (Int × Int)) : Hist r (fun L os ts => J L os ts ∧ os.map (fun o => (o.1, o.2.1)) = K) where
  giveOk L P v S ts h1 h2 h3 h4 h5 := ⟨h.giveOk L P v S ts h1 h2 h3 h4 h5.1, by rw [← h5.2]; simp⟩
  giveFull L P v S ts h1 h2 h3 h5 := ⟨h.giveFull L P v S ts h1 h2 h3 h5.1, by rw [← h5.2]; simp⟩
  takeWin L P v z S ts h1 h2 h5 := ⟨h.takeWin L P v z S ts h1 h2 h5.1, by rw [← h5.2]; simp⟩
  takeNone P z S ts h1 h2 h5 := ⟨h.takeNone P z S ts h1 h2 h5.1, by rw [← h5.2]; simp⟩
  steal L v os P S h5 := ⟨h.steal L v os P S h5.1, h5.2⟩
  stealNone L os P S h1 h5 := ⟨h.stealNone L os P S h1 h5.1, h5.2⟩

theorem gives_le (own : List Wk) : gives own ≤ own.length := by
  unfold gives
  induction own with
  | nil => simp
  | cons x l ih => have : giveN x ≤ 1 := by unfold giveN; split; omega; split <;> omega
                   simp only [List.map_cons, List.sum_cons, List.length_cons]; omega
theorem ownM_fresh (own : List Wk) (h : ∀ y ∈ own, Fresh y) : (own.map ownM).sum ≤ 6 * own.length := by
  induction own with
  | nil => simp
  | cons x l ih =>
    have h1 : ownM x ≤ 6 := by
      obtain ⟨h1, h2, h3⟩ := h x List.mem_cons_self
      unfold ownM; rw [h1, h2]; simp; split <;> omega
    have := ih fun y hy => h y (List.mem_cons_of_mem _ hy)
    simp only [List.map_cons, List.sum_cons, List.length_cons]; omega
theorem thM_fresh (C t : Nat) (all : List Wk) (h : ∀ y ∈ all, FreshT y) : (all.map (thM C t)).sum ≤ 4 * (C + 1) * all.length := by
  induction all with
  | nil => simp
  | cons x l ih =>
    have h1 : thM C t x ≤ 4 * (C + 1) := by
      obtain ⟨h1, h2, h3⟩ := h x List.mem_cons_self
      unfold thM; rw [h1, h2]; simp; omega
    have := ih fun y hy => h y (List.mem_cons_of_mem _ hy)
    simp only [List.map_cons, List.sum_cons, List.length_cons, Nat.mul_succ (4 * (C + 1)) l.length]; omega

/-- ████ Whatever the picks, a run ends well, and leaves what may be told of it. -/
theorem run_main {r C : Nat} {J : List Int → List (Int × Int × Option Int) → List (Option Int) → Prop} (hJ : Hist r J) (picks xs : List Int) (own all : List Wk) (t b : Nat) (hs : Still xs r t b) (hc : C ≤ 1000) (hbound : b + own.length ≤ C)
    (hown : ∀ y ∈ own, Fresh y) (hall : ∀ y ∈ all, FreshT y) (hal : all.length < 64) (hm : 6 * own.length + 4 * (C + 1) * all.length ≤ 100000) (hj : J (conts xs r t b) (own.map ov) (all.map tv)) :
    ∃ ys o a t' b', dRunF 0 r picks xs own all = ⟨0, ys, o, a⟩ ∧ Still ys r t' b' ∧ b' ≤ C ∧ J (conts ys r t' b') (o.map ov) (a.map tv) ∧ (∀ y ∈ o, y.done = true) ∧ (∀ y ∈ a, y.done = true) ∧
      o.length = own.length ∧ a.length = all.length ∧ o.map (fun y => (y.job, y.r0)) = own.map (fun y => (y.job, y.r0)) := by
  have hJ2 := hJ.and (own.map (fun y => (y.job, y.r0)))
  have key := run_ind r picks (fun xs own' all => ∃ t b lim, Core r C xs own' all t b lim ∧ (J (conts xs r t b) (own'.map ov) (all.map tv) ∧ (own'.map ov).map (fun o => (o.1, o.2.1)) = own.map (fun y => (y.job, y.r0)))) (mu C)
    (fun xs pre x suf all ⟨t, b, lim, h1, h2⟩ h3 h4 => own_step hJ2 h1 h2 h3 h4)
    (fun xs own pre x suf ⟨t, b, lim, h1, h2⟩ h4 => thief_step hJ2 h1 h2 h4)
    100000 xs own all (-1)
    ⟨t, b, b, ⟨hs.dq, hc, hs.top, hs.tb, Nat.le_refl _, hs.room, by have := gives_le own; omega, OwnSt.fresh hown ⟨hs.bot, rfl⟩ fun y hy => OwInv.of_fresh ⟨hs.bot, rfl⟩ y hy, fun y hy => ⟨(hall y hy).2.2, .inr (.inl (hall y hy).2.1)⟩⟩, hj, by
      rw [List.map_map]; rfl⟩
    (by unfold mu; have h1 := ownM_fresh own hown; have h2 := thM_fresh C (xs.getD 0 0).toNat all hall; omega)
  obtain ⟨ys, o, a, hr, ⟨t', b', lim, h1, h2, h3⟩, h4, h5⟩ := key
  have hlen := runF_len 0 r picks 100000 xs own all (-1)
  rw [hr] at hlen
  have hidle : ys.getD 1 0 = b' ∧ lim = b' := by
    rcases h1.own.split with ⟨_, h6⟩ | ⟨p, y, s, rfl, _, hd, _⟩
    · exact h6
    · rw [h4 y (by simp)] at hd; cases hd
  have hodd : oddF own all = false := by
    unfold oddF
    rw [Bool.or_eq_false_iff, Bool.or_eq_false_iff]
    refine ⟨⟨by simpa using hal, ?_⟩, ?_⟩
    · rw [List.any_eq_false]
      intro y hy
      rcases (hown y hy).2.2 with h7 | h7
      · rw [h7.1]; decide
      · rw [h7]; decide
    · rw [List.any_eq_false]
      intro y hy
      rw [(hall y hy).2.2]; decide
  refine ⟨ys, o, a, t', b', ?_, ⟨h1.dq, h1.top, hidle.1, by have := h1.tl; omega, h1.room⟩, by have := h1.bound; omega, h2, h4, h5, hlen.2.1, hlen.2.2, ?_⟩
  · unfold dRunF
    rw [if_neg (by rw [hodd]; decide), hr]
    simp
  · rw [← h3, List.map_map]; rfl

end Go.Proofs.Ytdnajckhnknlcaa

/-! What may be told of runs: an owner alone; one thief alone; thieves alone; each task once. -/
namespace Go.Proofs.Ytdnajckhnknlcaa
set_option linter.unusedVariables false
set_option linter.unusedSimpArgs false
open Go.RowKit

/-- One job of an owner alone: what comes of it, and what is in the deque then. -/
def oneF (r : Nat) (j v : Int) (now : List Int) : Int × List Int :=
  if j = 7 then (if now.length < r then (v, now ++ [v]) else (-1, now))
  else match now.getLast? with | some x => (x, now.dropLast) | none => (-1, now)

def seqF (r : Nat) : List (Int × Int) → List Int → List Int × List Int
  | [], now => ([], now)
  | (j, v) :: rest, now => ((oneF r j v now).1 :: (seqF r rest (oneF r j v now).2).1, (seqF r rest (oneF r j v now).2).2)

def okF (r : Nat) : List (Int × Int × Option Int) → List Int → Option (List Int)
  | [], now => some now
  | (j, v, o) :: rest, now => match o with
    | none => some now
    | some u => if u = (oneF r j v now).1 then okF r rest (oneF r j v now).2 else none

theorem okF_append (r : Nat) (P X : List (Int × Int × Option Int)) (hP : ∀ p ∈ P, p.2.2.isSome = true) : ∀ now, okF r (P ++ X) now = (okF r P now).bind fun l => okF r X l := by
  induction P with
  | nil => intro now; rfl
  | cons p P ih =>
    intro now
    obtain ⟨j, v, o⟩ := p
    have ho := hP _ List.mem_cons_self
    cases o with
    | none => cases ho
    | some u =>
      simp only [List.cons_append, okF]
      split
      · exact ih (fun q hq => hP q (List.mem_cons_of_mem _ hq)) _
      · rfl

theorem okF_none (r : Nat) (S : List (Int × Int × Option Int)) (hS : ∀ s ∈ S, s.2.2 = none) (now : List Int) : okF r S now = some now := by
  cases S with
  | nil => rfl
  | cons s S =>
    obtain ⟨j, v, o⟩ := s
    have ho := hS _ List.mem_cons_self
    simp only at ho
    subst ho; rfl

theorem okF_next (r : Nat) (L0 L : List Int) (P S : List (Int × Int × Option Int)) (j v : Int) (hP : ∀ p ∈ P, p.2.2.isSome = true) (hS : ∀ s ∈ S, s.2.2 = none) (h : okF r (P ++ (j, v, none) :: S) L0 = some L) :
    okF r (P ++ (j, v, some (oneF r j v L).1) :: S) L0 = some (oneF r j v L).2 := by
  rw [okF_append r P _ hP] at h ⊢
  cases h1 : okF r P L0 with
  | none => rw [h1] at h; cases h
  | some l =>
    rw [h1] at h
    have : l = L := by simpa [okF] using h
    subst this
    simp only [Option.bind_some, okF, if_true]
    exact okF_none r S hS _

/-- An owner alone. -/
theorem hist_own (r : Nat) (L0 : List Int) : Hist r (fun L os ts => ts = [] ∧ okF r os L0 = some L) where
  giveOk L P v S ts h1 h2 h3 h4 h5 := ⟨h5.1, by have := okF_next r L0 L P S 7 v h1 h2 h5.2; simpa [oneF, h3] using this⟩
  giveFull L P v S ts h1 h2 h3 h5 := ⟨h5.1, by have := okF_next r L0 L P S 7 v h1 h2 h5.2; simpa [oneF, h3] using this⟩
  takeWin L P v z S ts h1 h2 h5 := ⟨h5.1, by have := okF_next r L0 (L ++ [v]) P S 6 z h1 h2 h5.2; simpa [oneF] using this⟩
  takeNone P z S ts h1 h2 h5 := ⟨h5.1, by have := okF_next r L0 [] P S 6 z h1 h2 h5.2; simpa [oneF] using this⟩
  steal L v os P S h5 := by have := h5.1; simp at this
  stealNone L os P S h1 h5 := by have := h5.1; simp at this

theorem okF_done (r : Nat) (o : List Wk) (ho : ∀ y ∈ o, y.done = true) : ∀ now L, okF r (o.map ov) now = some L →
    o.map Wk.out = (seqF r (o.map fun y => (y.job, y.r0)) now).1 ∧ L = (seqF r (o.map fun y => (y.job, y.r0)) now).2 := by
  induction o with
  | nil => intro now L h; simp only [List.map_nil, okF, Option.some.injEq] at h; subst h; exact ⟨rfl, rfl⟩
  | cons x o ih =>
    intro now L h
    simp only [List.map_cons, ov_done (ho x List.mem_cons_self), okF] at h
    split at h
    · rename_i hx
      obtain ⟨h1, h2⟩ := ih (fun y hy => ho y (List.mem_cons_of_mem _ hy)) _ _ h
      simp only [List.map_cons, seqF]
      exact ⟨by rw [hx, h1], h2⟩
    · cases h

/-- ████ An owner alone: each job as it is told. -/
theorem run_owner {r C : Nat} (picks xs : List Int) (own : List Wk) (t b : Nat) (hs : Still xs r t b) (hc : C ≤ 1000) (hbound : b + own.length ≤ C) (hown : ∀ y ∈ own, Fresh y) (L0 : List Int) (hL : conts xs r t b = L0) :
    ∃ ys o t' b', dRunF 0 r picks xs own [] = ⟨0, ys, o, []⟩ ∧ Still ys r t' b' ∧ b' ≤ C ∧ conts ys r t' b' = (seqF r (own.map fun y => (y.job, y.r0)) L0).2 ∧ o.map Wk.out = (seqF r (own.map fun y => (y.job, y.r0)) L0).1 ∧ o.length = own.length ∧
      o.map (fun y => (y.job, y.r0)) = own.map (fun y => (y.job, y.r0)) := by
  obtain ⟨ys, o, a, t', b', h1, h2, h3, h4, h5, h6, h7, h8, h9⟩ := run_main (hist_own r L0) picks xs own [] t b hs hc hbound hown (by simp) (by simp) (by have := hs.bot; simp; omega)
    ⟨rfl, by rw [okF_none r _ (suf_none hown), hL]⟩
  obtain rfl : a = [] := List.eq_nil_of_length_eq_zero h8
  obtain ⟨e1, e2⟩ := okF_done r o h5 _ _ h4.2
  rw [h9] at e1 e2
  exact ⟨ys, o, t', b', h1, h2, h3, e2, e1, h7, h9⟩

/-- One thief alone. -/
theorem hist_thief (r : Nat) (L0 : List Int) : Hist r (fun L os ts => os = [] ∧ ((ts = [none] ∧ L = L0) ∨ (∃ x, L0 = x :: L ∧ ts = [some x]) ∨ (L0 = [] ∧ L = [] ∧ ts = [some (-1)]))) where
  giveOk L P v S ts h1 h2 h3 h4 h5 := by have := h5.1; simp at this
  giveFull L P v S ts h1 h2 h3 h5 := by have := h5.1; simp at this
  takeWin L P v z S ts h1 h2 h5 := by have := h5.1; simp at this
  takeNone P z S ts h1 h2 h5 := by have := h5.1; simp at this
  steal L v os P S h5 := by
    refine ⟨h5.1, ?_⟩
    rcases h5.2 with ⟨h, h'⟩ | ⟨x, _, h⟩ | ⟨_, _, h⟩
    · cases P with
      | nil => simp only [List.nil_append, List.cons.injEq] at h
               obtain ⟨_, rfl⟩ := h
               exact .inr (.inl ⟨v, h'.symm, rfl⟩)
      | cons p P => simp at h
    all_goals cases P with
      | nil => simp at h
      | cons p P => simp at h
  stealNone L os P S h1 h5 := by
    refine ⟨h5.1, ?_⟩
    have hn := h1 (by rw [h5.1]; simp)
    rcases h5.2 with ⟨h, h'⟩ | ⟨x, _, h⟩ | ⟨_, _, h⟩
    · cases P with
      | nil => simp only [List.nil_append, List.cons.injEq] at h
               obtain ⟨_, rfl⟩ := h
               exact .inr (.inr ⟨by rw [← h', hn], hn, rfl⟩)
      | cons p P => simp at h
    all_goals cases P with
      | nil => simp at h
      | cons p P => simp at h

/-- What one thief finds: the first one, or none. -/
def thiefF (L : List Int) : Int := match L with | [] => -1 | x :: _ => x

theorem freshT_steal (k : Nat) (s : Wk) (hs : FreshT s) : ∀ y ∈ List.replicate k s, FreshT y := by
  intro y hy
  rw [List.mem_replicate] at hy
  rw [hy.2]; exact hs

theorem run_thief {r C : Nat} (picks xs : List Int) (s : Wk) (hs5 : FreshT s) (t b : Nat) (hs : Still xs r t b) (hc : C ≤ 1000) (hbound : b ≤ C) (L0 : List Int) (hL : conts xs r t b = L0) :
    ∃ ys y t' b', dRunF 0 r picks xs [] [s] = ⟨0, ys, [], [y]⟩ ∧ Still ys r t' b' ∧ b' ≤ C ∧ conts ys r t' b' = L0.tail ∧ y.out = thiefF L0 := by
  obtain ⟨ys, o, a, t', b', h1, h2, h3, h4, h5, h6, h7, h8, h9⟩ := run_main (hist_thief r L0) picks xs [] [s] t b hs hc (by simpa using hbound) (by simp) (by simpa using hs5) (by simp) (by simp; omega)
    ⟨rfl, .inl ⟨by simp [tv_not hs5.1], hL⟩⟩
  obtain rfl : o = [] := List.eq_nil_of_length_eq_zero h7
  obtain ⟨y, rfl⟩ : ∃ y, a = [y] := List.length_eq_one_iff.1 h8
  have hy := h6 y (by simp)
  refine ⟨ys, y, t', b', h1, h2, h3, ?_⟩
  simp only [List.map_cons, List.map_nil, tv_done hy, List.cons.injEq, and_true] at h4
  rcases h4.2 with ⟨h, _⟩ | ⟨x, h, h'⟩ | ⟨h, h', h''⟩
  · cases h
  · exact ⟨by rw [h]; rfl, by rw [h]; exact Option.some.inj h'⟩
  · exact ⟨by rw [h, h']; rfl, by rw [h]; exact Option.some.inj h''⟩

/-- What thieves, an owner's takes and an owner's gives came to. -/
def goneT (ts : List (Option Int)) : List Int := ts.filterMap fun o => o.filter fun v => decide (0 ≤ v)
def goneO (os : List (Int × Int × Option Int)) : List Int := os.filterMap fun o => if o.1 = 7 then none else o.2.2.filter fun v => decide (0 ≤ v)
def givenO (os : List (Int × Int × Option Int)) : List Int := os.filterMap fun o => if o.1 = 7 then o.2.2.filter (fun v => decide (0 ≤ v)) else none

theorem goneT_mid (P S : List (Option Int)) (o : Option Int) : goneT (P ++ o :: S) = goneT P ++ (goneT [o] ++ goneT S) := by
  unfold goneT; rw [← List.filterMap_append, ← List.filterMap_append]; rfl
theorem goneO_mid (P S : List (Int × Int × Option Int)) (o : Int × Int × Option Int) : goneO (P ++ o :: S) = goneO P ++ (goneO [o] ++ goneO S) := by
  unfold goneO; rw [← List.filterMap_append, ← List.filterMap_append]; rfl
theorem givenO_mid (P S : List (Int × Int × Option Int)) (o : Int × Int × Option Int) : givenO (P ++ o :: S) = givenO P ++ (givenO [o] ++ givenO S) := by
  unfold givenO; rw [← List.filterMap_append, ← List.filterMap_append]; rfl
theorem goneT_snoc (P : List (Option Int)) (o : Option Int) : goneT (P ++ [o]) = goneT P ++ goneT [o] := by unfold goneT; rw [← List.filterMap_append]
theorem goneO_snoc (P : List (Int × Int × Option Int)) (o : Int × Int × Option Int) : goneO (P ++ [o]) = goneO P ++ goneO [o] := by unfold goneO; rw [← List.filterMap_append]
theorem givenO_snoc (P : List (Int × Int × Option Int)) (o : Int × Int × Option Int) : givenO (P ++ [o]) = givenO P ++ givenO [o] := by unfold givenO; rw [← List.filterMap_append]

theorem goneT_none : goneT [none] = [] := rfl
theorem goneT_yes (v : Int) (h : 0 ≤ v) : goneT [some v] = [v] := by simp [goneT, List.filterMap_cons, Option.filter, h]
theorem goneT_no (v : Int) (h : v < 0) : goneT [some v] = [] := by simp [goneT]; omega
theorem goneO_none (j z : Int) : goneO [(j, z, none)] = [] := by simp [goneO]
theorem goneO_give (z : Int) (o : Option Int) : goneO [(7, z, o)] = [] := by simp [goneO]
theorem goneO_yes (j z v : Int) (hj : j ≠ 7) (h : 0 ≤ v) : goneO [(j, z, some v)] = [v] := by simp [goneO, List.filterMap_cons, Option.filter, h, hj]
theorem goneO_no (j z v : Int) (h : v < 0) : goneO [(j, z, some v)] = [] := by simp [goneO]; intro _; omega
theorem givenO_none (j z : Int) : givenO [(j, z, none)] = [] := by simp [givenO]
theorem givenO_other (j z : Int) (o : Option Int) (hj : j ≠ 7) : givenO [(j, z, o)] = [] := by simp [givenO, hj]
theorem givenO_yes (z v : Int) (h : 0 ≤ v) : givenO [(7, z, some v)] = [v] := by simp [givenO, List.filterMap_cons, Option.filter, h]
theorem givenO_no (j z v : Int) (h : v < 0) : givenO [(j, z, some v)] = [] := by simp [givenO]; intro _; omega

/-- Each task that was given is taken, or stolen, or in the deque, once. -/
structure Onces (L0 L : List Int) (os : List (Int × Int × Option Int)) (ts : List (Option Int)) : Prop where
  cnt : ∀ z, (goneO os).count z + (goneT ts).count z + L.count z = L0.count z + (givenO os).count z
  pos : ∀ v ∈ L, 0 ≤ v
  give : ∀ o ∈ os, ∀ w, o.2.2 = some w → o.1 = 7 → w = o.2.1 ∨ w = -1
  own : ∀ o ∈ os, ∀ w, o.2.2 = some w → w = -1 ∨ 0 ≤ w
  all : ∀ w, some w ∈ ts → w = -1 ∨ 0 ≤ w

theorem mem_mid {α : Type _} {P : List α} {x y : α} {S : List α} {Q : α → Prop} (h : ∀ z ∈ P ++ x :: S, Q z) (hy : Q y) : ∀ z ∈ P ++ y :: S, Q z := by
  intro z hz
  simp only [List.mem_append, List.mem_cons] at hz
  rcases hz with hz | rfl | hz
  · exact h z (by simp [hz])
  · exact hy
  · exact h z (by simp [hz])

theorem hist_once (r : Nat) (L0 : List Int) : Hist r (Onces L0) where
  giveOk L P v S ts h1 h2 h3 h4 h5 := by
    refine ⟨fun z => ?_, ?_, mem_mid h5.give (by intro w hw _; simp at hw; exact .inl hw.symm), mem_mid h5.own (by intro w hw; simp at hw; omega), h5.all⟩
    · have := h5.cnt z
      rw [goneO_mid, givenO_mid] at this ⊢
      rw [goneO_give, givenO_none] at this
      rw [goneO_give, givenO_yes _ _ h4]
      simp only [List.count_append, List.count_nil] at this ⊢
      omega
    · intro u hu
      simp only [List.mem_append, List.mem_singleton] at hu
      rcases hu with hu | rfl
      · exact h5.pos u hu
      · exact h4
  giveFull L P v S ts h1 h2 h3 h5 := by
    refine ⟨fun z => ?_, h5.pos, mem_mid h5.give (by intro w hw _; simp at hw; exact .inr hw.symm), mem_mid h5.own (by intro w hw; simp at hw; omega), h5.all⟩
    have := h5.cnt z
    rw [goneO_mid, givenO_mid] at this ⊢
    rw [goneO_give, givenO_none] at this
    rw [goneO_give, givenO_no _ _ _ (by decide)]
    exact this
  takeWin L P v z S ts h1 h2 h5 := by
    have hv : 0 ≤ v := h5.pos v (by simp)
    refine ⟨fun u => ?_, fun u hu => h5.pos u (by simp [hu]), mem_mid h5.give (by intro w _ hj; simp at hj), mem_mid h5.own (by intro w hw; simp at hw; omega), h5.all⟩
    have := h5.cnt u
    rw [goneO_mid, givenO_mid] at this ⊢
    rw [goneO_none, givenO_none] at this
    rw [goneO_yes _ _ _ (by decide) hv, givenO_other _ _ _ (by decide)]
    simp only [List.count_append, List.count_nil] at this ⊢
    omega
  takeNone P z S ts h1 h2 h5 := by
    refine ⟨fun u => ?_, h5.pos, mem_mid h5.give (by intro w _ hj; simp at hj), mem_mid h5.own (by intro w hw; simp at hw; omega), h5.all⟩
    have := h5.cnt u
    rw [goneO_mid, givenO_mid] at this ⊢
    rw [goneO_none, givenO_none] at this
    rw [goneO_no _ _ _ (by decide), givenO_no _ _ _ (by decide)]
    exact this
  steal L v os P S h5 := by
    have hv : 0 ≤ v := h5.pos v (by simp)
    refine ⟨fun u => ?_, fun u hu => h5.pos u (by simp [hu]), h5.give, h5.own, fun w hw => ?_⟩
    · have := h5.cnt u
      rw [goneT_mid] at this ⊢
      rw [goneT_none] at this
      rw [goneT_yes _ hv]
      rw [show v :: L = [v] ++ L from rfl] at this
      simp only [List.count_append, List.count_nil] at this ⊢
      omega
    · simp only [List.mem_append, List.mem_cons, Option.some.injEq] at hw
      rcases hw with hw | rfl | hw
      · exact h5.all w (by simp [hw])
      · exact .inr hv
      · exact h5.all w (by simp [hw])
  stealNone L os P S h1 h5 := by
    refine ⟨fun u => ?_, h5.pos, h5.give, h5.own, fun w hw => ?_⟩
    · have := h5.cnt u
      rw [goneT_mid] at this ⊢
      rw [goneT_none] at this
      rw [goneT_no _ (by decide)]
      exact this
    · simp only [List.mem_append, List.mem_cons, Option.some.injEq] at hw
      rcases hw with hw | rfl | hw
      · exact h5.all w (by simp [hw])
      · exact .inl rfl
      · exact h5.all w (by simp [hw])

theorem onces_start (L0 : List Int) (h0 : ∀ v ∈ L0, 0 ≤ v) (own all : List Wk) (ho : ∀ y ∈ own, Fresh y) (ha : ∀ y ∈ all, FreshT y) : Onces L0 L0 (own.map ov) (all.map tv) := by
  have e1 := suf_none ho
  have e2 : ∀ s ∈ all.map tv, s = none := by
    intro s hs
    obtain ⟨y, hy, rfl⟩ := List.mem_map.1 hs
    exact tv_not (ha y hy).1
  have g1 : goneO (own.map ov) = [] := by
    unfold goneO; rw [List.filterMap_eq_nil_iff]; intro s hs; rw [e1 s hs]; simp
  have g2 : givenO (own.map ov) = [] := by
    unfold givenO; rw [List.filterMap_eq_nil_iff]; intro s hs; rw [e1 s hs]; simp
  have g3 : goneT (all.map tv) = [] := by
    unfold goneT; rw [List.filterMap_eq_nil_iff]; intro s hs; rw [e2 s hs]; simp
  refine ⟨fun z => by rw [g1, g2, g3]; simp, h0, fun o ho w hw => ?_, fun o ho w hw => ?_, fun w hw => ?_⟩
  · rw [e1 o ho] at hw; cases hw
  · rw [e1 o ho] at hw; cases hw
  · have := e2 _ hw; cases this

end Go.Proofs.Ytdnajckhnknlcaa

/-! Thieves alone; the last task; where a deque stands; the tasks that are in it. -/
namespace Go.Proofs.Ytdnajckhnknlcaa
set_option linter.unusedVariables false
set_option linter.unusedSimpArgs false
open Go.RowKit

/-- Thieves alone take what was given first. -/
def ThiefJ (L0 L : List Int) (os : List (Int × Int × Option Int)) (ts : List (Option Int)) : Prop :=
  os = [] ∧ (∃ m, m ≤ L0.length ∧ L = L0.drop m ∧ (∀ z, (goneT ts).count z = (L0.take m).count z) ∧ (goneT ts).length = m) ∧ (some (-1) ∈ ts → L = []) ∧ ∀ w, some w ∈ ts → w = -1 ∨ 0 ≤ w

theorem hist_thieves (r : Nat) (L0 : List Int) (h0 : ∀ v ∈ L0, 0 ≤ v) : Hist r (ThiefJ L0) where
  giveOk L P v S ts h1 h2 h3 h4 h5 := by have := h5.1; simp at this
  giveFull L P v S ts h1 h2 h3 h5 := by have := h5.1; simp at this
  takeWin L P v z S ts h1 h2 h5 := by have := h5.1; simp at this
  takeNone P z S ts h1 h2 h5 := by have := h5.1; simp at this
  steal L v os P S h5 := by
    obtain ⟨ho, ⟨m, hm, hL, hc, hl⟩, hn, hp⟩ := h5
    have hv : 0 ≤ v := h0 v (List.mem_of_mem_drop (by rw [← hL]; simp))
    have hml : m < L0.length := by
      have := congrArg List.length hL
      simp at this; omega
    rw [List.drop_eq_getElem_cons hml, List.cons.injEq] at hL
    refine ⟨ho, ⟨m + 1, by omega, hL.2, fun z => ?_, ?_⟩, fun hw => ?_, fun w hw => ?_⟩
    · have := hc z
      rw [goneT_mid, goneT_none] at this
      rw [goneT_mid, goneT_yes _ hv, ← List.take_append_getElem hml, ← hL.1]
      simp only [List.count_append, List.count_nil] at this ⊢
      omega
    · rw [goneT_mid, goneT_none] at hl
      rw [goneT_mid, goneT_yes _ hv]
      simp at hl ⊢; omega
    · have : some (-1) ∈ P ++ none :: S := by
        simp only [List.mem_append, List.mem_cons, Option.some.injEq] at hw ⊢
        rcases hw with hw | rfl | hw
        · exact .inl hw
        · omega
        · exact .inr (.inr hw)
      exact absurd (hn this) (by simp)
    · simp only [List.mem_append, List.mem_cons, Option.some.injEq] at hw
      rcases hw with hw | rfl | hw
      · exact hp w (by simp [hw])
      · exact .inr hv
      · exact hp w (by simp [hw])
  stealNone L os P S h1 h5 := by
    obtain ⟨ho, ⟨m, hm, hL, hc, hl⟩, hn, hp⟩ := h5
    refine ⟨ho, ⟨m, hm, hL, fun z => ?_, ?_⟩, fun _ => h1 (by rw [ho]; simp), fun w hw => ?_⟩
    · have := hc z
      rw [goneT_mid, goneT_none] at this
      rw [goneT_mid, goneT_no _ (by decide)]; exact this
    · rw [goneT_mid, goneT_none] at hl
      rw [goneT_mid, goneT_no _ (by decide)]; exact hl
    · simp only [List.mem_append, List.mem_cons, Option.some.injEq] at hw
      rcases hw with hw | rfl | hw
      · exact hp w (by simp [hw])
      · exact .inl rfl
      · exact hp w (by simp [hw])

def posF (us : List Int) : List Int := us.filter fun v => decide (0 ≤ v)

theorem goneT_out (a : List Wk) (h : ∀ y ∈ a, y.done = true) : goneT (a.map tv) = posF (a.map Wk.out) := by
  induction a with
  | nil => rfl
  | cons x a ih =>
    have := ih fun y hy => h y (List.mem_cons_of_mem _ hy)
    have e := goneT_mid [] (a.map tv) (some x.out)
    rw [List.nil_append] at e
    rw [List.map_cons, tv_done (h x List.mem_cons_self), e, this]
    unfold posF
    by_cases hx : 0 ≤ x.out
    · rw [goneT_yes _ hx, List.map_cons, List.filter_cons_of_pos (by simpa using hx)]; rfl
    · rw [goneT_no _ (by omega), List.map_cons, List.filter_cons_of_neg (by simpa using hx)]; rfl

theorem count_out (a : List Wk) (h : ∀ y ∈ a, y.done = true) (w : Int) : some w ∈ a.map tv ↔ w ∈ a.map Wk.out := by
  simp only [List.mem_map]
  constructor
  · rintro ⟨y, hy, e⟩; rw [tv_done (h y hy)] at e; exact ⟨y, hy, Option.some.inj e⟩
  · rintro ⟨y, hy, e⟩; exact ⟨y, hy, by rw [tv_done (h y hy), e]⟩

/-- ████ Thieves alone. -/
theorem run_thieves {r C : Nat} (picks xs : List Int) (s : Wk) (hs5 : FreshT s) (k : Nat) (hk : k < 16) (t b : Nat) (hs : Still xs r t b) (hc : C ≤ 1000) (hbound : b ≤ C) (L0 : List Int) (hL : conts xs r t b = L0) (h0 : ∀ v ∈ L0, 0 ≤ v) :
    ∃ ys a t' b', dRunF 0 r picks xs [] (List.replicate k s) = ⟨0, ys, [], a⟩ ∧ Still ys r t' b' ∧ b' ≤ C ∧ a.length = k ∧ conts ys r t' b' = L0.drop (min L0.length k) ∧
      (posF (a.map Wk.out)).Perm (L0.take (min L0.length k)) ∧ ∀ u ∈ a.map Wk.out, u = -1 ∨ 0 ≤ u := by
  obtain ⟨ys, o, a, t', b', h1, h2, h3, ⟨_, ⟨m, hm, hLm, hcnt, hl⟩, hn, hp⟩, h5, h6, h7, h8, h9⟩ := run_main (hist_thieves r L0 h0) picks xs [] (List.replicate k s) t b hs hc (by simpa using hbound) (by simp) (freshT_steal k s hs5) (by simp; omega)
    (by simp; exact Nat.le_trans (Nat.mul_le_mul (Nat.mul_le_mul (Nat.le_refl 4) (show C + 1 ≤ 1001 by omega)) (show k ≤ 15 by omega)) (by decide))
    ⟨rfl, ⟨0, by omega, by simpa using hL, by
      have : goneT ((List.replicate k s).map tv) = [] := by
        unfold goneT; rw [List.filterMap_eq_nil_iff]; intro u hu
        simp only [List.map_replicate, List.mem_replicate] at hu
        rw [hu.2, tv_not hs5.1]; rfl
      rw [this]; exact ⟨fun z => by simp, rfl⟩⟩, by
      intro (hw : some (-1) ∈ (List.replicate k s).map tv)
      simp only [List.map_replicate, List.mem_replicate, tv_not hs5.1] at hw
      exact absurd hw.2 (by simp), by
      intro w hw
      simp only [List.map_replicate, List.mem_replicate, tv_not hs5.1] at hw
      exact absurd hw.2 (by simp)⟩
  obtain rfl : o = [] := List.eq_nil_of_length_eq_zero h7
  rw [List.length_replicate] at h8
  have hg := goneT_out a h6
  rw [hg] at hcnt hl
  have hmk : m ≤ k := by
    rw [← hl, ← h8]
    unfold posF
    have := List.length_filter_le (fun v => decide (0 ≤ v)) (a.map Wk.out)
    simpa using this
  have hout : ∀ u ∈ a.map Wk.out, u = -1 ∨ 0 ≤ u := fun u hu => hp u ((count_out a h6 u).2 hu)
  have hmin : m = min L0.length k := by
    by_cases hneg : (-1 : Int) ∈ a.map Wk.out
    · have := hn ((count_out a h6 _).2 hneg)
      rw [hLm] at this
      have := congrArg List.length this
      simp at this; omega
    · have : posF (a.map Wk.out) = a.map Wk.out := by
        unfold posF; rw [List.filter_eq_self]; intro u hu
        rcases hout u hu with rfl | h
        · exact absurd hu hneg
        · simpa using h
      rw [this] at hl
      simp at hl; omega
  refine ⟨ys, a, t', b', h1, h2, h3, h8, by rw [hLm, hmin], ?_, hout⟩
  rw [← hmin, List.perm_iff_count]
  exact hcnt

/-- The last task: an owner that takes, and thieves. -/
def LastJ (x : Int) (L : List Int) (os : List (Int × Int × Option Int)) (ts : List (Option Int)) : Prop :=
  Onces [x] L os ts ∧ ∃ z o, os = [(6, z, o)] ∧ (o.isSome = true → L = [])

theorem onces_len {x : Int} {L : List Int} {z : Int} {o : Option Int} {ts : List (Option Int)} (h : Onces [x] L [(6, z, o)] ts) : L.length ≤ 1 := by
  have e : (goneO [(6, z, o)] ++ goneT ts ++ L).Perm [x] := by
    rw [List.perm_iff_count]; intro u
    have := h.cnt u
    rw [givenO_other _ _ _ (by decide)] at this
    simp only [List.count_append, List.count_nil] at this ⊢
    omega
  have := e.length_eq
  simp at this; omega

theorem single_mid {α : Type _} {P S : List α} {x y : α} (h : P ++ x :: S = [y]) : P = [] ∧ S = [] ∧ x = y := by
  cases P with
  | nil => simp at h; exact ⟨rfl, h.2, h.1⟩
  | cons p P => simp at h

theorem hist_last (r : Nat) (x : Int) : Hist r (LastJ x) where
  giveOk L P v S ts h1 h2 h3 h4 h5 := by
    obtain ⟨_, z, o, h, _⟩ := h5
    have := (single_mid h).2.2
    simp at this
  giveFull L P v S ts h1 h2 h3 h5 := by
    obtain ⟨_, z, o, h, _⟩ := h5
    have := (single_mid h).2.2
    simp at this
  takeWin L P v z S ts h1 h2 h5 := by
    refine ⟨(hist_once r [x]).takeWin L P v z S ts h1 h2 h5.1, ?_⟩
    obtain ⟨h6, z', o, h, _⟩ := h5
    obtain ⟨rfl, rfl, h7⟩ := single_mid h
    refine ⟨z, some v, rfl, fun _ => ?_⟩
    rw [h] at h6
    have := onces_len h6
    simp at this
    exact this
  takeNone P z S ts h1 h2 h5 := by
    refine ⟨(hist_once r [x]).takeNone P z S ts h1 h2 h5.1, ?_⟩
    obtain ⟨h6, z', o, h, _⟩ := h5
    obtain ⟨rfl, rfl, h7⟩ := single_mid h
    exact ⟨z, some (-1), rfl, fun _ => rfl⟩
  steal L v os P S h5 := by
    refine ⟨(hist_once r [x]).steal L v os P S h5.1, ?_⟩
    obtain ⟨h6, z', o, h, h7⟩ := h5
    exact ⟨z', o, h, fun ho => by have := h7 ho; cases this⟩
  stealNone L os P S h1 h5 := by
    refine ⟨(hist_once r [x]).stealNone L os P S h1 h5.1, ?_⟩
    obtain ⟨h6, z', o, h, h7⟩ := h5
    exact ⟨z', o, h, h7⟩

theorem count_pos (us : List Int) (x : Int) (hx : 0 ≤ x) : (posF us).count x = us.count x := by
  unfold posF; rw [List.count_filter]; simpa using hx

/-- ████ Of the last task there is one winner. -/
theorem run_last {r C : Nat} (picks xs : List Int) (s w : Wk) (hs5 : FreshT s) (hw : Fresh w) (hw6 : w.job = 6) (k : Nat) (hk : k < 16) (t b : Nat) (hs : Still xs r t b) (hc : C ≤ 1000) (hbound : b + 1 ≤ C) (x : Int) (hx : 0 ≤ x) (hL : conts xs r t b = [x]) :
    ∃ ys y a t' b', dRunF 0 r picks xs [w] (List.replicate k s) = ⟨0, ys, [y], a⟩ ∧ Still ys r t' b' ∧ b' ≤ C ∧ a.length = k ∧ conts ys r t' b' = [] ∧
      (y.out = x ∨ y.out = -1) ∧ (∀ u ∈ a.map Wk.out, u = x ∨ u = -1) ∧ (a.map Wk.out).count x + [y.out].count x = 1 := by
  obtain ⟨ys, o, a, t', b', h1, h2, h3, ⟨h4, z, oo, hos, hnil⟩, h5, h6, h7, h8, h9⟩ := run_main (hist_last r x) picks xs [w] (List.replicate k s) t b hs hc (by simpa using hbound) (by simpa using hw) (freshT_steal k s hs5) (by simp; omega)
    (by simp; exact Nat.le_trans (Nat.add_le_add (Nat.le_refl 6) (Nat.mul_le_mul (Nat.mul_le_mul (Nat.le_refl 4) (show C + 1 ≤ 1001 by omega)) (show k ≤ 15 by omega))) (by decide))
    ⟨by rw [hL]; exact onces_start [x] (by simpa using hx) [w] _ (by simpa using hw) (freshT_steal k s hs5), w.r0, none, by simp [ov, hw.1, hw6, hw.2.1], by simp⟩
  obtain ⟨y, rfl⟩ : ∃ y, o = [y] := List.length_eq_one_iff.1 (by simpa using h7)
  rw [List.length_replicate] at h8
  have hy := h5 y (by simp)
  simp only [List.map_cons, List.map_nil, ov_done hy, List.cons.injEq, and_true] at hos
  have hj : y.job = 6 := by rw [Prod.mk.injEq] at hos; exact hos.1
  have hoo : oo = some y.out := by rw [Prod.mk.injEq, Prod.mk.injEq] at hos; exact hos.2.2.symm
  have hcn := hnil (by rw [hoo]; rfl)
  have hg := goneT_out a h6
  have hcnt := h4.cnt
  simp only [List.map_cons, List.map_nil, ov_done hy, hj, givenO_other _ _ _ (show (6 : Int) ≠ 7 by decide), hcn, hg, List.count_nil, Nat.add_zero] at hcnt
  have hyo : y.out = -1 ∨ 0 ≤ y.out := h4.own (ov y) (by simp) y.out (by rw [ov_done hy])
  have hmemT : ∀ u ∈ a.map Wk.out, u = -1 ∨ 0 ≤ u := fun u hu => h4.all u ((count_out a h6 u).2 hu)
  refine ⟨ys, y, a, t', b', h1, h2, h3, h8, hcn, ?_, ?_, ?_⟩
  · rcases hyo with h | h
    · exact .inr h
    · have h10 := hcnt y.out
      rw [goneO_yes _ _ _ (by decide) h] at h10
      by_cases e : y.out = x
      · exact .inl e
      · rw [List.count_singleton_self, List.count_eq_zero.2 (show y.out ∉ [x] by simpa using e)] at h10; omega
  · intro u hu
    rcases hmemT u hu with h | h
    · exact .inr h
    · have h10 := hcnt u
      by_cases e : u = x
      · exact .inl e
      · rw [count_pos _ _ h, List.count_eq_zero.2 (show u ∉ [x] by simpa using e)] at h10
        have := List.count_pos_iff.2 hu
        omega
  · have h10 := hcnt x
    rw [count_pos _ _ hx, List.count_singleton_self] at h10
    rcases hyo with h | h
    · rw [goneO_no _ _ _ (by omega)] at h10
      rw [h, List.count_eq_zero.2 (show x ∉ [-1] by simp; omega)]
      simp at h10; omega
    · rw [goneO_yes _ _ _ (by decide) h] at h10; omega

/-- The tasks that are in a deque that nobody works on. -/
theorem tasks_still {xs : List Int} {r t b : Nat} (h : Still xs r t b) : tasksF xs 0 r = conts xs r t b := by
  have h1 := h.dq.one
  have h2 := h.dq.top
  have h3 := h.dq.len
  have h4 := h.top
  have h5 := h.bot
  have h6 := h.room
  have hm : may r = true := by simp [may]; omega
  unfold tasksF
  rw [if_neg (by rw [hm, show (0 : Int).toNat = 0 from rfl, h4]; simp; omega)]
  simp only [show (0 : Int).toNat = 0 from rfl, Nat.zero_add, h4, h5, Int.toNat_natCast]
  rw [show ((b : Int) - (t : Int)).toNat = b - t by omega, Nat.min_eq_left (by omega)]
  unfold taskTo conts
  rw [List.range'_eq_map_range, List.map_map]
  apply List.map_congr_left
  intro i hi
  simp only [Function.comp, taskAt, cellN, h4, Nat.zero_add]
  congr 2

/-! ### Where a deque stands -/
theorem getD_shift (pre xs post : List Int) (j : Nat) (h : j < xs.length) : (pre ++ xs ++ post).getD (pre.length + j) 0 = xs.getD j 0 := by
  rw [List.getD_eq_getElem?_getD, List.getD_eq_getElem?_getD, List.append_assoc, List.getElem?_append_right (by omega), Nat.add_sub_cancel_left, List.getElem?_append_left h]
theorem set_shift (pre xs post : List Int) (j : Nat) (v : Int) (h : j < xs.length) : (pre ++ xs ++ post).set (pre.length + j) v = pre ++ xs.set j v ++ post := by
  rw [List.append_assoc, List.set_append_right _ _ (by omega), Nat.add_sub_cancel_left, List.set_append_left _ _ h, List.append_assoc]

theorem doF_shift (pre xs post : List Int) (kd a o n : Int) (h : (doF xs kd a o n).e = 0) :
    0 ≤ a ∧ a < xs.length ∧ doF (pre ++ xs ++ post) kd (pre.length + a) o n = ⟨0, pre ++ (doF xs kd a o n).xs ++ post, (doF xs kd a o n).x, (doF xs kd a o n).done⟩ := by
  by_cases h1 : a < 0 ∨ (xs.length : Int) ≤ a
  · unfold doF at h; rw [if_pos h1] at h; cases h
  · obtain ⟨j, rfl⟩ : ∃ j : Nat, a = j := ⟨a.toNat, by omega⟩
    have hj : j < xs.length := by omega
    refine ⟨by omega, by omega, ?_⟩
    have e1 : ¬ (((pre.length : Int) + (j : Int) < 0) ∨ (((pre ++ xs ++ post).length : Nat) : Int) ≤ (pre.length : Int) + (j : Int)) := by simp; omega
    have e2 : ((pre.length : Int) + (j : Int)).toNat = pre.length + j := by omega
    have e3 : ((j : Nat) : Int).toNat = j := rfl
    unfold doF at h ⊢
    rw [if_neg h1] at h ⊢
    rw [if_neg e1]
    simp only [e2, e3, getD_shift pre xs post j hj, set_shift pre xs post j _ hj] at h ⊢
    by_cases h2 : kd ≠ 1 ∧ within n = false
    · rw [if_pos h2] at h; cases h
    · rw [if_neg h2, if_neg h2]
      by_cases h3 : kd = 1
      · rw [if_pos h3, if_pos h3]
      · rw [if_neg h3, if_neg h3]
        by_cases h4 : kd = 3 ∧ xs.getD j 0 ≠ o
        · rw [if_pos h4, if_pos h4]
        · rw [if_neg h4, if_neg h4]

theorem place_shift (k r : Nat) (n : Int) (hk : k ≤ 1000) (hr1 : 1 ≤ r) (hr2 : r ≤ 1000) (h : 0 ≤ placeF 0 r n) : placeF k r n = k + placeF 0 r n := by
  by_cases hn : n < 0
  · unfold placeF at h; rw [if_pos hn] at h; omega
  · obtain ⟨m, rfl⟩ : ∃ m : Nat, n = m := ⟨n.toNat, by omega⟩
    rw [placeF_nat r m hr1 hr2]
    have h1 := Nat.mod_lt m (show 0 < r by omega)
    unfold placeF
    rw [if_neg (by omega), wrap64_id ((k : Int) + 2) (by omega) (by omega), show ((m : Int) % (r : Int)) = ((m % r : Nat) : Int) by omega, wrap64_id _ (by omega) (by omega)]
    omega

theorem wk1 (k : Nat) (hk : k ≤ 1000) : wrap64 ((k : Int) + 1) = k + 1 := wrap64_id _ (by omega) (by omega)

theorem accF_shift (k r : Nat) (x : Wk) (hk : k ≤ 1000) (hr1 : 1 ≤ r) (hr2 : r ≤ 1000) (kd a o n : Int) (h : accF 0 r x = some (kd, a, o, n)) (ha : 0 ≤ a) : accF k r x = some (kd, k + a, o, n) := by
  have e1 := wk1 k hk
  have e2 : wrap64 (0 + 1) = 1 := w1
  unfold accF at h ⊢
  simp only [e1, e2] at h ⊢
  repeat' split at h
  all_goals first
    | (cases h; done)
    | (simp only [Option.some.injEq, Prod.mk.injEq] at h
       obtain ⟨rfl, rfl, rfl, rfl⟩ := h
       simp only [*, if_true, ↓reduceIte, Int.reduceEq]
       try rw [place_shift k r _ hk hr1 hr2 ha]
       try simp)

theorem stepF_shift (pre xs post : List Int) (r : Nat) (x : Wk) (hk : pre.length ≤ 1000) (hr1 : 1 ≤ r) (hr2 : r ≤ 1000) (h : (stepF xs 0 r x).e = 0) :
    stepF (pre ++ xs ++ post) pre.length r x = ⟨0, pre ++ (stepF xs 0 r x).xs ++ post, (stepF xs 0 r x).x⟩ := by
  unfold stepF at h ⊢
  have hm : may r = true := by simp [may]; omega
  by_cases hd : x.done = true
  · rw [if_pos (.inr (.inr hd))] at h; cases h
  · have g1 : ¬ (may r = false ∨ (0 : Int) < 0 ∨ x.done = true) := by rw [hm]; simp [hd]
    have g2 : ¬ (may r = false ∨ (pre.length : Int) < 0 ∨ x.done = true) := by rw [hm]; simp [hd]
    rw [if_neg g1] at h ⊢
    rw [if_neg g2]
    cases hacc : accF 0 r x with
    | none => rw [hacc] at h; cases h
    | some q =>
      obtain ⟨kd, a, o, n⟩ := q
      rw [hacc] at h
      simp only at h ⊢
      have he : (doF xs kd a o n).e = 0 := by
        rcases Classical.em ((doF xs kd a o n).e = 0) with e | e
        · exact e
        · rw [if_pos e] at h; exact absurd h e
      obtain ⟨h1, h2, h3⟩ := doF_shift pre xs post kd a o n he
      rw [accF_shift pre.length r x hk hr1 hr2 kd a o n hacc h1]
      simp only [h3, he]
      rw [if_neg (by simp), if_neg (by simp)]
      simp only
      unfold behF
      rfl

theorem runF_shift (pre post : List Int) (r : Nat) (picks : List Int) (hk : pre.length ≤ 1000) (hr1 : 1 ≤ r) (hr2 : r ≤ 1000) (f : Nat) : ∀ (xs : List Int) (own all : List Wk) (last : Int) (ys : List Int) (o a : List Wk),
    runF 0 r picks f xs own all last = ⟨0, ys, o, a⟩ → runF pre.length r picks f (pre ++ xs ++ post) own all last = ⟨0, pre ++ ys ++ post, o, a⟩ := by
  induction f with
  | zero =>
    intro xs own all last ys o a h
    unfold runF at h ⊢
    split at h
    · rename_i h0; rw [if_pos h0]
      simp only [RunR.mk.injEq] at h ⊢
      obtain ⟨_, rfl, rfl, rfl⟩ := h
      simp
    · simp at h
  | succ f ih =>
    intro xs own all last ys o a h
    unfold runF at h ⊢
    dsimp only at h ⊢
    split at h
    · rename_i h0; rw [if_pos h0]
      simp only [RunR.mk.injEq] at h ⊢
      obtain ⟨_, rfl, rfl, rfl⟩ := h
      simp
    · rename_i h0; rw [if_neg h0]
      split at h
      · rename_i h1; simp only [RunR.mk.injEq] at h; exact absurd h.1 h1
      · rename_i h1
        have h2 := stepF_shift pre xs post r (pickW own all (nextF picks (100000 - (f + 1)) (leftF own all) last)) hk hr1 hr2 (by simpa using h1)
        rw [h2]
        simp only
        rw [if_neg (by simp)]
        exact ih _ _ _ _ _ _ _ h

theorem dRunF_shift (pre post : List Int) (r : Nat) (picks xs : List Int) (own all : List Wk) (hk : pre.length ≤ 1000) (hr1 : 1 ≤ r) (hr2 : r ≤ 1000) (ys : List Int) (o a : List Wk) (h : dRunF 0 r picks xs own all = ⟨0, ys, o, a⟩) :
    dRunF pre.length r picks (pre ++ xs ++ post) own all = ⟨0, pre ++ ys ++ post, o, a⟩ := by
  unfold dRunF at h ⊢
  split at h
  · simp at h
  · rename_i h1; rw [if_neg h1]
    split at h
    · rename_i h2; simp only [RunR.mk.injEq] at h; exact absurd h.1 h2
    · have := runF_shift pre post r picks hk hr1 hr2 100000 xs own all (-1) ys o a h
      rw [this, if_neg (by simp)]

end Go.Proofs.Ytdnajckhnknlcaa

/-! Runs and tasks of a deque, as the laws call them: their values are told by the plain laws. -/
namespace Go.Proofs.Ytdnajckhnknlcaa
set_option linter.unusedVariables false
set_option linter.unusedSimpArgs false
open Go.RowKit

theorem run27_is (pm p q pk : Option Addr) (L cm n c m d np cp : Nat) (at_ room : Int) (picks xs : List Int) (own all : List Wk) (w : World)
    (hm : Rd w 1 pm L cm (ints xs)) (ho : Rd w 12 p n c (wkCells own)) (ha : Rd w 12 q m d (wkCells all)) (hk : Rd w 1 pk np cp (ints picks)) (hbd : Bd picks)
    (hn : n ≤ 1000) (hm1 : m ≤ 999) (hL : L ≤ 100000) (ys : List Int) (o a : List Wk) (hR : dRunF at_ room picks xs own all = ⟨0, ys, o, a⟩) :
    Calls Try.prog 27 #[.slice pm L cm, .int .i64 at_, .int .i64 room, .slice pk np cp, .slice p n c, .slice q m d] w fun e w' =>
      ∃ p1 c1 p2 c2 p3 c3, e = .returned (.tuple #[.slice p1 L c1, .slice p2 n c2, .slice p3 m c3, .int .i64 0]) ∧ Below w.heap.size w w' ∧
        Rd w' 1 p1 L c1 (ints ys) ∧ Rd w' 12 p2 n c2 (wkCells o) ∧ Rd w' 12 p3 m c3 (wkCells a) := by
  refine (run27_any pm p q pk L cm n c m d np cp at_ room picks xs own all w hm ho ha hk hbd hn hm1 hL).mono ?_
  rw [hR]
  exact fun e w' h => h

theorem tasks15_still (p : Option Addr) (c r : Nat) (xs : List Int) (t b : Nat) (w : World) (hs : Still xs r t b) (hb : b ≤ 1000) (hm : Rd w 1 p (r + 2) c (ints xs)) :
    Calls Try.prog 15 #[.slice p (r + 2) c, .int .i64 0, .int .i64 (r : Int)] w fun e w' => ∃ p' c', e = .returned (.slice p' (conts xs r t b).length c') ∧ Below w.heap.size w w' ∧ Rd w' 1 p' (conts xs r t b).length c' (ints (conts xs r t b)) := by
  have h1 := hs.dq.one
  have h2 := hs.dq.top
  have h3 := hs.dq.len
  have h4 := hs.top
  have h5 := hs.bot
  have key := tasks15_go p (r + 2) c 0 r xs w hm h1 h2 (by omega) (by omega) (by rw [h4]; omega) (by rw [h5]; omega)
  have e : taskTo xs 0 r (min (xs.getD (0 + 1) 0 - xs.getD 0 0).toNat r) = conts xs r t b := by
    rw [← tasks_still hs]
    have hmay : may r = true := by simp [may]; omega
    unfold tasksF
    rw [if_neg (by rw [hmay, show (0 : Int).toNat = 0 from rfl, h4]; simp; omega)]
    rfl
  rw [e] at key
  exact key

/-- A new deque is still, and empty. -/
theorem still_new (r : Nat) (h1 : 1 ≤ r) (h2 : r ≤ 1000) : Still (List.replicate (r + 2) 0) r 0 0 := by
  refine ⟨⟨h1, h2, by simp⟩, ?_, ?_, Nat.le_refl _, by omega⟩
  · simp [List.getD_eq_getElem?_getD]
  · simp [List.getD_eq_getElem?_getD]

theorem fresh_give (v : Int) (h0 : 0 ≤ v) (h1 : v ≤ 1000000) : Fresh (giveF v) := ⟨rfl, rfl, .inl ⟨rfl, h0, h1⟩⟩
theorem fresh_take : Fresh takeF := ⟨rfl, rfl, .inr rfl⟩
theorem freshT_stealF : FreshT stealF := ⟨rfl, rfl, rfl⟩

theorem owner_fresh (xs : List Int) (f : Int) (h0 : 0 ≤ f) (h1 : f ≤ 100000) : ∀ y ∈ ownerF xs f, Fresh y := by
  intro y hy
  unfold ownerF ownTo at hy
  obtain ⟨i, hi, rfl⟩ := List.mem_map.1 hy
  have : i < 14 := by simp at hi; omega
  unfold jobF
  split
  · exact fresh_give _ (by omega) (by omega)
  · exact fresh_take

theorem owner_len (xs : List Int) (f : Int) : (ownerF xs f).length = min xs.length 14 := ownTo_len _ _ _

/-- Whole numbers, laid in a row. -/
theorem rd_row (w : World) (xs : List Int) (n : Nat) (hl : xs.length = n) (hn : n ≤ 100000) : Rd (w.alloc (.cells (ints xs).toArray 3)) 1 (some ⟨w.heap.size, 0, none⟩) n n (ints xs) := by
  have hb : Blk (w.alloc (.cells (ints xs).toArray 3)) w.heap.size 3 (ints xs).toArray := Blk.new w 3 _
  refine ⟨by rw [ints_len, hl]; omega, Nat.le_refl _, by unfold maxLen; omega, by simp, fun a ha j u hj => ?_⟩
  cases ha
  have := hb.cell j
  have e : (Addr.add ⟨w.heap.size, 0, none⟩ j) = ⟨w.heap.size, j, none⟩ := by cases j <;> simp [Addr.add]
  rw [e, this]; simpa using hj

theorem ints_eq (p q : Option Addr) (n c m d : Nat) (xs ys : List Int) (w : World) (hx : Rd w 1 p n c (ints xs)) (hy : Rd w 1 q m d (ints ys)) (hn : n ≤ 1000000) (hm : m ≤ 1000000) (he : xs = ys) :
    Calls Try.prog 14 #[.slice p n c, .slice q m d] w fun e w' => e = .returned (.bool true) ∧ Below w.heap.size w w' :=
  (ints_any p q n m c d xs ys w hx hy hn hm).mono fun e w' ⟨h1, h2⟩ => ⟨by rw [h1, he]; simp, ext_of_drewN h2⟩

theorem wks_eq (p q : Option Addr) (n c d : Nat) (xs : List Wk) (w : World) (hx : Rd w 12 p n c (wkCells xs)) (hy : Rd w 12 q n d (wkCells xs)) (hn : n ≤ 1000000) :
    Calls Try.prog 29 #[.slice p n c, .slice q n d] w fun e w' => e = .returned (.bool true) ∧ Below w.heap.size w w' :=
  (same29 p q n n c d xs xs w hx hy hn hn).mono fun e w' ⟨h1, h2⟩ => ⟨by rw [h1]; simp, ext_of_drewN h2⟩

/-- A part of a slice. -/
theorem Rd.part {w : World} {b off n c : Nat} {xs : List Int} (h : Rd w 1 (some ⟨b, off, none⟩) n c (ints xs)) (lo m : Nat) (hm : lo + m ≤ n) (ys : List Int) (hy : (xs.drop lo).take m = ys) : Rd w 1 (some ⟨b, off + lo, none⟩) m (c - lo) (ints ys) := by
  have hl : xs.length = n := by have := h.len; rw [ints_len] at this; omega
  have hc := h.cap
  have hx := h.max
  subst hy
  refine ⟨by rw [ints_len]; simp; omega, by omega, by omega, by simp, fun a ha j u hj => ?_⟩
  cases ha
  have hjm : j < m := by
    have := (List.getElem?_eq_some_iff.1 hj).1
    rw [ints_len] at this; simp at this; omega
  have h1 : (ints xs)[lo + j]? = some u := by
    rw [← hj]; unfold ints; rw [List.getElem?_map, List.getElem?_map, List.getElem?_take, if_pos hjm, List.getElem?_drop]
  have h2 := h.cell (lo + j) u h1
  rw [Addr.add_lit, show off + lo + j = off + (lo + j) by omega]
  exact h2

theorem elem_22 : Try.prog.elem 22 = 3 := by kernel_rfl
theorem under_22 : Try.prog.underlying 22 = some (.slice (Try.prog.elem 22)) := by rw [elem_22]; exact Try.underlying22
theorem size_22 (W : World) : (sizeOf (Try.prog.elem 22)).run Try.prog W = .ok 1 W := by rw [elem_22]; kernel_rfl

/-- s[:h] and s[l:h] of a slice of whole numbers. -/
theorem run_slice_hi (W : World) (b o n c h : Nat) (hi : Int) (hh : h ≤ c) (he : hi = (h : Int)) : (Instr.slice 22 (.slice (some ⟨b, o, none⟩) n c) none (some (.int .i64 hi)) none).run Try.prog W = .ok (.slice (some ⟨b, o, none⟩) h c) W := by
  subst he
  rw [run_slice_h W 22 (some ⟨b, o, none⟩) n c under_22 .i64 h (by omega) (by omega), size_22]
  simp only [Result.andThen, sliced, Int.toNat_natCast, Nat.zero_mul, Option.map_some, Nat.sub_zero]
  rw [show (Addr.add ⟨b, o, none⟩ 0) = ⟨b, o, none⟩ from rfl, ite_self]
theorem run_slice_lohi (W : World) (b o n c l h : Nat) (lo hi : Int) (hl : l ≤ h) (hh : h ≤ c) (hc : l < c) (h1 : lo = (l : Int)) (he : hi = (h : Int)) :
    (Instr.slice 22 (.slice (some ⟨b, o, none⟩) n c) (some (.int .i64 lo)) (some (.int .i64 hi)) none).run Try.prog W = .ok (.slice (some ⟨b, o + l, none⟩) (h - l) (c - l)) W := by
  subst h1 he
  rw [run_slice_lh W 22 (some ⟨b, o, none⟩) n c under_22 .i64 .i64 l h (by omega) (by omega) (by omega), size_22]
  simp only [Result.andThen, sliced, Int.toNat_natCast, Nat.mul_one, Option.map_some]
  rw [if_neg (by omega), Addr.add_lit]

theorem ints_quiet (p q : Option Addr) (n c m d : Nat) (xs ys : List Int) (w : World) (k : Nat) (hx : Rd w 1 p n c (ints xs)) (hy : Rd w 1 q m d (ints ys)) (hn : n ≤ 1000000) (hm : m ≤ 1000000) (he : xs = ys) :
    Calls Try.prog 14 #[.slice p n c, .slice q m d] (w.drewN k) fun e w'' => e = .returned (.bool true) ∧ ∃ n, w'' = w.drewN n :=
  Calls.quiet_of ((ints_any p q n m c d xs ys _ (hx.drewN k) (hy.drewN k) hn hm).mono fun e w' ⟨h1, i, h2⟩ => ⟨by rw [h1, he]; simp, i, h2.symm⟩)

end Go.Proofs.Ytdnajckhnknlcaa
