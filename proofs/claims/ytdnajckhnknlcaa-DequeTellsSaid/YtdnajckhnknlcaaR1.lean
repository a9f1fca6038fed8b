/-
  The contracts of the functions that these laws reach, part 1.
-/
import Derived.Test.YtdnajckhnknlcaaRows
import Derived.WalkKit
import Derived.WalkSpells
import Derived.WalkLawsBesides
import Derived.BigQuiet
import Derived.BigRegion
import Derived.Deep.RegionWith
import Derived.Lib.Hide
import Derived.Deep.DeepMust
import Derived.Maps.AppendAt
import Derived.OwnWalk
import Derived.RowKit

/-! Words of this proof: a block known whole, and what it becomes. -/
namespace Go.Proofs.Ytdnajckhnknlcaa
set_option linter.unusedVariables false
set_option linter.unusedSimpArgs false
open Go.RowKit

/-- Block b of w is the row cs of the type T, and no cell of it is frozen. -/
def Blk (w : World) (b T : Nat) (cs : Array Value) : Prop := w.heap[b]? = some (.cells cs T (0, 0))

theorem Blk.cell {w : World} {b T : Nat} {cs : Array Value} (h : Blk w b T cs) (o : Nat) : w.cell? ⟨b, o, none⟩ = cs[o]? := by
  unfold Blk at h; simp [World.cell?, h]

theorem Blk.frozen {w : World} {b T : Nat} {cs : Array Value} (h : Blk w b T cs) (o : Nat) : w.frozen? ⟨b, o, none⟩ = false := by
  unfold Blk at h; simp [World.frozen?, h]

theorem Blk.lt {w : World} {b T : Nat} {cs : Array Value} (h : Blk w b T cs) : b < w.heap.size := by
  unfold Blk at h
  rcases Nat.lt_or_ge b w.heap.size with g | g
  · exact g
  · rw [Array.getElem?_eq_none g] at h; cases h

theorem Blk.set {w : World} {b T : Nat} {cs : Array Value} (h : Blk w b T cs) (o : Nat) (v : Value) : Blk (w.setCell ⟨b, o, none⟩ v) b T (cs.setIfInBounds o v) := by
  unfold Blk at *; simp [World.setCell, Array.getElem?_modify, h]

theorem Blk.setOther {w : World} {b T : Nat} {cs : Array Value} (h : Blk w b T cs) {a : Addr} (hne : b ≠ a.block) (v : Value) : Blk (w.setCell a v) b T cs := by
  unfold Blk at *; rw [Below.heap_setCell _ _ _ _ hne]; exact h

theorem Blk.alloc {w : World} {b T : Nat} {cs : Array Value} (h : Blk w b T cs) (o : Obj) : Blk (w.alloc o) b T cs := by
  have hl := h.lt
  unfold Blk at *; rw [Below.heap_alloc _ _ _ hl]; exact h

theorem Blk.new (w : World) (T : Nat) (cs : Array Value) : Blk (w.alloc (.cells cs T)) w.heap.size T cs := heap_alloc_new w _

theorem Blk.drew {w : World} {b T : Nat} {cs : Array Value} (h : Blk w b T cs) : Blk w.drew b T cs := h

theorem Blk.below {B : Nat} {w w' : World} {b T : Nat} {cs : Array Value} (h : Blk w b T cs) (hb : Below B w w') (hB : b < B) : Blk w' b T cs := by
  unfold Blk at *; rw [hb.block b hB]; exact h

theorem Blk.grown {w w' : World} {b T : Nat} {cs : Array Value} {row : Option Nat} (h : Blk w b T cs) (hg : w.grownBy w' row) (hne : some b ≠ row) : Blk w' b T cs := by
  have hl := h.lt
  unfold Blk at *; rw [hg.block b hl hne]; exact h

theorem grownBy_refl (w : World) (row : Option Nat) : w.grownBy w row := ⟨rfl, rfl, rfl, Nat.le_refl _, fun _ _ _ => rfl⟩
theorem grownBy_drew {a w : World} {row : Option Nat} (h : a.grownBy w row) : a.grownBy w.drew row := ⟨h.os, h.tape, h.output, h.size, h.block⟩
theorem grownBy_alloc {a w : World} {row : Option Nat} (h : a.grownBy w row) (o : Obj) : a.grownBy (w.alloc o) row := h.trans (World.grownBy_alloc w o row)
theorem grownBy_set {a w : World} {b : Nat} (h : a.grownBy w (some b)) (o : Nat) (v : Value) : a.grownBy (w.setCell ⟨b, o, none⟩ v) (some b) :=
  h.trans ⟨rfl, rfl, rfl, by simp [World.setCell], fun k hk hne => Below.heap_setCell _ _ _ _ (by simpa using hne)⟩
theorem grownBy_setNew {a w : World} {row : Option Nat} (h : a.grownBy w row) {p : Addr} (hp : a.heap.size ≤ p.block) (v : Value) : a.grownBy (w.setCell p v) row :=
  ⟨h.os, h.tape, h.output, by simpa [World.setCell] using h.size, fun k hk hne => by rw [Below.heap_setCell _ _ _ _ (by omega)]; exact h.block k hk hne⟩
theorem grownBy_below {a w w' : World} {row : Option Nat} {B : Nat} (h : a.grownBy w row) (hb : Below B w w') (hB : a.heap.size ≤ B) : a.grownBy w' row :=
  ⟨hb.os.trans h.os, hb.tape.trans h.tape, hb.output.trans h.output, Nat.le_trans h.size hb.size, fun k hk hne => by rw [hb.block k (by omega)]; exact h.block k hk hne⟩
theorem below_of_grown {a w : World} {B b : Nat} (h : a.grownBy w (some b)) (hB : B ≤ b) (hs : B ≤ a.heap.size) : Below B a w :=
  ⟨h.os, h.tape, h.output, h.size, fun k hk => h.block k (by omega) (by intro e; cases e; omega)⟩

end Go.Proofs.Ytdnajckhnknlcaa

/-! Words of this proof: a slice that reads as a list of cells; the law of append in these words. -/
namespace Go.Proofs.Ytdnajckhnknlcaa
set_option linter.unusedVariables false
set_option linter.unusedSimpArgs false
open Go.RowKit

/-- The slice (p, n, c), whose elements take size cells each, reads as the cells cs in w. -/
structure Rd (w : World) (size : Nat) (p : Option Addr) (n c : Nat) (cs : List Value) : Prop where
  len : cs.length = n * size
  cap : n ≤ c
  max : c ≤ maxLen
  nil : p = none → n = 0 ∧ c = 0
  cells : ∀ a, p = some a → ∀ j u, cs[j]? = some u → w.cell? (a.add j) = some u

/-- The slice's block is B or later. -/
def Fr (B : Nat) (p : Option Addr) : Prop := ∀ a, p = some a → B ≤ a.block
/-- The slice's block is another one than b. -/
def Ne' (b : Nat) (p : Option Addr) : Prop := ∀ a, p = some a → a.block ≠ b

theorem Fr.mono {B B' : Nat} {p : Option Addr} (h : Fr B p) (hB : B' ≤ B) : Fr B' p := fun a ha => Nat.le_trans hB (h a ha)
theorem Fr.ne {B b : Nat} {p : Option Addr} (h : Fr B p) (hb : b < B) : Ne' b p := fun a ha e => by have := h a ha; omega

theorem cell_lt {w : World} {a : Addr} {v : Value} (h : w.cell? a = some v) : a.block < w.heap.size := World.block_lt_of_cell? w a h

theorem block_add (a : Addr) (j : Nat) : (a.add j).block = a.block := by unfold Addr.add; split <;> rfl

theorem Rd.of_cells {w w' : World} {size : Nat} {p : Option Addr} {n c : Nat} {cs : List Value} (h : Rd w size p n c cs)
    (k : ∀ a, p = some a → ∀ x v, x.block = a.block → w.cell? x = some v → w'.cell? x = some v) : Rd w' size p n c cs :=
  ⟨h.len, h.cap, h.max, h.nil, fun a ha j u hu => k a ha _ _ (block_add a j) (h.cells a ha j u hu)⟩

theorem Rd.below {w w' : World} {B size : Nat} {p : Option Addr} {n c : Nat} {cs : List Value} (h : Rd w size p n c cs) (hb : Below B w w') (hB : w.heap.size ≤ B) : Rd w' size p n c cs :=
  h.of_cells fun _ _ _ _ _ hv => by rw [hb.cell (Nat.lt_of_lt_of_le (cell_lt hv) hB)]; exact hv

/-- .. at a block below B. -/
theorem Rd.belowAt {w w' : World} {B size : Nat} {p : Option Addr} {n c : Nat} {cs : List Value} (h : Rd w size p n c cs) (hb : Below B w w') (hB : ∀ a, p = some a → a.block < B) : Rd w' size p n c cs :=
  h.of_cells fun a ha x _ hx hv => by rw [hb.cell (by rw [hx]; exact hB a ha)]; exact hv

theorem Rd.grown {w w' : World} {row : Option Nat} {size : Nat} {p : Option Addr} {n c : Nat} {cs : List Value} (h : Rd w size p n c cs) (hg : w.grownBy w' row) (hne : ∀ b, row = some b → Ne' b p) : Rd w' size p n c cs :=
  h.of_cells fun a ha x _ hx hv => hg.cell hv (by intro e; exact hne x.block e.symm a ha hx.symm)

theorem Rd.alloc {w : World} {size : Nat} {p : Option Addr} {n c : Nat} {cs : List Value} (h : Rd w size p n c cs) (o : Obj) : Rd (w.alloc o) size p n c cs :=
  h.below ((Below.refl _ _).alloc (Nat.le_refl _) o) (Nat.le_refl _)

theorem Rd.drew {w : World} {size : Nat} {p : Option Addr} {n c : Nat} {cs : List Value} (h : Rd w size p n c cs) : Rd w.drew size p n c cs := ⟨h.len, h.cap, h.max, h.nil, h.cells⟩
theorem Rd.drewN {w : World} {size : Nat} {p : Option Addr} {n c : Nat} {cs : List Value} (h : Rd w size p n c cs) (k : Nat) : Rd (w.drewN k) size p n c cs := ⟨h.len, h.cap, h.max, h.nil, h.cells⟩

theorem Rd.setOther {w : World} {size : Nat} {p : Option Addr} {n c : Nat} {cs : List Value} (h : Rd w size p n c cs) {b : Nat} (hne : Ne' b p) (o : Nat) (v : Value) : Rd (w.setCell ⟨b, o, none⟩ v) size p n c cs :=
  h.grown (grownBy_set (grownBy_refl w (some b)) o v) (by rintro b' ⟨⟩; exact hne)

theorem Rd.nil' (w : World) (size : Nat) : Rd w size none 0 0 [] := ⟨by simp, Nat.le_refl _, by simp [maxLen], fun _ => ⟨rfl, rfl⟩, fun _ h => by cases h⟩

/-- Where there is a cell the address is plain. -/
theorem Rd.addr {w : World} {size : Nat} {p : Option Addr} {n c : Nat} {cs : List Value} (h : Rd w size p n c cs) (hn : 0 < n) (hs : 0 < size) : ∃ b off, p = some ⟨b, off, none⟩ := by
  cases p with
  | none => have := (h.nil rfl).1; omega
  | some a =>
    have h0 : 0 < cs.length := by rw [h.len]; exact Nat.mul_pos hn hs
    have hc := h.cells a rfl 0 cs[0] (by simp [h0])
    obtain ⟨b, off, spot⟩ := a
    refine ⟨b, off, ?_⟩
    simp only [Addr.add, if_true, World.cell?] at hc
    cases spot with
    | none => rfl
    | some s => split at hc <;> simp_all

theorem Rd.cell {w : World} {size b off n c : Nat} {cs : List Value} (h : Rd w size (some ⟨b, off, none⟩) n c cs) (j : Nat) (u : Value) (hu : cs[j]? = some u) : w.cell? ⟨b, off + j, none⟩ = some u := by
  have := h.cells _ rfl j u hu
  rwa [Addr.add_lit] at this

theorem Rd.of_owns {w : World} {base e size : Nat} {v : Value} {n : Nat} {xs : List Value} (h : w.ownsRow base e size v n xs) : ∃ p c, v = .slice p n c ∧ Rd w size p n c xs ∧ Fr base p := by
  rcases h.2 with ⟨rfl, rfl⟩ | ⟨g, cap, cur, rfl, hb, hg, hnc, hcm, hcs, ht⟩
  · have : xs = [] := List.eq_nil_of_length_eq_zero (by simpa using h.1)
    subst this
    exact ⟨none, 0, rfl, Rd.nil' w size, (by intro a ha; cases ha)⟩
  · refine ⟨some ⟨g, 0, none⟩, cap, rfl, ⟨h.1, hnc, hcm, by simp, ?_⟩, (by intro a ha; cases ha; exact hb)⟩
    intro a ha j u hu
    cases ha
    exact h.cells (g := g) rfl j u hu

theorem owns_below {w w' : World} {base e size : Nat} {v : Value} {n : Nat} {xs : List Value} {B : Nat} (h : w.ownsRow base e size v n xs) (hb : Below B w w') (hB : w.heap.size ≤ B) : w'.ownsRow base e size v n xs := by
  refine ⟨h.1, ?_⟩
  rcases h.2 with hn | ⟨g, cap, cur, rfl, hbg, hg, rest⟩
  · exact .inl hn
  · refine .inr ⟨g, cap, cur, rfl, hbg, ?_, rest⟩
    have hl : g < w.heap.size := (Array.getElem?_eq_some_iff.1 hg).1
    rw [hb.block g (by omega)]; exact hg

theorem owns_mono {w : World} {base base' e size : Nat} {v : Value} {n : Nat} {xs : List Value} (h : w.ownsRow base e size v n xs) (hB : base' ≤ base) : w.ownsRow base' e size v n xs := by
  refine ⟨h.1, ?_⟩
  rcases h.2 with hn | ⟨g, cap, cur, hv, hbg, rest⟩
  · exact .inl hn
  · exact .inr ⟨g, cap, cur, hv, Nat.le_trans hB hbg, rest⟩

/-- The slice's block in an own row. -/
theorem owns_grown {a w w' : World} {base e size : Nat} {v : Value} {n : Nat} {xs : List Value} {B : Nat} (h : w.ownsRow base e size v n xs) (hb : Below B a w) (hg : w.grownBy w' v.ownBlock) (hB : B ≤ base) (hs : B ≤ w.heap.size) : Below B a w' :=
  hb.grown hg hs (fun k hk => by have := h.lt k hk; omega)

theorem info_3 : (Try.prog.info? 3).map (fun i => (i.zero, i.size, i.bytes)) = some (some (.int .i64 0), 1, 8) := by kernel_rfl
theorem info_25 : (Try.prog.info? 25).map (fun i => (i.zero, i.size, i.bytes)) = some (some (.agg #[.int .i64 0, .int .i64 0, .int .i64 0, .int .i64 0, .int .i64 0, .int .i64 0, .int .i64 0, .int .i64 0, .int .i64 0, .int .i64 0, .bool false, .int .i64 0]), 12, 96) := by kernel_rfl

/-- append(dst, src...): dst an own row, src a slice that reads as news. -/
theorem wpList_append_rd {P : Program} (w : World) {ops : Array Oper} {rest : List Oper} {o : Oper} {a : Act} {Q : Exit → Act → World → Prop} (hgd : o.guard = none) (s x : Operand) (t : TypeId)
    (ho : o.op = .call { callee := .builtin .append, args := #[s, x], argTypes := #[t, t] })
    (base : Nat) (e : TypeId) (z : Value) (size bytes : Nat) (ht : P.underlying t = some (.slice e)) (hinfo : (P.info? e).map (fun i => (i.zero, i.size, i.bytes)) = some (some z, size, bytes))
    (hzs : z.cells.size = size) (hsz : 0 < size)
    (v : Value) (n : Nat) (xs : List Value) (hs : a.eval s = v) (hown : w.ownsRow base e size v n xs)
    (p : Option Addr) (m c : Nat) (news : List Value) (hx : a.eval x = .slice p m c) (hr : Rd w size p m c news) (h1 : ∀ u ∈ news, u.oneCell' = true)
    (h63 : n + m ≤ maxLen) (hbytes : (n + m) * bytes ≤ 140737488355328) (hbase : base ≤ w.heap.size)
    (h : ∀ v' w', w'.ownsRow base e size v' (n + m) (xs ++ news) → w.grownBy w' v.ownBlock → (v'.ownBlock = v.ownBlock ∨ v'.ownBlock = some w.heap.size) → wpList P ops Q rest (a.put o.dst v') w') :
    wpList P ops Q (o :: rest) a w := by
  obtain ⟨i, hi, hz, hsize, hby⟩ := info_parts hinfo
  cases p with
  | some ad => exact wpList_append_own_at w hgd s x t ho base e i z size bytes ht hi hz hsize hby hzs hsz v n xs hs hown ad m c news hx hr.len (hr.cells ad rfl) h1 h63 hbytes hbase (fun v' w' a b _ d => h v' w' a b d)
  | none =>
    obtain ⟨rfl, rfl⟩ := hr.nil rfl
    have hnews : news = [] := List.eq_nil_of_length_eq_zero (by simpa using hr.len)
    subst hnews
    refine wpList_plain hgd fun K hK' => ?_
    have hrun := run_append_owned_none (P := P) w base t o.type e i size ht hi v n xs hown
    unfold Oper.wp
    simp [execOp, ho, resolve, invoke, builtin, hs, hx, hrun, Result.andThen]
    exact hK' _ _ (by simpa using h v w (by simpa using hown) (grownBy_refl _ _) (Or.inl rfl))

theorem ints_one (xs : List Int) : ∀ u ∈ xs.map (Value.int .i64), u.oneCell' = true := ints_oneCell _ xs

end Go.Proofs.Ytdnajckhnknlcaa

/-! slices.Clone at numbers and at workers: new memory of the call's own that reads as what came in. -/
namespace Go.Proofs.Ytdnajckhnknlcaa
set_option linter.unusedVariables false
set_option linter.unusedSimpArgs false
open Go.RowKit

set_option maxHeartbeats 400000 in
theorem clone_int (p : Option Addr) (n c : Nat) (cs : List Value) (w : World) (hr : Rd w 1 p n c cs) (h1 : ∀ u ∈ cs, u.oneCell' = true) (hn : n * 8 ≤ 140737488355328) :
    Calls Try.prog 32 #[.slice p n c] w fun e w' => ∃ p' c', e = .returned (.slice p' n c') ∧ Below w.heap.size w w' ∧ w'.ownsRow w.heap.size 3 1 (.slice p' n c') n cs := by
  cases p with
  | none =>
    obtain ⟨rfl, rfl⟩ := hr.nil rfl
    have hcs : cs = [] := List.eq_nil_of_length_eq_zero (by simpa using hr.len)
    subst hcs
    have hk := fun (w : World) => Lib.run_eql_slice_nil (P := Try.prog) w 22 3 none 0 0 0 0 Try.underlying22
    go_enter Try.func32, Try.ntmps32
    go_wp2
    go_ret
    exact ⟨none, 0, rfl, Below.refl _ _, World.ownsRow_nil _ _ _ _⟩
  | some a =>
    have hk := fun (w : World) => Lib.run_eql_slice_nil (P := Try.prog) w 22 3 (some a) n c 0 0 Try.underlying22
    have hmax := hr.max
    have HR := Lib.hid hr
    clear hr
    go_enter Try.func32, Try.ntmps32
    go_wp2_with (at_builtin; refine wpList_append_rd _ rfl (.tmp 5) (.tmp 6) 22 rfl w.heap.size 3 (.int .i64 0) 1 8 Try.underlying22 info_3 rfl (by decide) _ 0 [] rfl (World.ownsRow_made w #[] 0 (Nat.le_refl _) (by decide) rfl) _ n c cs rfl (HR.out.alloc _) h1 ?b1 ?b2 ?b3 ?_)
    case b1 => simp only [Nat.zero_add]; exact Nat.le_trans HR.out.cap hmax
    case b2 => simpa using hn
    case b3 => simp
    intro v' w1 hown hg _
    go_wp2
    go_ret
    obtain ⟨p', c', rfl, _, _⟩ := Rd.of_owns hown
    exact ⟨p', c', rfl, owns_grown (World.ownsRow_made w #[] 0 (e := 3) (size := 1) (Nat.le_refl _) (by decide) rfl) ((Below.refl _ _).alloc (Nat.le_refl _) _) hg (Nat.le_refl _) (by simp), hown⟩

set_option maxHeartbeats 400000 in
theorem clone_wk (p : Option Addr) (n c : Nat) (cs : List Value) (w : World) (hr : Rd w 12 p n c cs) (h1 : ∀ u ∈ cs, u.oneCell' = true) (hn : n * 96 ≤ 140737488355328) :
    Calls Try.prog 42 #[.slice p n c] w fun e w' => ∃ p' c', e = .returned (.slice p' n c') ∧ Below w.heap.size w w' ∧ w'.ownsRow w.heap.size 25 12 (.slice p' n c') n cs := by
  cases p with
  | none =>
    obtain ⟨rfl, rfl⟩ := hr.nil rfl
    have hcs : cs = [] := List.eq_nil_of_length_eq_zero (by simpa using hr.len)
    subst hcs
    have hk := fun (w : World) => Lib.run_eql_slice_nil (P := Try.prog) w 28 25 none 0 0 0 0 Try.underlying28
    go_enter Try.func42, Try.ntmps42
    go_wp2
    go_ret
    exact ⟨none, 0, rfl, Below.refl _ _, World.ownsRow_nil _ _ _ _⟩
  | some a =>
    have hk := fun (w : World) => Lib.run_eql_slice_nil (P := Try.prog) w 28 25 (some a) n c 0 0 Try.underlying28
    have hmax := hr.max
    have HR := Lib.hid hr
    clear hr
    go_enter Try.func42, Try.ntmps42
    go_wp2_with (at_builtin; refine wpList_append_rd _ rfl (.tmp 5) (.tmp 6) 28 rfl w.heap.size 25 (.agg #[.int .i64 0, .int .i64 0, .int .i64 0, .int .i64 0, .int .i64 0, .int .i64 0, .int .i64 0, .int .i64 0, .int .i64 0, .int .i64 0, .bool false, .int .i64 0]) 12 96 Try.underlying28 info_25 rfl (by decide) _ 0 [] rfl (World.ownsRow_made w #[] 0 (Nat.le_refl _) (by decide) rfl) _ n c cs rfl (HR.out.alloc _) h1 ?b1 ?b2 ?b3 ?_)
    case b1 => simp only [Nat.zero_add]; exact Nat.le_trans HR.out.cap hmax
    case b2 => simpa using hn
    case b3 => simp
    intro v' w1 hown hg _
    go_wp2
    go_ret
    obtain ⟨p', c', rfl, _, _⟩ := Rd.of_owns hown
    exact ⟨p', c', rfl, owns_grown (World.ownsRow_made w #[] 0 (e := 25) (size := 12) (Nat.le_refl _) (by decide) rfl) ((Below.refl _ _).alloc (Nat.le_refl _) _) hg (Nat.le_refl _) (by simp), hown⟩

end Go.Proofs.Ytdnajckhnknlcaa

/-! What the functions compute, in plain Lean: an access to words, a worker, a step of one. -/
namespace Go.Proofs.Ytdnajckhnknlcaa
set_option linter.unusedVariables false
set_option linter.unusedSimpArgs false
open Go.RowKit

def within (n : Int) : Bool := decide (-1152921504606846975 ≤ n) && decide (n ≤ 1152921504606846975)

/-- What came of an access: the error, the words, what was there, whether it was done. -/
structure DoR where
  e : Int
  xs : List Int
  x : Int
  done : Bool

def doF (xs : List Int) (kind at_ old new : Int) : DoR :=
  if at_ < 0 ∨ (xs.length : Int) ≤ at_ then ⟨2, xs, 0, false⟩
  else if kind ≠ 1 ∧ within new = false then ⟨2, xs, 0, false⟩
  else if kind = 1 then ⟨0, xs, xs.getD at_.toNat 0, true⟩
  else if kind = 3 ∧ xs.getD at_.toNat 0 ≠ old then ⟨0, xs, xs.getD at_.toNat 0, false⟩
  else ⟨0, xs.set at_.toNat new, xs.getD at_.toNat 0, true⟩

theorem doF_len (xs : List Int) (k a o n : Int) : (doF xs k a o n).xs.length = xs.length := by
  unfold doF; repeat (first | split | rfl | simp)

/-- A worker. -/
structure Wk where
  pc : Int
  job : Int
  r0 : Int
  r1 : Int
  r2 : Int
  r3 : Int
  r4 : Int
  r5 : Int
  r6 : Int
  r7 : Int
  done : Bool
  out : Int
  deriving DecidableEq

def Wk.cells (x : Wk) : Array Value := #[.int .i64 x.pc, .int .i64 x.job, .int .i64 x.r0, .int .i64 x.r1, .int .i64 x.r2, .int .i64 x.r3, .int .i64 x.r4, .int .i64 x.r5, .int .i64 x.r6, .int .i64 x.r7, .bool x.done, .int .i64 x.out]

def Wk.v (x : Wk) : Value := .agg x.cells

/-- The cells of workers, one behind the other. -/
def wkCells (l : List Wk) : List Value := l.flatMap fun x => x.cells.toList

def may (room : Int) : Bool := decide (1 ≤ room) && decide (room ≤ 1000)

def placeF (at_ room n : Int) : Int := if n < 0 then -1 else wrap64 (wrap64 (at_ + 2) + n % room)

end Go.Proofs.Ytdnajckhnknlcaa

/-! The program's access to words: mem.Do, as it is called here (loads, writes, swaps). -/
namespace Go.Proofs.Ytdnajckhnknlcaa
set_option linter.unusedVariables false
set_option linter.unusedSimpArgs false
open Go.RowKit

theorem within_yes (n : Int) (w : World) (h : within n = true) :
    Calls Try.prog 85 #[.int .i64 n] w fun e w' => e = .returned (.bool true) ∧ w = w' := by
  simp only [within, Bool.and_eq_true, decide_eq_true_eq] at h
  obtain ⟨h1, h2⟩ := h
  go_enter Try.func85, Try.ntmps85
  go_wp2
  go_ret
  exact ⟨rfl, rfl⟩

theorem within_no (n : Int) (w : World) (h : within n = false) :
    Calls Try.prog 85 #[.int .i64 n] w fun e w' => e = .returned (.bool false) ∧ w = w' := by
  simp only [within, Bool.and_eq_false_iff, decide_eq_false_iff_not] at h
  rcases h with h1 | h1
  · go_enter Try.func85, Try.ntmps85
    go_wp2
    go_ret
    exact ⟨rfl, rfl⟩
  · by_cases h2 : -1152921504606846975 ≤ n
    · go_enter Try.func85, Try.ntmps85
      go_wp2
      go_ret
      exact ⟨rfl, rfl⟩
    · omega

theorem within_any (n : Int) (w : World) :
    Calls Try.prog 85 #[.int .i64 n] w fun e w' => e = .returned (.bool (within n)) ∧ w = w' := by
  cases h : within n with
  | true => exact within_yes n w h
  | false => exact within_no n w h

/-- to(), of a load, a write or a swap. -/
theorem to_any (b : Nat) (w : World) (kind at_ old new : Int) (v : Value) (hk : kind ≤ 3)
    (h : Blk w b 93 #[.int .i64 kind, .int .i64 at_, .int .i64 old, .int .i64 new, v]) :
    Calls Try.prog 84 #[.pointer (some ⟨b, 0, none⟩)] w fun e w' => e = .returned (.int .i64 new) ∧ w = w' := by
  have hc := h.cell
  clear h
  go_enter Try.func84, Try.ntmps84
  go_wp2
  go_ret
  exact ⟨rfl, rfl⟩

theorem Blk.drewN {w : World} {b T : Nat} {cs : Array Value} (h : Blk w b T cs) (k : Nat) : Blk (w.drewN k) b T cs := h

set_option maxHeartbeats 400000 in
theorem wrong_any (b : Nat) (w : World) (xs : List Int) (kind at_ old new : Int) (p : Option Addr) (c : Nat) (hk0 : 1 ≤ kind) (hk : kind ≤ 3) (hlen : xs.length ≤ 100000)
    (h : Blk w b 93 #[.int .i64 kind, .int .i64 at_, .int .i64 old, .int .i64 new, .slice p xs.length c]) :
    Calls Try.prog 83 #[.pointer (some ⟨b, 0, none⟩)] w fun e w' => e = .returned (.int .i64 (doF xs kind at_ old new).e) ∧ ∃ k, w.drewN k = w' := by
  have hc := h.cell
  by_cases h1 : at_ < 0
  · have e : (doF xs kind at_ old new).e = 2 := by simp [doF, h1]
    rw [e]
    go_enter Try.func83, Try.ntmps83
    go_wp2_with fail
    go_ret
    exact ⟨rfl, 0, rfl⟩
  · by_cases h2 : (xs.length : Int) ≤ at_
    · have e : (doF xs kind at_ old new).e = 2 := by simp [doF, h2]
      rw [e]
      go_enter Try.func83, Try.ntmps83
      go_wp2_with fail
      go_quiet (fail)
      go_wp2_with fail
      go_ret
      exact ⟨rfl, _, rfl⟩
    · by_cases h3 : kind = 1
      · subst h3
        have e : (doF xs 1 at_ old new).e = 0 := by simp [doF, h1, h2]
        rw [e]
        go_enter Try.func83, Try.ntmps83
        go_wp2_with fail
        go_quiet (fail)
        go_wp2_with fail
        go_ret
        exact ⟨rfl, _, rfl⟩
      · cases h4 : within new with
        | false =>
          have e : (doF xs kind at_ old new).e = 2 := by simp [doF, h1, h2, h3, h4]
          rw [e]
          have H4 := Lib.hid h4
          clear h4
          go_enter Try.func83, Try.ntmps83
          go_wp2_with fail
          go_quiet (fail)
          go_wp2_with (first | (go_at_call 84; refine (to_any b _ kind at_ old new _ hk (h.drewN _)).mono ?_; rintro e w' ⟨rfl, rfl⟩) | (go_at_call 85; refine (within_no new _ H4.out).mono ?_; rintro e w' ⟨rfl, rfl⟩))
          go_ret
          exact ⟨rfl, _, rfl⟩
        | true =>
          have e : (doF xs kind at_ old new).e = 0 := by simp only [doF, h1, h2, h3, h4]; (repeat (first | split | rfl | (simp at *)))
          rw [e]
          have H4 := Lib.hid h4
          clear h4
          go_enter Try.func83, Try.ntmps83
          go_wp2_with fail
          go_quiet (fail)
          go_wp2_with (first | (go_at_call 84; refine (to_any b _ kind at_ old new _ hk (h.drewN _)).mono ?_; rintro e w' ⟨rfl, rfl⟩) | (go_at_call 85; refine (within_yes new _ H4.out).mono ?_; rintro e w' ⟨rfl, rfl⟩))
          go_ret
          exact ⟨rfl, _, rfl⟩

end Go.Proofs.Ytdnajckhnknlcaa

/-! Words of this proof: a world that only grows. -/
namespace Go.Proofs.Ytdnajckhnknlcaa
set_option linter.unusedVariables false
set_option linter.unusedSimpArgs false
open Go.RowKit

theorem ext_size {a w : World} (h : Below a.heap.size a w) : a.heap.size ≤ w.heap.size := h.size
theorem ext_trans {a b c : World} (h : Below a.heap.size a b) (k : Below b.heap.size b c) : Below a.heap.size a c := h.trans (k.mono h.size)
theorem ext_alloc {a w : World} (h : Below a.heap.size a w) (o : Obj) : Below a.heap.size a (w.alloc o) := h.alloc h.size o
theorem ext_drew {a w : World} (h : Below a.heap.size a w) : Below a.heap.size a w.drew := h.drew
theorem ext_drewN {a w : World} (h : Below a.heap.size a w) (k : Nat) : Below a.heap.size a (w.drewN k) := ⟨h.os, h.tape, h.output, h.size, h.block⟩
theorem ext_set {a w : World} (h : Below a.heap.size a w) {b : Nat} (o : Nat) (v : Value) (hp : a.heap.size ≤ b) : Below a.heap.size a (w.setCell ⟨b, o, none⟩ v) := h.setCell hp v
theorem ext_grown {a w w' : World} {row : Option Nat} (h : Below a.heap.size a w) (hg : w.grownBy w' row) (hr : ∀ k, row = some k → a.heap.size ≤ k) : Below a.heap.size a w' := h.grown hg h.size hr

theorem own_drew {w : World} {base e size : Nat} {v : Value} {n : Nat} {xs : List Value} (h : w.ownsRow base e size v n xs) : w.drew.ownsRow base e size v n xs := h
theorem own_drewN {w : World} {base e size : Nat} {v : Value} {n : Nat} {xs : List Value} (h : w.ownsRow base e size v n xs) (k : Nat) : (w.drewN k).ownsRow base e size v n xs := h
theorem own_alloc {w : World} {base e size : Nat} {v : Value} {n : Nat} {xs : List Value} (h : w.ownsRow base e size v n xs) (o : Obj) : (w.alloc o).ownsRow base e size v n xs := h.alloc o
theorem own_ext {w w' : World} {base e size : Nat} {v : Value} {n : Nat} {xs : List Value} (h : w.ownsRow base e size v n xs) (hb : Below w.heap.size w w') : w'.ownsRow base e size v n xs := owns_below h hb (Nat.le_refl _)

theorem Blk.ext {w w' : World} {b T : Nat} {cs : Array Value} (h : Blk w b T cs) (hb : Below w.heap.size w w') : Blk w' b T cs := h.below hb h.lt
theorem Rd.ext {w w' : World} {size : Nat} {p : Option Addr} {n c : Nat} {cs : List Value} (h : Rd w size p n c cs) (hb : Below w.heap.size w w') : Rd w' size p n c cs := h.below hb (Nat.le_refl _)

/-- Where the slice has an element its block is another one than b. -/
def NeN (b : Nat) (p : Option Addr) (n : Nat) : Prop := ∀ a, p = some a → 0 < n → a.block ≠ b

theorem Rd.lt {w : World} {size : Nat} {p : Option Addr} {n c : Nat} {cs : List Value} (h : Rd w size p n c cs) (hs : 0 < size) (a : Addr) (ha : p = some a) (hn : 0 < n) : a.block < w.heap.size := by
  have h0 : 0 < cs.length := by rw [h.len]; exact Nat.mul_pos hn hs
  have := cell_lt (h.cells a ha 0 cs[0] (by simp [h0]))
  rwa [block_add] at this

theorem Rd.neN {w : World} {size : Nat} {p : Option Addr} {n c : Nat} {cs : List Value} (h : Rd w size p n c cs) (hs : 0 < size) {b : Nat} (hb : w.heap.size ≤ b) : NeN b p n := fun a ha hn e => by
  have := h.lt hs a ha hn; omega

theorem Rd.setOtherN {w : World} {size : Nat} {p : Option Addr} {n c : Nat} {cs : List Value} (h : Rd w size p n c cs) {b : Nat} (hne : NeN b p n) (o : Nat) (v : Value) : Rd (w.setCell ⟨b, o, none⟩ v) size p n c cs := by
  by_cases hn : 0 < n
  · exact h.setOther (fun a ha => hne a ha hn) o v
  · have h0 : n = 0 := by omega
    subst h0
    have hcs : cs = [] := List.eq_nil_of_length_eq_zero (by simpa using h.len)
    subst hcs
    exact ⟨h.len, h.cap, h.max, h.nil, fun a ha j u hu => by simp at hu⟩

end Go.Proofs.Ytdnajckhnknlcaa

/-! The program's access to words: mem.Do, as it is called here (loads, writes, swaps). -/
namespace Go.Proofs.Ytdnajckhnknlcaa
set_option linter.unusedVariables false
set_option linter.unusedSimpArgs false
open Go.RowKit

def ints (xs : List Int) : List Value := xs.map (Value.int .i64)

theorem ints_len (xs : List Int) : (ints xs).length = xs.length := by simp [ints]
theorem ints_get (xs : List Int) (i : Nat) (h : i < xs.length) : (ints xs)[i]? = some (.int .i64 (xs.getD i 0)) := by simp [ints, h, List.getD]
theorem ints_set (xs : List Int) (i : Nat) (v : Int) : ints (xs.set i v) = (ints xs).set i (.int .i64 v) := by simp [ints, List.map_set]

theorem owns_form {w : World} {base e size : Nat} {v : Value} {n : Nat} {xs : List Value} (h : w.ownsRow base e size v n xs) (hn : 0 < n) :
    ∃ g cap, v = .slice (some ⟨g, 0, none⟩) n cap ∧ base ≤ g ∧ g < w.heap.size ∧ (∀ j, j < n * size → w.cell? ⟨g, j, none⟩ = xs[j]?) ∧ ∀ j, w.frozen? ⟨g, j, none⟩ = false := by
  rcases h.2 with ⟨rfl, rfl⟩ | ⟨g, cap, cur, rfl, hb, hg, _⟩
  · omega
  · exact ⟨g, cap, rfl, hb, (Array.getElem?_eq_some_iff.1 hg).1, fun j hj => h.cellAt j hj, fun j => h.frozenAt j⟩

set_option maxHeartbeats 400000 in
theorem do_err (p : Option Addr) (c : Nat) (xs : List Int) (kind at_ old new : Int) (w : World) (hr : Rd w 1 p xs.length c (ints xs)) (hk0 : 1 ≤ kind) (hk : kind ≤ 3) (hlen : xs.length ≤ 100000)
    (he : (doF xs kind at_ old new).e = 2) :
    Calls Try.prog 82 #[.slice p xs.length c, .agg #[.int .i64 kind, .int .i64 at_, .int .i64 old, .int .i64 new]] w fun e w' =>
      ∃ p' c', e = .returned (.tuple #[.slice p' xs.length c', .int .i64 0, .bool false, .int .i64 2]) ∧ Below w.heap.size w w' ∧ w'.ownsRow w.heap.size 3 1 (.slice p' xs.length c') xs.length (ints xs) := by
  have H1 := Lib.hid (ints_one xs)
  have HR := Lib.hid hr
  have HE := Lib.hid he
  clear hr he
  go_enter Try.func82, Try.ntmps82
  go_wp2_with fail
  go_region_with (go_at_call 32; go_must (refine (clone_int p xs.length c (ints xs) _ ?_ H1.out (by omega)).mono ?_; (· repeat (first | exact HR.out | apply Rd.drew | apply Rd.alloc)); rintro e w1 ⟨p', c', rfl, hb, hown⟩; have hc1 := ((Blk.new w 60 #[.int .i64 kind, .int .i64 at_, .int .i64 old, .int .i64 new]).drew.below hb (by simp)).cell))
  all_goals
    go_wp2_with (go_at_call 83; go_must (refine (wrong_any w1.heap.size _ xs kind at_ old new p' c' hk0 hk hlen (Blk.new w1 93 #[.int .i64 kind, .int .i64 at_, .int .i64 old, .int .i64 new, .slice p' xs.length c'])).mono ?_; rintro e w2 ⟨rfl, k, rfl⟩; rw [HE.out]))
    refine bodyPost_ret (v := .tuple #[.slice p' xs.length c', .int .i64 0, .bool false, .int .i64 2]) (by simp [results, Try.results82, go_sem]) rfl ⟨p', c', rfl, ?_, ?_⟩
    · repeat (first | exact Below.refl _ _ | apply ext_drewN | apply ext_drew | apply ext_alloc | refine ext_trans ?_ (by assumption))
    · repeat (first | exact owns_mono hown (by simp) | apply own_drewN | apply own_drew | apply own_alloc)

end Go.Proofs.Ytdnajckhnknlcaa

/-! What a step of a worker on a deque computes, in plain Lean. -/
namespace Go.Proofs.Ytdnajckhnknlcaa
set_option linter.unusedVariables false
set_option linter.unusedSimpArgs false
open Go.RowKit

/-- The access that a worker makes next: its kind, place, old and new number. -/
def accF (at_ room : Int) (x : Wk) : Option (Int × Int × Int × Int) :=
  if x.job = 7 then
    if x.pc = 0 then some (1, wrap64 (at_ + 1), 0, 0)
    else if x.pc = 1 then some (1, at_, 0, 0)
    else if x.pc = 2 then some (2, placeF at_ room x.r1, 0, x.r0)
    else if x.pc = 3 then some (2, wrap64 (at_ + 1), 0, wrap64 (x.r1 + 1))
    else none
  else if x.job = 6 then
    if x.pc = 0 then some (1, wrap64 (at_ + 1), 0, 0)
    else if x.pc = 1 then some (2, wrap64 (at_ + 1), 0, x.r1)
    else if x.pc = 2 then some (1, at_, 0, 0)
    else if x.pc = 3 then some (1, placeF at_ room x.r1, 0, 0)
    else if x.pc = 4 then some (3, at_, x.r2, wrap64 (x.r2 + 1))
    else if x.pc = 5 then some (2, wrap64 (at_ + 1), 0, wrap64 (x.r1 + 1))
    else none
  else if x.job = 5 then
    if x.pc = 0 then some (1, at_, 0, 0)
    else if x.pc = 1 then some (1, wrap64 (at_ + 1), 0, 0)
    else if x.pc = 2 then some (1, placeF at_ room x.r1, 0, 0)
    else if x.pc = 3 then some (3, at_, x.r1, wrap64 (x.r1 + 1))
    else none
  else none

/-- The worker behind its access. -/
def behF (x : Wk) (r : DoR) (room : Int) : Wk :=
  if x.job = 7 then
    if x.pc = 0 then { x with r1 := r.x, pc := 1 }
    else if x.pc = 1 then
      if room ≤ wrap64 (x.r1 - r.x) then { x with r2 := r.x, done := true, out := -1 } else { x with r2 := r.x, pc := 2 }
    else if x.pc = 2 then { x with pc := 3 }
    else { x with done := true, out := x.r0 }
  else if x.job = 6 then
    if x.pc = 0 then { x with r1 := wrap64 (r.x - 1), pc := 1 }
    else if x.pc = 1 then { x with pc := 2 }
    else if x.pc = 2 then
      if x.r1 < r.x then { x with r2 := r.x, out := -1, pc := 5 } else { x with r2 := r.x, pc := 3 }
    else if x.pc = 3 then
      if x.r2 < x.r1 then { x with r3 := r.x, done := true, out := r.x } else { x with r3 := r.x, pc := 4 }
    else if x.pc = 4 then
      if r.done then { x with out := x.r3, pc := 5 } else { x with out := -1, pc := 5 }
    else { x with done := true }
  else
    if x.pc = 0 then { x with r1 := r.x, pc := 1 }
    else if x.pc = 1 then
      if r.x ≤ x.r1 then { x with r2 := r.x, done := true, out := -1 } else { x with r2 := r.x, pc := 2 }
    else if x.pc = 2 then { x with r3 := r.x, pc := 3 }
    else
      if r.done then { x with done := true, out := x.r3 } else { x with pc := 0 }

/-- What came of a step: the error, the words, the worker. -/
structure StR where
  e : Int
  xs : List Int
  x : Wk

def stepF (xs : List Int) (at_ room : Int) (x : Wk) : StR :=
  if may room = false ∨ at_ < 0 ∨ x.done = true then ⟨1, xs, x⟩
  else match accF at_ room x with
    | none => ⟨1, xs, x⟩
    | some (k, a, o, n) =>
      let r := doF xs k a o n
      if r.e ≠ 0 then ⟨r.e, xs, x⟩ else ⟨0, r.xs, behF x r room⟩

/-- The cells of one that works on a deque. -/
def hdV (x : Wk) (p : Option Addr) (n c : Nat) (at_ room e : Int) : Array Value :=
  #[.int .i64 x.pc, .int .i64 x.job, .int .i64 x.r0, .int .i64 x.r1, .int .i64 x.r2, .int .i64 x.r3, .int .i64 x.r4, .int .i64 x.r5, .int .i64 x.r6, .int .i64 x.r7, .bool x.done, .int .i64 x.out, .slice p n c, .int .i64 at_, .int .i64 room, .int .i64 e]

end Go.Proofs.Ytdnajckhnknlcaa

/-! append to nothing: a copy; and the reference's access to words. -/
namespace Go.Proofs.Ytdnajckhnknlcaa
set_option linter.unusedVariables false
set_option linter.unusedSimpArgs false
open Go.RowKit

/-- append([]T(nil), src...): new memory that reads as src. -/
theorem wpList_copy {P : Program} (w : World) {ops : Array Oper} {rest : List Oper} {o : Oper} {a : Act} {Q : Exit → Act → World → Prop} (hgd : o.guard = none) (s x : Operand) (t : TypeId)
    (ho : o.op = .call { callee := .builtin .append, args := #[s, x], argTypes := #[t, t] })
    (e : TypeId) (z : Value) (size bytes : Nat) (ht : P.underlying t = some (.slice e)) (hinfo : (P.info? e).map (fun i => (i.zero, i.size, i.bytes)) = some (some z, size, bytes))
    (hzs : z.cells.size = size) (hsz : 0 < size) (hs : a.eval s = .slice none 0 0)
    (p : Option Addr) (m c : Nat) (news : List Value) (hx : a.eval x = .slice p m c) (hr : Rd w size p m c news) (h1 : ∀ u ∈ news, u.oneCell' = true)
    (hbytes : m * bytes ≤ 140737488355328)
    (h : ∀ p' c' w', w'.ownsRow w.heap.size e size (.slice p' m c') m news → Below w.heap.size w w' → wpList P ops Q rest (a.put o.dst (.slice p' m c')) w') :
    wpList P ops Q (o :: rest) a w := by
  refine wpList_append_rd w hgd s x t ho w.heap.size e z size bytes ht hinfo hzs hsz (.slice none 0 0) 0 [] hs (World.ownsRow_nil _ _ _ _) p m c news hx hr h1 (by rw [Nat.zero_add]; exact Nat.le_trans hr.cap hr.max) (by rw [Nat.zero_add]; exact hbytes) (Nat.le_refl _) ?_
  intro v' w' hown hg _
  rw [Nat.zero_add, List.nil_append] at hown
  obtain ⟨p', c', rfl, _, _⟩ := Rd.of_owns hown
  exact h p' c' w' hown (ext_grown (Below.refl _ _) hg (by intro k hk; simp [Value.ownBlock] at hk))

/-- .. of something: where it lies. -/
theorem wpList_copy_some {P : Program} (w : World) {ops : Array Oper} {rest : List Oper} {o : Oper} {a : Act} {Q : Exit → Act → World → Prop} (hgd : o.guard = none) (s x : Operand) (t : TypeId)
    (ho : o.op = .call { callee := .builtin .append, args := #[s, x], argTypes := #[t, t] })
    (e : TypeId) (z : Value) (size bytes : Nat) (ht : P.underlying t = some (.slice e)) (hinfo : (P.info? e).map (fun i => (i.zero, i.size, i.bytes)) = some (some z, size, bytes))
    (hzs : z.cells.size = size) (hsz : 0 < size) (hs : a.eval s = .slice none 0 0)
    (p : Option Addr) (m c : Nat) (news : List Value) (hx : a.eval x = .slice p m c) (hr : Rd w size p m c news) (h1 : ∀ u ∈ news, u.oneCell' = true)
    (hbytes : m * bytes ≤ 140737488355328) (hm : 0 < m)
    (h : ∀ g c' w', w'.ownsRow w.heap.size e size (.slice (some ⟨g, 0, none⟩) m c') m news → Below w.heap.size w w' → g < w'.heap.size → (∀ j, j < m * size → w'.cell? ⟨g, j, none⟩ = news[j]?) → (∀ j, w'.frozen? ⟨g, j, none⟩ = false) →
      wpList P ops Q rest (a.put o.dst (.slice (some ⟨g, 0, none⟩) m c')) w') :
    wpList P ops Q (o :: rest) a w := by
  refine wpList_copy w hgd s x t ho e z size bytes ht hinfo hzs hsz hs p m c news hx hr h1 hbytes ?_
  intro p' c' w' hown hb
  obtain ⟨g, cap, hv, hg, hlt, hcell, hfr⟩ := owns_form hown hm
  simp only [Value.slice.injEq, true_and] at hv
  obtain ⟨rfl, rfl⟩ := hv
  exact h g c' w' hown hb hlt hcell hfr

theorem fits_yes (n : Int) (w : World) (h : within n = true) : Calls Try.prog 61 #[.int .i64 n] w fun e w' => e = .returned (.bool true) ∧ w = w' := by
  simp only [within, Bool.and_eq_true, decide_eq_true_eq] at h
  obtain ⟨h1, h2⟩ := h
  go_enter Try.func61, Try.ntmps61
  go_wp2
  go_ret
  exact ⟨rfl, rfl⟩

theorem fits_no (n : Int) (w : World) (h : within n = false) : Calls Try.prog 61 #[.int .i64 n] w fun e w' => e = .returned (.bool false) ∧ w = w' := by
  simp only [within, Bool.and_eq_false_iff, decide_eq_false_iff_not] at h
  rcases h with h1 | h1
  · go_enter Try.func61, Try.ntmps61
    go_wp2
    go_ret
    exact ⟨rfl, rfl⟩
  · by_cases h2 : -1152921504606846975 ≤ n
    · go_enter Try.func61, Try.ntmps61
      go_wp2
      go_ret
      exact ⟨rfl, rfl⟩
    · omega

end Go.Proofs.Ytdnajckhnknlcaa

/-! The reference's access to words, as it is called here (loads, writes, swaps). -/
namespace Go.Proofs.Ytdnajckhnknlcaa
set_option linter.unusedVariables false
set_option linter.unusedSimpArgs false
open Go.RowKit

set_option maxHeartbeats 1000000 in
theorem rdo_neg (p : Option Addr) (c : Nat) (xs : List Int) (kind at_ old new : Int) (hk0 : 1 ≤ kind) (hk : kind ≤ 3) (hat : at_ < 0) (w : World) (hr : Rd w 1 p xs.length c (ints xs)) (hlen : xs.length ≤ 100000) :
    Calls Try.prog 35 #[.slice p xs.length c, .agg #[.int .i64 kind, .int .i64 at_, .int .i64 old, .int .i64 new]] w fun e w' =>
      ∃ p' c', e = .returned (.tuple #[.slice p' xs.length c', .int .i64 0, .bool false, .int .i64 2]) ∧ Below w.heap.size w w' ∧ w'.ownsRow w.heap.size 3 1 (.slice p' xs.length c') xs.length (ints xs) := by
  have H1 := Lib.hid (ints_one xs)
  have HR := Lib.hid hr
  clear hr
  go_enter Try.func35, Try.ntmps35
  go_wp2_with (at_builtin; go_must (refine wpList_copy _ rfl (.const (.slice none 0 0)) (.tmp 11) 22 rfl 3 (.int .i64 0) 1 8 Try.underlying22 info_3 rfl (by decide) rfl p xs.length c (ints xs) rfl (HR.out.alloc _) H1.out (by omega) ?_))
  · intro p' c' w1 hown hb0
    have hb : Below (w.alloc (.cells #[.int .i64 kind, .int .i64 at_, .int .i64 old, .int .i64 new] 60)).heap.size (w.alloc (.cells #[.int .i64 kind, .int .i64 at_, .int .i64 old, .int .i64 new] 60)) w1 := by simpa using hb0
    clear hb0
    have hc1 := ((Blk.new w 60 #[.int .i64 kind, .int .i64 at_, .int .i64 old, .int .i64 new]).ext hb).cell
    go_wp2_with fail
    refine bodyPost_ret (v := .tuple #[.slice p' xs.length c', .int .i64 0, .bool false, .int .i64 2]) (by simp [results, Try.results35, go_sem]) rfl ⟨p', c', rfl, ?_, ?_⟩
    · first | exact (ext_trans (ext_alloc (Below.refl _ _) _) hb) | (refine ext_set (ext_trans (ext_alloc (Below.refl _ _) _) hb) _ _ (by have hz := (hown.lt g rfl).1; omega))
    · exact (owns_mono hown (by simp))

set_option maxHeartbeats 1000000 in
theorem rdo_far (p : Option Addr) (c : Nat) (xs : List Int) (kind at_ old new : Int) (hk0 : 1 ≤ kind) (hk : kind ≤ 3) (hat0 : 0 ≤ at_) (hat : (xs.length : Int) ≤ at_) (w : World) (hr : Rd w 1 p xs.length c (ints xs)) (hlen : xs.length ≤ 100000) :
    Calls Try.prog 35 #[.slice p xs.length c, .agg #[.int .i64 kind, .int .i64 at_, .int .i64 old, .int .i64 new]] w fun e w' =>
      ∃ p' c', e = .returned (.tuple #[.slice p' xs.length c', .int .i64 0, .bool false, .int .i64 2]) ∧ Below w.heap.size w w' ∧ w'.ownsRow w.heap.size 3 1 (.slice p' xs.length c') xs.length (ints xs) := by
  have H1 := Lib.hid (ints_one xs)
  have HR := Lib.hid hr
  clear hr
  go_enter Try.func35, Try.ntmps35
  go_wp2_with (at_builtin; go_must (refine wpList_copy _ rfl (.const (.slice none 0 0)) (.tmp 11) 22 rfl 3 (.int .i64 0) 1 8 Try.underlying22 info_3 rfl (by decide) rfl p xs.length c (ints xs) rfl (HR.out.alloc _) H1.out (by omega) ?_))
  · intro p' c' w1 hown hb0
    have hb : Below (w.alloc (.cells #[.int .i64 kind, .int .i64 at_, .int .i64 old, .int .i64 new] 60)).heap.size (w.alloc (.cells #[.int .i64 kind, .int .i64 at_, .int .i64 old, .int .i64 new] 60)) w1 := by simpa using hb0
    clear hb0
    have hc1 := ((Blk.new w 60 #[.int .i64 kind, .int .i64 at_, .int .i64 old, .int .i64 new]).ext hb).cell
    go_wp2_with fail
    refine bodyPost_ret (v := .tuple #[.slice p' xs.length c', .int .i64 0, .bool false, .int .i64 2]) (by simp [results, Try.results35, go_sem]) rfl ⟨p', c', rfl, ?_, ?_⟩
    · first | exact (ext_trans (ext_alloc (Below.refl _ _) _) hb) | (refine ext_set (ext_trans (ext_alloc (Below.refl _ _) _) hb) _ _ (by have hz := (hown.lt g rfl).1; omega))
    · exact (owns_mono hown (by simp))

set_option maxHeartbeats 1000000 in
theorem rdo_load (p : Option Addr) (c : Nat) (xs : List Int) (i : Nat) (hi : i < xs.length) (x : Int) (hx : (ints xs)[i]? = some (.int .i64 x)) (old new : Int) (w : World) (hr : Rd w 1 p xs.length c (ints xs)) (hlen : xs.length ≤ 100000) :
    Calls Try.prog 35 #[.slice p xs.length c, .agg #[.int .i64 1, .int .i64 i, .int .i64 old, .int .i64 new]] w fun e w' =>
      ∃ p' c', e = .returned (.tuple #[.slice p' xs.length c', .int .i64 x, .bool true, .int .i64 0]) ∧ Below w.heap.size w w' ∧ w'.ownsRow w.heap.size 3 1 (.slice p' xs.length c') xs.length (ints xs) := by
  have H1 := Lib.hid (ints_one xs)
  obtain ⟨b, off, rfl⟩ := hr.addr (by omega) (by decide)
  have hcm := hr.cell i _ hx
  have hlb := hr.lt (by decide) _ rfl (by omega)
  have HR := Lib.hid hr
  have HX := Lib.hid hx
  clear hr hx
  go_enter Try.func35, Try.ntmps35
  go_wp2_with (at_builtin; go_must (refine wpList_copy_some _ rfl (.const (.slice none 0 0)) (.tmp 11) 22 rfl 3 (.int .i64 0) 1 8 Try.underlying22 info_3 rfl (by decide) rfl (some ⟨b, off, none⟩) xs.length c (ints xs) rfl (HR.out.alloc _) H1.out (by omega) (by omega) ?_))
  · intro g c' w1 hown hb0 hlt hcell hfr
    have hb : Below (w.alloc (.cells #[.int .i64 1, .int .i64 i, .int .i64 old, .int .i64 new] 60)).heap.size (w.alloc (.cells #[.int .i64 1, .int .i64 i, .int .i64 old, .int .i64 new] 60)) w1 := by simpa using hb0
    clear hb0
    have hcg := (hcell i (by omega)).trans HX.out
    clear hcell
    have hc1 := ((Blk.new w 60 #[.int .i64 1, .int .i64 i, .int .i64 old, .int .i64 new]).ext hb).cell
    have hcm1 : w1.cell? ⟨b, off + i, none⟩ = some (.int .i64 x) := by rw [hb.cell (p := ⟨b, off + i, none⟩) (by simp at hlb ⊢; omega), World.cell?_alloc_lt _ _ _ hlb]; exact hcm
    clear hcm
    go_wp2_with fail
    refine bodyPost_ret (v := .tuple #[.slice (some ⟨g, 0, none⟩) xs.length c', .int .i64 x, .bool true, .int .i64 0]) (by simp [results, Try.results35, go_sem]) rfl ⟨(some ⟨g, 0, none⟩), c', rfl, ?_, ?_⟩
    · first | exact (ext_trans (ext_alloc (Below.refl _ _) _) hb) | (refine ext_set (ext_trans (ext_alloc (Below.refl _ _) _) hb) _ _ (by have hz := (hown.lt g rfl).1; omega))
    · exact (owns_mono hown (by simp))

set_option maxHeartbeats 1000000 in
theorem rdo_unfit2 (p : Option Addr) (c : Nat) (xs : List Int) (i : Nat) (hi : i < xs.length) (x : Int) (hx : (ints xs)[i]? = some (.int .i64 x)) (old new : Int) (hw : within new = false) (w : World) (hr : Rd w 1 p xs.length c (ints xs)) (hlen : xs.length ≤ 100000) :
    Calls Try.prog 35 #[.slice p xs.length c, .agg #[.int .i64 2, .int .i64 i, .int .i64 old, .int .i64 new]] w fun e w' =>
      ∃ p' c', e = .returned (.tuple #[.slice p' xs.length c', .int .i64 0, .bool false, .int .i64 2]) ∧ Below w.heap.size w w' ∧ w'.ownsRow w.heap.size 3 1 (.slice p' xs.length c') xs.length (ints xs) := by
  have H1 := Lib.hid (ints_one xs)
  obtain ⟨b, off, rfl⟩ := hr.addr (by omega) (by decide)
  have hcm := hr.cell i _ hx
  have hlb := hr.lt (by decide) _ rfl (by omega)
  have HR := Lib.hid hr
  have HX := Lib.hid hx
  clear hr hx
  have HW := Lib.hid hw
  clear hw
  go_enter Try.func35, Try.ntmps35
  go_wp2_with (at_builtin; go_must (refine wpList_copy_some _ rfl (.const (.slice none 0 0)) (.tmp 11) 22 rfl 3 (.int .i64 0) 1 8 Try.underlying22 info_3 rfl (by decide) rfl (some ⟨b, off, none⟩) xs.length c (ints xs) rfl (HR.out.alloc _) H1.out (by omega) (by omega) ?_))
  · intro g c' w1 hown hb0 hlt hcell hfr
    have hb : Below (w.alloc (.cells #[.int .i64 2, .int .i64 i, .int .i64 old, .int .i64 new] 60)).heap.size (w.alloc (.cells #[.int .i64 2, .int .i64 i, .int .i64 old, .int .i64 new] 60)) w1 := by simpa using hb0
    clear hb0
    have hcg := (hcell i (by omega)).trans HX.out
    clear hcell
    have hc1 := ((Blk.new w 60 #[.int .i64 2, .int .i64 i, .int .i64 old, .int .i64 new]).ext hb).cell
    have hcm1 : w1.cell? ⟨b, off + i, none⟩ = some (.int .i64 x) := by rw [hb.cell (p := ⟨b, off + i, none⟩) (by simp at hlb ⊢; omega), World.cell?_alloc_lt _ _ _ hlb]; exact hcm
    clear hcm
    go_wp2_with (go_at_call 61; go_must (refine (fits_no new _ HW.out).mono ?_; rintro e w2 ⟨rfl, rfl⟩))
    refine bodyPost_ret (v := .tuple #[.slice (some ⟨g, 0, none⟩) xs.length c', .int .i64 0, .bool false, .int .i64 2]) (by simp [results, Try.results35, go_sem]) rfl ⟨(some ⟨g, 0, none⟩), c', rfl, ?_, ?_⟩
    · first | exact (ext_trans (ext_alloc (Below.refl _ _) _) hb) | (refine ext_set (ext_trans (ext_alloc (Below.refl _ _) _) hb) _ _ (by have hz := (hown.lt g rfl).1; omega))
    · exact (owns_mono hown (by simp))

set_option maxHeartbeats 1000000 in
theorem rdo_unfit3 (p : Option Addr) (c : Nat) (xs : List Int) (i : Nat) (hi : i < xs.length) (x : Int) (hx : (ints xs)[i]? = some (.int .i64 x)) (old new : Int) (hw : within new = false) (w : World) (hr : Rd w 1 p xs.length c (ints xs)) (hlen : xs.length ≤ 100000) :
    Calls Try.prog 35 #[.slice p xs.length c, .agg #[.int .i64 3, .int .i64 i, .int .i64 old, .int .i64 new]] w fun e w' =>
      ∃ p' c', e = .returned (.tuple #[.slice p' xs.length c', .int .i64 0, .bool false, .int .i64 2]) ∧ Below w.heap.size w w' ∧ w'.ownsRow w.heap.size 3 1 (.slice p' xs.length c') xs.length (ints xs) := by
  have H1 := Lib.hid (ints_one xs)
  obtain ⟨b, off, rfl⟩ := hr.addr (by omega) (by decide)
  have hcm := hr.cell i _ hx
  have hlb := hr.lt (by decide) _ rfl (by omega)
  have HR := Lib.hid hr
  have HX := Lib.hid hx
  clear hr hx
  have HW := Lib.hid hw
  clear hw
  go_enter Try.func35, Try.ntmps35
  go_wp2_with (at_builtin; go_must (refine wpList_copy_some _ rfl (.const (.slice none 0 0)) (.tmp 11) 22 rfl 3 (.int .i64 0) 1 8 Try.underlying22 info_3 rfl (by decide) rfl (some ⟨b, off, none⟩) xs.length c (ints xs) rfl (HR.out.alloc _) H1.out (by omega) (by omega) ?_))
  · intro g c' w1 hown hb0 hlt hcell hfr
    have hb : Below (w.alloc (.cells #[.int .i64 3, .int .i64 i, .int .i64 old, .int .i64 new] 60)).heap.size (w.alloc (.cells #[.int .i64 3, .int .i64 i, .int .i64 old, .int .i64 new] 60)) w1 := by simpa using hb0
    clear hb0
    have hcg := (hcell i (by omega)).trans HX.out
    clear hcell
    have hc1 := ((Blk.new w 60 #[.int .i64 3, .int .i64 i, .int .i64 old, .int .i64 new]).ext hb).cell
    have hcm1 : w1.cell? ⟨b, off + i, none⟩ = some (.int .i64 x) := by rw [hb.cell (p := ⟨b, off + i, none⟩) (by simp at hlb ⊢; omega), World.cell?_alloc_lt _ _ _ hlb]; exact hcm
    clear hcm
    go_wp2_with (go_at_call 61; go_must (refine (fits_no new _ HW.out).mono ?_; rintro e w2 ⟨rfl, rfl⟩))
    refine bodyPost_ret (v := .tuple #[.slice (some ⟨g, 0, none⟩) xs.length c', .int .i64 0, .bool false, .int .i64 2]) (by simp [results, Try.results35, go_sem]) rfl ⟨(some ⟨g, 0, none⟩), c', rfl, ?_, ?_⟩
    · first | exact (ext_trans (ext_alloc (Below.refl _ _) _) hb) | (refine ext_set (ext_trans (ext_alloc (Below.refl _ _) _) hb) _ _ (by have hz := (hown.lt g rfl).1; omega))
    · exact (owns_mono hown (by simp))

set_option maxHeartbeats 1000000 in
theorem rdo_write (p : Option Addr) (c : Nat) (xs : List Int) (i : Nat) (hi : i < xs.length) (x : Int) (hx : (ints xs)[i]? = some (.int .i64 x)) (old new : Int) (hw : within new = true) (w : World) (hr : Rd w 1 p xs.length c (ints xs)) (hlen : xs.length ≤ 100000) :
    Calls Try.prog 35 #[.slice p xs.length c, .agg #[.int .i64 2, .int .i64 i, .int .i64 old, .int .i64 new]] w fun e w' =>
      ∃ p' c', e = .returned (.tuple #[.slice p' xs.length c', .int .i64 x, .bool true, .int .i64 0]) ∧ Below w.heap.size w w' ∧ w'.ownsRow w.heap.size 3 1 (.slice p' xs.length c') xs.length (ints (xs.set i new)) := by
  have H1 := Lib.hid (ints_one xs)
  obtain ⟨b, off, rfl⟩ := hr.addr (by omega) (by decide)
  have hcm := hr.cell i _ hx
  have hlb := hr.lt (by decide) _ rfl (by omega)
  have HR := Lib.hid hr
  have HX := Lib.hid hx
  clear hr hx
  have HW := Lib.hid hw
  clear hw
  go_enter Try.func35, Try.ntmps35
  go_wp2_with (at_builtin; go_must (refine wpList_copy_some _ rfl (.const (.slice none 0 0)) (.tmp 11) 22 rfl 3 (.int .i64 0) 1 8 Try.underlying22 info_3 rfl (by decide) rfl (some ⟨b, off, none⟩) xs.length c (ints xs) rfl (HR.out.alloc _) H1.out (by omega) (by omega) ?_))
  · intro g c' w1 hown hb0 hlt hcell hfr
    have hb : Below (w.alloc (.cells #[.int .i64 2, .int .i64 i, .int .i64 old, .int .i64 new] 60)).heap.size (w.alloc (.cells #[.int .i64 2, .int .i64 i, .int .i64 old, .int .i64 new] 60)) w1 := by simpa using hb0
    clear hb0
    have hcg := (hcell i (by omega)).trans HX.out
    clear hcell
    have hc1 := ((Blk.new w 60 #[.int .i64 2, .int .i64 i, .int .i64 old, .int .i64 new]).ext hb).cell
    have hcm1 : w1.cell? ⟨b, off + i, none⟩ = some (.int .i64 x) := by rw [hb.cell (p := ⟨b, off + i, none⟩) (by simp at hlb ⊢; omega), World.cell?_alloc_lt _ _ _ hlb]; exact hcm
    clear hcm
    go_wp2_with (go_at_call 61; go_must (refine (fits_yes new _ HW.out).mono ?_; rintro e w2 ⟨rfl, rfl⟩))
    refine bodyPost_ret (v := .tuple #[.slice (some ⟨g, 0, none⟩) xs.length c', .int .i64 x, .bool true, .int .i64 0]) (by simp [results, Try.results35, go_sem]) rfl ⟨(some ⟨g, 0, none⟩), c', rfl, ?_, ?_⟩
    · first | exact (ext_trans (ext_alloc (Below.refl _ _) _) hb) | (refine ext_set (ext_trans (ext_alloc (Below.refl _ _) _) hb) _ _ (by have hz := (hown.lt g rfl).1; omega))
    · exact (by rw [ints_set]; exact (World.ownsRow.stored (owns_mono hown (by simp)) _ _).1)

set_option maxHeartbeats 1000000 in
theorem rdo_swapyes (p : Option Addr) (c : Nat) (xs : List Int) (i : Nat) (hi : i < xs.length) (x : Int) (hx : (ints xs)[i]? = some (.int .i64 x)) (old new : Int) (hw : within new = true) (hxo : (x != old) = false) (w : World) (hr : Rd w 1 p xs.length c (ints xs)) (hlen : xs.length ≤ 100000) :
    Calls Try.prog 35 #[.slice p xs.length c, .agg #[.int .i64 3, .int .i64 i, .int .i64 old, .int .i64 new]] w fun e w' =>
      ∃ p' c', e = .returned (.tuple #[.slice p' xs.length c', .int .i64 x, .bool true, .int .i64 0]) ∧ Below w.heap.size w w' ∧ w'.ownsRow w.heap.size 3 1 (.slice p' xs.length c') xs.length (ints (xs.set i new)) := by
  have H1 := Lib.hid (ints_one xs)
  obtain ⟨b, off, rfl⟩ := hr.addr (by omega) (by decide)
  have hcm := hr.cell i _ hx
  have hlb := hr.lt (by decide) _ rfl (by omega)
  have HR := Lib.hid hr
  have HX := Lib.hid hx
  clear hr hx
  have HW := Lib.hid hw
  clear hw
  go_enter Try.func35, Try.ntmps35
  go_wp2_with (at_builtin; go_must (refine wpList_copy_some _ rfl (.const (.slice none 0 0)) (.tmp 11) 22 rfl 3 (.int .i64 0) 1 8 Try.underlying22 info_3 rfl (by decide) rfl (some ⟨b, off, none⟩) xs.length c (ints xs) rfl (HR.out.alloc _) H1.out (by omega) (by omega) ?_))
  · intro g c' w1 hown hb0 hlt hcell hfr
    have hb : Below (w.alloc (.cells #[.int .i64 3, .int .i64 i, .int .i64 old, .int .i64 new] 60)).heap.size (w.alloc (.cells #[.int .i64 3, .int .i64 i, .int .i64 old, .int .i64 new] 60)) w1 := by simpa using hb0
    clear hb0
    have hcg := (hcell i (by omega)).trans HX.out
    clear hcell
    have hc1 := ((Blk.new w 60 #[.int .i64 3, .int .i64 i, .int .i64 old, .int .i64 new]).ext hb).cell
    have hcm1 : w1.cell? ⟨b, off + i, none⟩ = some (.int .i64 x) := by rw [hb.cell (p := ⟨b, off + i, none⟩) (by simp at hlb ⊢; omega), World.cell?_alloc_lt _ _ _ hlb]; exact hcm
    clear hcm
    go_wp2_with (go_at_call 61; go_must (refine (fits_yes new _ HW.out).mono ?_; rintro e w2 ⟨rfl, rfl⟩))
    refine bodyPost_ret (v := .tuple #[.slice (some ⟨g, 0, none⟩) xs.length c', .int .i64 x, .bool true, .int .i64 0]) (by simp [results, Try.results35, go_sem]) rfl ⟨(some ⟨g, 0, none⟩), c', rfl, ?_, ?_⟩
    · first | exact (ext_trans (ext_alloc (Below.refl _ _) _) hb) | (refine ext_set (ext_trans (ext_alloc (Below.refl _ _) _) hb) _ _ (by have hz := (hown.lt g rfl).1; omega))
    · exact (by rw [ints_set]; exact (World.ownsRow.stored (owns_mono hown (by simp)) _ _).1)

set_option maxHeartbeats 1000000 in
theorem rdo_swapno (p : Option Addr) (c : Nat) (xs : List Int) (i : Nat) (hi : i < xs.length) (x : Int) (hx : (ints xs)[i]? = some (.int .i64 x)) (old new : Int) (hw : within new = true) (hxo : (x != old) = true) (w : World) (hr : Rd w 1 p xs.length c (ints xs)) (hlen : xs.length ≤ 100000) :
    Calls Try.prog 35 #[.slice p xs.length c, .agg #[.int .i64 3, .int .i64 i, .int .i64 old, .int .i64 new]] w fun e w' =>
      ∃ p' c', e = .returned (.tuple #[.slice p' xs.length c', .int .i64 x, .bool false, .int .i64 0]) ∧ Below w.heap.size w w' ∧ w'.ownsRow w.heap.size 3 1 (.slice p' xs.length c') xs.length (ints xs) := by
  have H1 := Lib.hid (ints_one xs)
  obtain ⟨b, off, rfl⟩ := hr.addr (by omega) (by decide)
  have hcm := hr.cell i _ hx
  have hlb := hr.lt (by decide) _ rfl (by omega)
  have HR := Lib.hid hr
  have HX := Lib.hid hx
  clear hr hx
  have HW := Lib.hid hw
  clear hw
  go_enter Try.func35, Try.ntmps35
  go_wp2_with (at_builtin; go_must (refine wpList_copy_some _ rfl (.const (.slice none 0 0)) (.tmp 11) 22 rfl 3 (.int .i64 0) 1 8 Try.underlying22 info_3 rfl (by decide) rfl (some ⟨b, off, none⟩) xs.length c (ints xs) rfl (HR.out.alloc _) H1.out (by omega) (by omega) ?_))
  · intro g c' w1 hown hb0 hlt hcell hfr
    have hb : Below (w.alloc (.cells #[.int .i64 3, .int .i64 i, .int .i64 old, .int .i64 new] 60)).heap.size (w.alloc (.cells #[.int .i64 3, .int .i64 i, .int .i64 old, .int .i64 new] 60)) w1 := by simpa using hb0
    clear hb0
    have hcg := (hcell i (by omega)).trans HX.out
    clear hcell
    have hc1 := ((Blk.new w 60 #[.int .i64 3, .int .i64 i, .int .i64 old, .int .i64 new]).ext hb).cell
    have hcm1 : w1.cell? ⟨b, off + i, none⟩ = some (.int .i64 x) := by rw [hb.cell (p := ⟨b, off + i, none⟩) (by simp at hlb ⊢; omega), World.cell?_alloc_lt _ _ _ hlb]; exact hcm
    clear hcm
    go_wp2_with (go_at_call 61; go_must (refine (fits_yes new _ HW.out).mono ?_; rintro e w2 ⟨rfl, rfl⟩))
    refine bodyPost_ret (v := .tuple #[.slice (some ⟨g, 0, none⟩) xs.length c', .int .i64 x, .bool false, .int .i64 0]) (by simp [results, Try.results35, go_sem]) rfl ⟨(some ⟨g, 0, none⟩), c', rfl, ?_, ?_⟩
    · first | exact (ext_trans (ext_alloc (Below.refl _ _) _) hb) | (refine ext_set (ext_trans (ext_alloc (Below.refl _ _) _) hb) _ _ (by have hz := (hown.lt g rfl).1; omega))
    · exact (owns_mono hown (by simp))

end Go.Proofs.Ytdnajckhnknlcaa
