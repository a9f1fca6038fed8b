/-
  For every input the law DequeTells returns true, and its input reads afterwards as it did: deques, and what a step does, are as the document says.
  Conditions: none but the statement's own.
-/
import Derived.Test.YtdnajckhnknlcaaT3x2
import Derived.Test.YtdnajckhnknlcaaRows
import Derived.WalkKit
import Derived.ProofKit
import Derived.OpenShut
import Derived.ShutString
import Derived.ChangeOld
import Derived.Below
namespace Go.Proofs.Ytdnajckhnknlcaa.dequeTells
open Go.Proofs.Ytdnajckhnknlcaa
open Go.ChangeShapes Go.WideShapes Go.ChangeAt Go.RowKit
open Go.ChangeMaps (open_string shut_string)
set_option linter.unusedVariables false
set_option linter.unusedSimpArgs false

theorem own : ownKnob Try.prog.godebug = none := by kernel_rfl
theorem laidOut : laidOutB Try.prog = true := by kernel_rfl

/-- WHAT THE WALK IS TOLD OF A SLICE OF INTEGERS THAT CAME IN: it is nil; or it leads to a row of 'cap' cells, the numbers 'zs' (the first 'len' are its elements, the rest its spare room), each fitting its kind. -/
def IsRow (k : IntKind) (w : World) (a : Option Addr) (len cap : Nat) (zs : List Int) : Prop :=
  (a = none ∧ len = 0 ∧ cap = 0 ∧ zs = []) ∨
  ∃ x, a = some x ∧ len ≤ cap ∧ cap ≤ maxLen ∧ zs.length = cap ∧ (∀ i, i < zs.length → w.cell? (x.add i) = some (.int k (zs.getD i 0))) ∧ ∀ n ∈ zs, (Lit.int k n).wf = true

theorem wf_range {n : Int} (h : (Lit.int .i64 n).wf = true) : -9223372036854775808 ≤ n ∧ n ≤ 9223372036854775807 := by
  have hmin : IntKind.i64.min = -9223372036854775808 := rfl
  have hmax : IntKind.i64.max = 9223372036854775807 := rfl
  simp only [Lit.wf, Bool.and_eq_true, decide_eq_true_eq] at h
  omega

theorem row_rd {w : World} {a : Option Addr} {len cap : Nat} {zs : List Int} (h : IsRow .i64 w a len cap zs) : Rd w 1 a len cap (ints (zs.take len)) ∧ Bd (zs.take len) := by
  rcases h with ⟨rfl, rfl, rfl, rfl⟩ | ⟨x, rfl, hl, hm, hz, hc, hw⟩
  · exact ⟨Rd.nil' _ _, fun i h => by simp at h⟩
  · have hg : ∀ j, j < len → (zs.take len).getD j 0 = zs.getD j 0 := fun j hj => by simp [List.getD_eq_getElem?_getD, List.getElem?_take, hj]
    refine ⟨⟨by rw [ints_len, List.length_take]; omega, hl, hm, by simp, fun a ha j u hj => ?_⟩, fun i hi => ?_⟩
    · cases ha
      have hjl : j < (zs.take len).length := by
        have := (List.getElem?_eq_some_iff.1 hj).1
        rw [ints_len] at this; exact this
      have hjl2 : j < len := by rw [List.length_take] at hjl; omega
      rw [ints_get _ j hjl, hg j hjl2] at hj
      cases hj
      exact hc j (by omega)
    · have hi2 : i < len := by rw [List.length_take] at hi; omega
      have hmem : zs.getD i 0 ∈ zs := by
        have : i < zs.length := by omega
        rw [List.getD_eq_getElem?_getD, List.getElem?_eq_getElem this]
        exact List.getElem_mem this
      have h1 := hw _ hmem
      rw [hg i hi2]
      exact wf_range h1

section
variable {H : Type} {enc : TypeId × Value → H} {W : World} {base : Nat} {spare : Nat → Bool} {held : Bool}

theorem cells_3 : Try.prog.cellsOf 3 = 1 := by kernel_rfl
theorem cells_4 : Try.prog.cellsOf 4 = 1 := by kernel_rfl
theorem cells_23 : Try.prog.cellsOf 23 = 8 := by kernel_rfl
theorem cells_25 : Try.prog.cellsOf 25 = 12 := by kernel_rfl

theorem fld (i t o : Nat) (h : ([(true, 3, 0), (true, 3, 1), (true, 23, 2), (true, 4, 10), (true, 3, 11)] : List (Bool × Nat × Nat))[i]? = some (true, t, o)) : ∃ f, (Try.prog.fieldsOf 25)[i]? = some f ∧ f.type = t ∧ f.offset = o := by
  have e := congrArg (fun l => l[i]?) fields_25
  simp only [List.getElem?_map] at e
  rw [h] at e
  rw [Option.map_eq_some_iff] at e
  obtain ⟨f, hf, he⟩ := e
  simp only [Prod.mk.injEq] at he
  exact ⟨f, by simpa using hf, he.2.1, he.2.2⟩

theorem int_piece {n : Nat} {l : List Value} {x : DataW H × List MemPlace} (h : DataW.trod enc Try.prog W base spare held n 3 l = some x) : ∃ k : Int, l = [.int .i64 k] ∧ (Lit.int .i64 k).wf = true := by
  obtain ⟨k, h1, _, h2⟩ := DataW.trod_int Try.underlying3 h
  exact ⟨k, h1, h2⟩

/-- Eight numbers, one behind the other. -/
theorem eight {n : Nat} {c0 c1 c2 c3 c4 c5 c6 c7 : Value} {x : DataW H × List MemPlace} (h : DataW.trod enc Try.prog W base spare held n 23 [c0, c1, c2, c3, c4, c5, c6, c7] = some x) :
    ∃ q0 q1 q2 q3 q4 q5 q6 q7 : Int, c0 = .int .i64 q0 ∧ c1 = .int .i64 q1 ∧ c2 = .int .i64 q2 ∧ c3 = .int .i64 q3 ∧ c4 = .int .i64 q4 ∧ c5 = .int .i64 q5 ∧ c6 = .int .i64 q6 ∧ c7 = .int .i64 q7 ∧
      (Lit.int .i64 q0).wf = true ∧ (Lit.int .i64 q1).wf = true ∧ (Lit.int .i64 q2).wf = true ∧ (Lit.int .i64 q3).wf = true ∧ (Lit.int .i64 q4).wf = true ∧ (Lit.int .i64 q5).wf = true ∧ (Lit.int .i64 q6).wf = true ∧ (Lit.int .i64 q7).wf = true := by
  obtain ⟨xs, m, _, _, _, hlen, hg⟩ := DataW.trod_array Try.underlying23 h
  have one : ∀ (i : Nat) (c : Value), i < 8 → ([c0, c1, c2, c3, c4, c5, c6, c7] : List Value)[i]? = some c → ∃ k : Int, c = .int .i64 k ∧ (Lit.int .i64 k).wf = true := by
    intro i c hi hc
    have h1 := hg i hi
    rw [cells_3, Nat.mul_one, List.getElem?_eq_getElem (by omega : i < xs.length)] at h1
    have h2 : (([c0, c1, c2, c3, c4, c5, c6, c7] : List Value).drop i).take 1 = [c] := by
      obtain ⟨hl, he⟩ := List.getElem?_eq_some_iff.1 hc
      rw [List.drop_eq_getElem_cons hl, he]; rfl
    rw [h2] at h1
    obtain ⟨k, hk, hw⟩ := int_piece h1
    simp only [List.cons.injEq, and_true] at hk
    exact ⟨k, hk, hw⟩
  obtain ⟨q0, e0, v0⟩ := one 0 c0 (by decide) rfl
  obtain ⟨q1, e1, v1⟩ := one 1 c1 (by decide) rfl
  obtain ⟨q2, e2, v2⟩ := one 2 c2 (by decide) rfl
  obtain ⟨q3, e3, v3⟩ := one 3 c3 (by decide) rfl
  obtain ⟨q4, e4, v4⟩ := one 4 c4 (by decide) rfl
  obtain ⟨q5, e5, v5⟩ := one 5 c5 (by decide) rfl
  obtain ⟨q6, e6, v6⟩ := one 6 c6 (by decide) rfl
  obtain ⟨q7, e7, v7⟩ := one 7 c7 (by decide) rfl
  exact ⟨q0, q1, q2, q3, q4, q5, q6, q7, e0, e1, e2, e3, e4, e5, e6, e7, v0, v1, v2, v3, v4, v5, v6, v7⟩

/-- A worker that came in. -/
theorem open_worker {r : Reach} {b0 : Nat} {v : Value} {d : DataW H} {p : List MemPlace} (hv : Value.okWide Try.prog W r b0 25 v) (h : DataW.Trod enc Try.prog W base spare held 25 v d p) : ∃ x : Wk, v = x.v := by
  obtain ⟨cs, rfl, hsz⟩ := okWide_struct struct_25 hv
  obtain ⟨l⟩ := cs
  match l, hsz.trans cells_25 with
  | [c0, c1, c2, c3, c4, c5, c6, c7, c8, c9, c10, c11], _ =>
    obtain ⟨fuel, hf⟩ := h
    obtain ⟨xs, n, _, _, _, hlen, hg⟩ := DataW.trod_struct struct_25 hf
    have hxl : xs.length = 5 := by
      have := congrArg List.length fields_25
      simp at this
      omega
    simp only [Value.cells] at hg
    have piece : ∀ (i t o : Nat), ([(true, 3, 0), (true, 3, 1), (true, 23, 2), (true, 4, 10), (true, 3, 11)] : List (Bool × Nat × Nat))[i]? = some (true, t, o) → i < 5 →
        ∃ x, DataW.trod enc Try.prog W base spare held n t ((([c0, c1, c2, c3, c4, c5, c6, c7, c8, c9, c10, c11] : List Value).drop o).take (Try.prog.cellsOf t)) = some x := by
      intro i t o hi h5
      obtain ⟨f, h1, h2, h3⟩ := fld i t o hi
      have h4 := hg i f h1
      rw [h2, h3, List.getElem?_eq_getElem (by omega : i < xs.length)] at h4
      exact ⟨_, h4⟩
    obtain ⟨x0, p0⟩ := piece 0 3 0 rfl (by decide)
    obtain ⟨x1, p1⟩ := piece 1 3 1 rfl (by decide)
    obtain ⟨x2, p2⟩ := piece 2 23 2 rfl (by decide)
    obtain ⟨x3, p3⟩ := piece 3 4 10 rfl (by decide)
    obtain ⟨x4, p4⟩ := piece 4 3 11 rfl (by decide)
    rw [cells_3] at p0 p1 p4
    rw [cells_23] at p2
    rw [cells_4] at p3
    obtain ⟨k0, e0, _⟩ := int_piece p0
    obtain ⟨k1, e1, _⟩ := int_piece p1
    obtain ⟨k4, e4, _⟩ := int_piece p4
    obtain ⟨k3, e3, _⟩ := DataW.trod_bool Try.underlying4 p3
    obtain ⟨q0, q1, q2, q3, q4, q5, q6, q7, g0, g1, g2, g3, g4, g5, g6, g7, _⟩ := eight p2
    simp only [List.drop_zero, List.drop_succ_cons, List.take_succ_cons, List.take_zero, List.cons.injEq, and_true] at e0 e1 e3 e4
    subst e0 e1 e3 e4 g0 g1 g2 g3 g4 g5 g6 g7
    exact ⟨⟨k0, k1, q0, q1, q2, q3, q4, q5, q6, q7, k3, k4⟩, rfl⟩

/-- Eight numbers that came in. -/
theorem open_eight {r : Reach} {b0 : Nat} {v : Value} {d : DataW H} {p : List MemPlace} (hv : Value.okWide Try.prog W r b0 23 v) (h : DataW.Trod enc Try.prog W base spare held 23 v d p) :
    ∃ q0 q1 q2 q3 q4 q5 q6 q7 : Int, v = .agg #[.int .i64 q0, .int .i64 q1, .int .i64 q2, .int .i64 q3, .int .i64 q4, .int .i64 q5, .int .i64 q6, .int .i64 q7] ∧
      (Lit.int .i64 q0).wf = true ∧ (Lit.int .i64 q1).wf = true ∧ (Lit.int .i64 q2).wf = true ∧ (Lit.int .i64 q3).wf = true ∧ (Lit.int .i64 q4).wf = true ∧ (Lit.int .i64 q5).wf = true ∧ (Lit.int .i64 q6).wf = true ∧ (Lit.int .i64 q7).wf = true := by
  have hcs : ∃ cs, v = .agg cs ∧ cs.size = Try.prog.cellsOf 23 := by
    simp only [Value.okWide, Try.underlying23] at hv
    obtain ⟨cs, h1, h2, _⟩ := hv
    exact ⟨cs, h1, h2⟩
  obtain ⟨cs, rfl, hsz⟩ := hcs
  obtain ⟨l⟩ := cs
  match l, hsz.trans cells_23 with
  | [c0, c1, c2, c3, c4, c5, c6, c7], _ =>
    obtain ⟨fuel, hf⟩ := h
    simp only [Value.cells] at hf
    obtain ⟨q0, q1, q2, q3, q4, q5, q6, q7, g0, g1, g2, g3, g4, g5, g6, g7, hw⟩ := eight hf
    subst g0 g1 g2 g3 g4 g5 g6 g7
    exact ⟨q0, q1, q2, q3, q4, q5, q6, q7, rfl, hw⟩
end

theorem walk (a0 : Option Addr) (len0 cap0 : Nat) (z0 : List Int) (a1 a2 : Int) (x : Wk) (q0 q1 q2 q3 q4 q5 q6 q7 : Int) (w : World) (w0 : IsRow .i64 w a0 len0 cap0 z0) (w1 : (Lit.int .i64 a1).wf = true) (w2 : (Lit.int .i64 a2).wf = true)
    (v0 : (Lit.int .i64 q0).wf = true) (v1 : (Lit.int .i64 q1).wf = true) (v2 : (Lit.int .i64 q2).wf = true) (v3 : (Lit.int .i64 q3).wf = true) (v4 : (Lit.int .i64 q4).wf = true) (v5 : (Lit.int .i64 q5).wf = true) (v6 : (Lit.int .i64 q6).wf = true) (v7 : (Lit.int .i64 q7).wf = true) :
    Calls Try.prog 3 #[.slice a0 len0 cap0, .int .i64 a1, .int .i64 a2, x.v, .agg #[.int .i64 q0, .int .i64 q1, .int .i64 q2, .int .i64 q3, .int .i64 q4, .int .i64 q5, .int .i64 q6, .int .i64 q7]] w fun e w' => e = .returned (.bool true) ∧ Below w.heap.size w w' := by
  obtain ⟨r0, b0⟩ := row_rd w0
  exact tells3 _ a0 len0 cap0 a1 a2 x q0 q1 q2 q3 q4 q5 q6 q7 w r0 b0 (wf_range w1).1 (wf_range w1).2 (wf_range w2).1 (wf_range w2).2 (wf_range v0) (wf_range v1) (wf_range v2) (wf_range v3) (wf_range v4) (wf_range v5) (wf_range v6) (wf_range v7)

/-! ### THE ROW's STEP: WRITTEN OUT: LEAVE IT -/
set_option maxRecDepth 100000 in
theorem lifted (os : Os) (started : os.Started) (H : Type) (enc : TypeId × Value → H) :
    ReturnsInHanded {} Try.checked os 3 .any (Rows.dequeTellsSpec.pre6 enc Try.prog Try.f3 Rows.dequeTellsRow.domain false) (Rows.dequeTellsSpec.post enc Try.prog Try.f3 false true false false) := by
  refine returnsInHanded_of_change (C := Try.checked) own started (by kernel_rfl) Try.func3
    (ChangeSpec.witness6 (enc := enc) (C := Try.checked) false ⟨#[], #[.slice none 0 0, .int .i64 0, .int .i64 0, .agg #[.int .i64 0, .int .i64 0, .int .i64 0, .int .i64 0, .int .i64 0, .int .i64 0, .int .i64 0, .int .i64 0, .int .i64 0, .int .i64 0, .bool false, .int .i64 0], .agg #[.int .i64 0, .int .i64 0, .int .i64 0, .int .i64 0, .int .i64 0, .int .i64 0, .int .i64 0, .int .i64 0]], []⟩ 8 (by kernel_rfl) (by kernel_rfl) (by kernel_rfl) (by kernel_rfl)) ?_
  intro W base args ds gs before hval0 hW hcnd _
  have hval : ∀ (j : Nat) t v, Try.f3.params[j]? = some t → args[j]? = some v → Value.okWide Try.prog W .any base t v := hval0
  have hW' := hW
  obtain ⟨p, q, hA0, hV, rfl, hfz, hnd⟩ := hW
  have hA : DataW.TrodAll enc Try.prog W 0 (fun _ => true) true Try.f3.params.toList args.toList ds p := hA0
  rw [Try.params3] at hA hval
  obtain ⟨v0, vs0, d0, ds0, p0, q0, hargs, rfl, rfl, h0, r0⟩ := trodAll_cons hA
  obtain ⟨v1, vs1, d1, ds1, p1, q1, rfl, rfl, rfl, h1, r1⟩ := trodAll_cons r0
  obtain ⟨v2, vs2, d2, ds2, p2, q2, rfl, rfl, rfl, h2, r2⟩ := trodAll_cons r1
  obtain ⟨v3, vs3, d3, ds3, p3, q3, rfl, rfl, rfl, h3, r3⟩ := trodAll_cons r2
  obtain ⟨v4, vs4, d4, ds4, p4, q4, rfl, rfl, rfl, h4, r4⟩ := trodAll_cons r3
  obtain ⟨rfl, rfl, rfl⟩ := trodAll_nil r4
  obtain rfl : args = #[v0, v1, v2, v3, v4] := by cases args; simp_all
  obtain ⟨rfl, rfl⟩ := trodVars_none hV
  obtain ⟨a0, len0, cap0, rfl⟩ := okWide_slice Try.underlying22 (hval 0 22 v0 rfl rfl)
  have k0 := h0
  have lt0 : ∀ x ∈ p0, x.block < W.heap.size := by obtain ⟨m, hm⟩ := k0; exact DataW.trod_lt m _ _ _ hm
  obtain ⟨z0, w0⟩ : ∃ zs, IsRow .i64 W a0 len0 cap0 zs := by
    obtain ⟨fuel, hf⟩ := h0
    rcases open_ints Try.underlying22 Try.underlying3 (by kernel_rfl) hf with ⟨hcs, _⟩ | ⟨x, l, c, zs, hcs, _, hl, hm, hz, _, hcell, hwz⟩
    · simp [Value.cells] at hcs
      obtain ⟨rfl, rfl, rfl⟩ := hcs
      exact ⟨[], .inl ⟨rfl, rfl, rfl, rfl⟩⟩
    · simp [Value.cells] at hcs
      obtain ⟨rfl, rfl, rfl⟩ := hcs
      exact ⟨zs, .inr ⟨_, rfl, hl, hm, by simpa using hz, hcell, hwz⟩⟩
  obtain ⟨a1, rfl, rfl, rfl, w1⟩ := open_int Try.underlying3 (hval 1 3 v1 rfl rfl) h1
  obtain ⟨a2, rfl, rfl, rfl, w2⟩ := open_int Try.underlying3 (hval 2 3 v2 rfl rfl) h2
  have k3 := h3
  have lt3 : ∀ x ∈ p3, x.block < W.heap.size := by obtain ⟨m, hm⟩ := k3; exact DataW.trod_lt m _ _ _ hm
  have k4 := h4
  have lt4 : ∀ x ∈ p4, x.block < W.heap.size := by obtain ⟨m, hm⟩ := k4; exact DataW.trod_lt m _ _ _ hm
  obtain ⟨x, rfl⟩ := open_worker (hval 3 25 v3 rfl rfl) h3
  obtain ⟨y0, y1, y2, y3, y4, y5, y6, y7, rfl, u0, u1, u2, u3, u4, u5, u6, u7⟩ := open_eight (hval 4 23 v4 rfl rfl) h4
  clear hA0 hval0
  refine (walk a0 len0 cap0 z0 a1 a2 x y0 y1 y2 y3 y4 y5 y6 y7 W w0 w1 w2 u0 u1 u2 u3 u4 u5 u6 u7).mono fun e W' ⟨he, bel⟩ => ?_
  subst he
  exact ⟨_, rfl, _, _, _, [], _, [], hW', trodAll_mk1 (shut_bool Try.underlying4 _), (trodAll_cons_mk (Below.trod laidOut (by kernel_rfl) (of_decide_eq_true (by kernel_rfl)) k0 bel lt0) (trodAll_cons_mk (shut_int Try.underlying3 w1) (trodAll_cons_mk (shut_int Try.underlying3 w2) (trodAll_cons_mk (Below.trod laidOut (by kernel_rfl) (of_decide_eq_true (by kernel_rfl)) k3 bel lt3) (trodAll_cons_mk (Below.trod laidOut (by kernel_rfl) (of_decide_eq_true (by kernel_rfl)) k4 bel lt4) trodAll_mk0))))), rfl, bel.frame _, fun h => by cases h⟩

theorem over : Rows.dequeTellsRow.holds Try.pinned (OpenSpec.ofChange Rows.dequeTellsSpec) :=
  OpenClaim.holds_of_wide 3 Try.f3 rfl rfl rfl rfl rfl rfl rfl ⟨rfl, rfl, rfl, rfl, rfl⟩ rfl rfl rfl rfl rfl (by kernel_rfl) Try.func3 (by kernel_rfl)
    (of_decide_eq_true (by kernel_rfl)) (by unfold Func.isWrapper; first | (rw [if_pos (by decide +kernel)]; kernel_rfl) | (rw [if_neg (by decide +kernel)]; exact ⟨rfl, rfl⟩))
    (fun os started H enc _ => lifted os started H enc)

/-- ████ THE STATEMENT ████ -/
theorem proved : Rows.DequeTellsSaid := over
#print axioms proved
end Go.Proofs.Ytdnajckhnknlcaa.dequeTells
