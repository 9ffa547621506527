/- How the rows' arguments are read: a slice of items, a label. -/
import Derived.Test.YtceidmhniofapaaTKeys
import Derived.Deep.Slices
import Derived.ChangeArms
import Derived.ChangeSame
import Derived.DataElems
namespace Go.Proofs.Ytceidmhniofapaa.PAll
open Go.RowKit Go.Deep Go.ChangeShapes Go.WideShapes Go.Proofs.YtceidmhniofapaaW.PrintWords Go.Proofs.YtceidmhniofapaaW.PrintLast Go.Proofs.YtceidmhniofapaaW.PrintMore
/-- An item whose numbers and text are of their kinds. -/
def wfItem (x : S38) : Prop := (Lit.int .i64 x.f0).wf = true ∧ wfL x.f1 ∧ x.f3.f0.size ≤ maxLen
section
variable {H : Type} {enc : TypeId × Value → H} {W : World} {base : Nat} {sp : Nat → Bool} {held : Bool}
theorem cellsI : Try.prog.cellsOf 3 = 1 := by kernel_rfl
theorem cellsU : Try.prog.cellsOf 23 = 1 := by kernel_rfl
theorem cellsB : Try.prog.cellsOf 4 = 1 := by kernel_rfl
theorem cellsS : Try.prog.cellsOf 9 = 1 := by kernel_rfl
theorem cellsLn : Try.prog.cellsOf 36 = 2 := by kernel_rfl
theorem cellsIt : Try.prog.cellsOf 38 = 6 := by kernel_rfl
theorem open_label {n : Nat} {cs : List Value} {x : DataW H × List MemPlace} (h : DataW.trod enc Try.prog W base sp held n 25 cs = some x) : ∃ y : S25, cs = [.int .i64 y.f0, .int .u64 y.f1] ∧ wfL y := by
  obtain ⟨y0, y1, m, _, hl, h0, h1⟩ := trod_struct2 Try.underlying25 h
  rw [cellsL] at hl
  match cs, hl with
  | [a, b], _ =>
    simp only [List.drop_zero, List.drop_succ_cons, cellsI, cellsU, List.take_succ_cons, List.take_zero] at h0 h1
    obtain ⟨p, e0, _, w0⟩ := DataW.trod_int Try.underlying3 h0
    obtain ⟨q, e1, _, w1⟩ := DataW.trod_int Try.underlying23 h1
    simp only [List.cons.injEq, and_true] at e0 e1
    subst e0; subst e1
    exact ⟨⟨p, q⟩, rfl, w0, w1⟩
theorem open_line {n : Nat} {cs : List Value} {x : DataW H × List MemPlace} (h : DataW.trod enc Try.prog W base sp held n 36 cs = some x) : ∃ y : S36, cs = [.string y.f0, .bool y.f1] ∧ y.f0.size ≤ maxLen := by
  obtain ⟨y0, y1, m, _, hl, h0, h1⟩ := trod_struct2 Try.underlying36 h
  rw [cellsLn] at hl
  match cs, hl with
  | [a, b], _ =>
    simp only [List.drop_zero, List.drop_succ_cons, cellsS, cellsB, List.take_succ_cons, List.take_zero] at h0 h1
    obtain ⟨p, e0, _, w0⟩ := DataW.trod_string Try.underlying9 h0
    obtain ⟨q, e1, _⟩ := DataW.trod_bool Try.underlying4 h1
    simp only [List.cons.injEq, and_true] at e0 e1
    subst e0; subst e1
    exact ⟨⟨p, q⟩, rfl, w0⟩
theorem open_item {n : Nat} {cs : List Value} {x : DataW H × List MemPlace} (h : DataW.trod enc Try.prog W base sp held n 38 cs = some x) :
    ∃ y : S38, cs = [.int .i64 y.f0, .int .i64 y.f1.f0, .int .u64 y.f1.f1, .bool y.f2, .string y.f3.f0, .bool y.f3.f1] ∧ wfItem y := by
  obtain ⟨xs, m, _, _, hl, hlen, hf⟩ := DataW.trod_struct Try.underlying38 h
  rw [cellsIt] at hl
  have hx : ∀ i, i < 4 → ∃ z, xs[i]? = some z := fun i hi => ⟨xs[i]'(by rw [hlen]; exact hi), List.getElem?_eq_getElem _⟩
  obtain ⟨z0, e0⟩ := hx 0 (by omega)
  obtain ⟨z1, e1⟩ := hx 1 (by omega)
  obtain ⟨z2, e2⟩ := hx 2 (by omega)
  obtain ⟨z3, e3⟩ := hx 3 (by omega)
  match cs, hl with
  | [c0, c1, c2, c3, c4, c5], _ =>
    have h0 := hf 0
    have h1 := hf 1
    have h2 := hf 2
    have h3 := hf 3
    rw [e0] at h0
    rw [e1] at h1
    rw [e2] at h2
    rw [e3] at h3
    simp [cellsI, cellsL, cellsLn, cellsB] at h0 h1 h2 h3
    obtain ⟨p, q0, _, w0⟩ := DataW.trod_int Try.underlying3 h0
    obtain ⟨lb, q1, w1⟩ := open_label h1
    obtain ⟨an, q2, _⟩ := DataW.trod_bool Try.underlying4 h2
    obtain ⟨ln, q3, w3⟩ := open_line h3
    simp only [List.cons.injEq, and_true] at q0 q1 q2 q3
    obtain ⟨rfl, rfl⟩ := q1
    obtain ⟨rfl, rfl⟩ := q3
    subst q0; subst q2
    exact ⟨⟨p, lb, an, ln⟩, rfl, w0, w1, w3⟩
/-- A slice of items that came in. -/
theorem open_items {d : DataW H} {ps : List MemPlace} {a : Option Addr} {len cap : Nat} (h : DataW.Trod enc Try.prog W base sp held 22 (.slice a len cap) d ps) :
    ∃ l : List S38, l.length = len ∧ Kd.C k38 W a l.length l ∧ l.length ≤ cap ∧ ∀ x ∈ l, wfItem x := by
  obtain ⟨fuel, hf⟩ := h
  rcases open_slice Try.underlying22 hf with ⟨hcs, _⟩ | ⟨x, l, c, m, n, D, Pl, hcs, _, hl, hm, hmm, _, hel⟩
  · simp [Value.cells] at hcs
    obtain ⟨rfl, rfl, rfl⟩ := hcs
    exact ⟨[], rfl, Kd.C_nil _ _, Nat.le_refl _, fun x h => (List.not_mem_nil h).elim⟩
  · simp [Value.cells] at hcs
    obtain ⟨rfl, rfl, rfl⟩ := hcs
    have hlm : len ≤ m := by rw [hmm]; split <;> omega
    have hex : ∀ i, ∃ y : S38, i < len → (W.cells? base (x.add (i * 6)) 6 = some [.int .i64 y.f0, .int .i64 y.f1.f0, .int .u64 y.f1.f1, .bool y.f2, .string y.f3.f0, .bool y.f3.f1] ∧ wfItem y) := by
      intro i
      by_cases hi : i < len
      · obtain ⟨cs', hc, ht⟩ := hel i (by omega)
        rw [cellsIt] at hc
        obtain ⟨y, rfl, hw⟩ := open_item ht
        exact ⟨y, fun _ => ⟨hc, hw⟩⟩
      · exact ⟨z38, fun h => absurd h hi⟩
    obtain ⟨f, hfx⟩ := Classical.axiomOfChoice hex
    refine ⟨(List.range len).map f, by simp, ⟨by simp, by simp; unfold maxLen at hm; omega, fun _ => ⟨x, rfl, fun j p hj => ?_⟩⟩, by simpa using hl, fun y hy => ?_⟩
    · rw [List.getElem?_map] at hj
      obtain ⟨i, hi, rfl⟩ := Option.map_eq_some_iff.1 hj
      have hi2 := List.getElem?_eq_some_iff.1 hi
      obtain ⟨hlt, he⟩ := hi2
      simp at hlt he
      subst he
      obtain ⟨hc, _⟩ := hfx j hlt
      refine ⟨_, rfl, k38_mk _ _, fun i u hu => ?_⟩
      obtain ⟨_, hl2, hcell⟩ := World.cells?_some hc
      have hlen : i < 6 := by
        have := (List.getElem?_eq_some_iff.1 hu).1
        simpa using this
      have := hcell i hlen
      rw [hu] at this
      rw [← this]
      congr 1
      exact (Go.Addr.add_add x (j * 6) i).symm
    · obtain ⟨i, hi, rfl⟩ := List.mem_map.1 hy
      exact (hfx i (List.mem_range.1 hi)).2
/-- A label that came in. -/
theorem open_labelV {d : DataW H} {ps : List MemPlace} {xs : Array Value} (h : DataW.Trod enc Try.prog W base sp held 25 (.agg xs) d ps) : ∃ y : S25, xs = #[.int .i64 y.f0, .int .u64 y.f1] ∧ wfL y := by
  obtain ⟨fuel, hf⟩ := h
  obtain ⟨y, hy, hw⟩ := open_label hf
  refine ⟨y, ?_, hw⟩
  have : xs.toList = [.int .i64 y.f0, .int .u64 y.f1] := by simpa [Value.cells] using hy
  cases xs
  simp at this
  rw [this]
theorem few_C {w : World} {a : Option Addr} {l : List S38} (h : Kd.C k38 w a l.length l) : Kd.C k38 w a (l.take 60).length (l.take 60) := by
  by_cases hl : 60 ≤ l.length
  · exact Kd.C_take h hl
  · rw [List.take_of_length_le (by omega)]
    exact h
end
end Go.Proofs.Ytceidmhniofapaa.PAll
