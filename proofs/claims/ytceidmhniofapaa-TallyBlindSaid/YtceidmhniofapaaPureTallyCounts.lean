/- TallyCounts: the counts of labels are those that the document says, and so is the order of two labels. -/
import Derived.Test.YtceidmhniofapaaPAllx8
import Derived.Test.YtceidmhniofapaaPureT
namespace Go.Proofs.Ytceidmhniofapaa.PAll
open Go.RowKit Go.Proofs.YtceidmhniofapaaW.PrintWords
theorem live_ev : Ev (fun k => jalousielaw19_live.f k) true := Ev.of (fun k => jalousielaw19_live.mono k) (k := 12) (by decide +kernel)
theorem Counts_f (l : List S38) (hl : l.length ≤ 60) (hw : ∀ x ∈ l, wfItem x) : tally_Counts.f l = some (countsOf l) := by
  unfold tally_Counts.f
  rw [if_pos ⟨by omega, fun x hx => (hw x hx).2.1⟩]
theorem Lines_f (l : List S38) (a : S25) (hl : l.length ≤ 60) (hw : ∀ x ∈ l, wfItem x) (wa : wfL a) : tally_Lines.f l a.f0 a.f1 = some ((cnt l a : Nat) : Int) := by
  unfold tally_Lines.f
  rw [if_pos ⟨by omega, fun x hx => (hw x hx).2.1, wa⟩]
theorem counts_l0 (l : List S38) (c : List S30) (hc : c.length ≤ 1000) (a b : S25) (hl : l.length ≤ 60) (hw : ∀ x ∈ l, wfItem x) (wa : wfL a) (d : Nat) :
    ∀ i : Nat, i + d = c.length → Ev (fun k => jalousielaw19_TallyCounts.l0 k l c c i a.f0 a.f1 b.f0 b.f1) true := by
  induction d with
  | zero =>
    intro i hi
    refine Ev.step (fun k => by rw [jalousielaw19_TallyCounts.l0]) (Ev.neg (by omega) ?_)
    refine Ev.bind live_ev (Ev.pos rfl ?_)
    rw [Lines_f l a hl hw wa]
    refine Ev.sb (Ev.bind (refLines_ev l a.f0 a.f1 (by omega)) (Ev.pos rfl ?_))
    refine Ev.sb (Ev.bind (refOrder_ev a b) ?_)
    exact Ev.eq (Ev.now _) (by simp [cmpO])
  | succ d ih =>
    intro i hi
    refine Ev.step (fun k => by rw [jalousielaw19_TallyCounts.l0]) (Ev.pos (by omega) (Ev.pos (by omega) (Ev.pos (by omega) (Ev.neg (by simp) ?_))))
    rw [wrapS (by omega)]
    exact ih (i + 1) (by omega)
end Go.Proofs.Ytceidmhniofapaa.PAll
namespace Go.Proofs.Ytceidmhniofapaa.Pure
open Go.RowKit Go.Proofs.Ytceidmhniofapaa.PAll Go.Proofs.YtceidmhniofapaaW.PrintWords
theorem TallyCounts (l : List S38) (a b : S25) (hl : l.length ≤ 60) (hw : ∀ x ∈ l, wfItem x) (wa : wfL a) (_wb : wfL b) : ∃ k, jalousielaw19_TallyCounts.f k l a.f0 a.f1 b.f0 b.f1 = some true := by
  refine Ev.rounds (Ev.congr (fun k => by rw [jalousielaw19_TallyCounts.f]) ?_)
  rw [Counts_f l hl hw]
  refine Ev.sb (Ev.bind (refCounts_ev l (by omega)) (Ev.pos rfl ?_))
  have hc : (countsOf l).length ≤ 1000 := by
    unfold countsOf
    rw [List.length_map]
    have := labelsOf_length l
    omega
  exact counts_l0 l _ hc a b hl hw wa _ 0 (Nat.zero_add _)
end Go.Proofs.Ytceidmhniofapaa.Pure
