/- TallyBlind: what one may not read plays no part in the lines of a label that one reads. -/
import Derived.Test.YtceidmhniofapaaPAllx10
import Derived.Test.YtceidmhniofapaaPureTallyCounts
namespace Go.Proofs.Ytceidmhniofapaa.PAll
open Go.RowKit Go.Proofs.YtceidmhniofapaaW.PrintWords
theorem has_some (a b i : Int) (h : 0 ≤ i) : ∃ r, jalousieref02_Has.f a b i = some r := by
  unfold jalousieref02_Has.f
  rw [if_pos (show i ≥ 0 from h)]
  by_cases h2 : i ≤ 63
  · rw [if_pos h2, if_pos h]; exact ⟨_, rfl⟩
  · rw [if_neg h2]; exact ⟨_, rfl⟩
theorem below_l0 (x y : S25) (d : Nat) : ∀ i : Nat, i + d = 64 → ∃ r, Ev (fun k => jalousieref02_Below.l0 k i x.f0 x.f1 y.f0 y.f1) r := by
  induction d with
  | zero =>
    intro i hi
    exact ⟨true, Ev.step (fun k => by rw [jalousieref02_Below.l0]) (Ev.neg (by omega) (Ev.now _))⟩
  | succ d ih =>
    intro i hi
    obtain ⟨r, hr⟩ := ih (i + 1) (by omega)
    obtain ⟨p, hp⟩ := has_some x.f0 x.f1 i (by omega)
    obtain ⟨q, hq⟩ := has_some y.f0 y.f1 i (by omega)
    cases p
    · refine ⟨r, Ev.step (fun k => by rw [jalousieref02_Below.l0]) (Ev.pos (by omega) ?_)⟩
      rw [hp]
      refine Ev.sb (Ev.neg (by decide) ?_)
      rw [wrapS (by omega)]
      exact hr
    · cases q
      · refine ⟨false, Ev.step (fun k => by rw [jalousieref02_Below.l0]) (Ev.pos (by omega) ?_)⟩
        rw [hp]
        refine Ev.sb (Ev.pos rfl ?_)
        rw [hq]
        exact Ev.sb (Ev.neg (by decide) (Ev.now _))
      · refine ⟨r, Ev.step (fun k => by rw [jalousieref02_Below.l0]) (Ev.pos (by omega) ?_)⟩
        rw [hp]
        refine Ev.sb (Ev.pos rfl ?_)
        rw [hq]
        refine Ev.sb (Ev.pos rfl ?_)
        rw [wrapS (by omega)]
        exact hr
theorem below_ex (x y : S25) : ∃ r, Ev (fun k => jalousieref02_Below.f k x.f0 x.f1 y.f0 y.f1) r := by
  by_cases h : x.f0 > y.f0
  · exact ⟨false, Ev.congr (fun k => by rw [jalousieref02_Below.f]) (Ev.pos h (Ev.now _))⟩
  · obtain ⟨r, hr⟩ := below_l0 x y 64 0 (by omega)
    exact ⟨r, Ev.congr (fun k => by rw [jalousieref02_Below.f, if_neg h]; rfl) hr⟩
/-- May one who has label y read what has label x? -/
noncomputable def belowB (x y : S25) : Bool := Classical.choose (below_ex x y)
theorem below_ev (x y : S25) : Ev (fun k => jalousieref02_Below.f k x.f0 x.f1 y.f0 y.f1) (belowB x y) := Classical.choose_spec (below_ex x y)
theorem cut_l0 (l : List S38) (o : S25) (hl : l.length ≤ 1000) (d : Nat) : ∀ (i : Nat) (out : List S38), i + d = l.length → out.length ≤ i → Ev (fun k => jalousieref05_Cut.l0 k l out i o.f0 o.f1) (out ++ (l.drop i).filter (fun x => belowB x.f1 o)) := by
  induction d with
  | zero =>
    intro i out hi ho
    refine Ev.step (fun k => by rw [jalousieref05_Cut.l0]) (Ev.neg (by omega) ?_)
    rw [List.drop_eq_nil_of_le (by omega)]
    simpa using Ev.now out
  | succ d ih =>
    intro i out hi ho
    have hlt : i < l.length := by omega
    rw [List.drop_eq_getElem_cons hlt, List.filter_cons]
    refine Ev.step (fun k => by rw [jalousieref05_Cut.l0]) (Ev.pos (by omega) (Ev.pos (by omega) ?_))
    rw [rdI_at l i hlt, wrapS (by omega)]
    refine Ev.bind (below_ev l[i].f1 o) ?_
    by_cases hb : belowB l[i].f1 o = true
    · refine Ev.pos hb (Ev.pos (by omega) ?_)
      have := ih (i + 1) (out ++ [l[i]]) (by omega) (by simp; omega)
      rw [if_pos hb]
      simpa using this
    · refine Ev.neg hb ?_
      have := ih (i + 1) out (by omega) (by omega)
      rw [if_neg hb]
      exact this
theorem cut_ev (l : List S38) (o : S25) (hl : l.length ≤ 1000) : Ev (fun k => jalousieref05_Cut.f k l o.f0 o.f1) (l.filter (fun x => belowB x.f1 o)) := by
  have := cut_l0 l o hl l.length 0 [] (by omega) (by simp)
  refine Ev.congr (fun k => by rw [jalousieref05_Cut.f]) ?_
  simpa using this
theorem cnt_filter (l : List S38) (o a : S25) (h : belowB a o = true) : cnt (l.filter (fun x => belowB x.f1 o)) a = cnt l a := by
  unfold cnt
  rw [List.countP_filter]
  refine List.countP_congr (fun x _ => ?_)
  constructor
  · intro hx
    simp only [Bool.and_eq_true] at hx ⊢
    exact hx.1
  · intro hx
    simp only [Bool.and_eq_true, decide_eq_true_eq] at hx ⊢
    exact ⟨hx, by rw [hx.2]; exact h⟩
end Go.Proofs.Ytceidmhniofapaa.PAll
namespace Go.Proofs.Ytceidmhniofapaa.Pure
open Go.RowKit Go.Proofs.Ytceidmhniofapaa.PAll Go.Proofs.YtceidmhniofapaaW.PrintWords
theorem TallyBlind (l : List S38) (a o : S25) (hl : l.length ≤ 60) (hw : ∀ x ∈ l, wfItem x) (wa : wfL a) (_wo : wfL o) : ∃ k, jalousielaw19_TallyBlind.f k l a.f0 a.f1 o.f0 o.f1 = some true := by
  refine Ev.rounds (Ev.congr (fun k => by rw [jalousielaw19_TallyBlind.f]) ?_)
  refine Ev.bind (below_ev a o) ?_
  by_cases hb : belowB a o = true
  · refine Ev.pos hb (Ev.bind live_ev (Ev.pos rfl ?_))
    rw [Lines_f l a hl hw wa]
    refine Ev.sb (Ev.bind (cut_ev l o (by omega)) ?_)
    rw [Lines_f _ a (Nat.le_trans (List.length_filter_le _ _) hl) (fun x hx => hw x ((List.mem_filter.1 hx).1)) wa, cnt_filter l o a hb]
    exact Ev.sb (Ev.eq (Ev.now _) (by simp))
  · exact Ev.neg hb (Ev.bind live_ev (Ev.now _))
end Go.Proofs.Ytceidmhniofapaa.Pure
