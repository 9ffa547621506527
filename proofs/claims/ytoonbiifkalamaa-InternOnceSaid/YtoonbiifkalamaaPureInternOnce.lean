/- InternOnce: for every two rows of numbers, what is there once in both (of the first 60 each) is found at places that hold the same, and as well the other way round. No condition. -/
import Derived.Test.YtoonbiifkalamaaPureI
namespace Go.Proofs.Ytoonbiifkalamaa.PAll
open Go.RowKit Go.Proofs.YtoonbiifkalamaaW.PrintWords Go.Proofs.YtoonbiifkalamaaW.PrintLast Go.Proofs.YtoonbiifkalamaaW.PrintMore
theorem idxOf_unique : ∀ (l : List Int) (j : Nat) (h : j < l.length) (v : Int), l.count v = 1 → l[j] = v → l.idxOf v = j
  | [], _, h, _, _, _ => by simp at h
  | y :: r, 0, _, v, _, e => by simp only [List.getElem_cons_zero] at e; simp [List.idxOf_cons, e]
  | y :: r, j + 1, h, v, hc, e => by
    simp only [List.getElem_cons_succ] at e
    simp only [List.length_cons] at h
    have hm : v ∈ r := by rw [← e]; exact List.getElem_mem _
    have hp : 0 < r.count v := List.count_pos_iff.2 hm
    rw [List.count_cons] at hc
    by_cases hy : y = v
    · simp [hy] at hc; omega
    · have hyb : (y == v) = false := by simpa using hy
      simp only [List.idxOf_cons, hyb, cond_false]
      rw [idxOf_unique r j (by omega) v (by simpa [hy] using hc) e]
theorem at_idxOf : ∀ (l : List Int) (v : Int), v ∈ l → ∃ h : l.idxOf v < l.length, l[l.idxOf v] = v := fun l v h => ⟨List.idxOf_lt_length_of_mem h, List.getElem_idxOf (List.idxOf_lt_length_of_mem h)⟩
/-- What is there once in both: the first k places. -/
theorem mem_onceTo (a b : List Int) (k : Nat) (hk : k ≤ a.length) (s : S25) : s ∈ onceTo a b k ↔ ∃ (i j : Nat) (hi : i < a.length) (hj : j < b.length), i < k ∧ s = ⟨i, j⟩ ∧ a[i] = b[j] ∧ a.count a[i] = 1 ∧ b.count a[i] = 1 := by
  unfold onceTo
  rw [List.mem_flatMap]
  constructor
  · rintro ⟨i, hi, hs⟩
    have hik := List.mem_range.1 hi
    have hil : i < a.length := by omega
    rw [rd_at a i hil] at hs
    split at hs
    · rename_i hc
      obtain rfl := List.mem_singleton.1 hs
      have hm : a[i] ∈ b := List.count_pos_iff.1 (by omega)
      obtain ⟨h1, h2⟩ := at_idxOf b a[i] hm
      exact ⟨i, b.idxOf a[i], hil, h1, hik, by rw [idx_in _ _ hc.2], h2.symm, hc.1, hc.2⟩
    · cases hs
  · rintro ⟨i, j, hi, hj, hik, rfl, he, h1, h2⟩
    refine ⟨i, List.mem_range.2 hik, ?_⟩
    rw [rd_at a i hi, if_pos ⟨h1, h2⟩, idx_in _ _ h2, idxOf_unique b j hj a[i] h2 he.symm]
    simp
theorem rises_onceTo (a b : List Int) (k : Nat) : (onceTo a b k).Pairwise (fun s t => s.f0 < t.f0) ∧ ∀ s ∈ onceTo a b k, s.f0 < k := by
  induction k with
  | zero => simp [onceTo]
  | succ k ih =>
    by_cases hc : a.count (rd a k) = 1 ∧ b.count (rd a k) = 1
    · rw [onceTo_hit _ _ _ hc]
      refine ⟨List.pairwise_append.2 ⟨ih.1, by simp, fun s hs t ht => ?_⟩, fun s hs => ?_⟩
      · obtain rfl := List.mem_singleton.1 ht
        exact ih.2 s hs
      · rcases List.mem_append.1 hs with h | h
        · have := ih.2 s h; omega
        · obtain rfl := List.mem_singleton.1 h
          show ((k : Nat) : Int) < ((k + 1 : Nat) : Int)
          omega
    · rw [onceTo_miss _ _ _ hc]
      exact ⟨ih.1, fun s hs => by have := ih.2 s hs; omega⟩
theorem nodup_subP : ∀ (a b : List (Int × Int)), a.Nodup → (∀ x ∈ a, x ∈ b) → a.length ≤ b.length
  | [], _, _, _ => Nat.zero_le _
  | x :: a, b, hn, hs => by
    have hx := hs x List.mem_cons_self
    have h := nodup_subP a (b.erase x) (List.nodup_cons.1 hn).2 (fun y hy => (List.mem_erase_of_ne (fun (e : y = x) => (List.nodup_cons.1 hn).1 (by rw [← e]; exact hy))).2 (hs y (List.mem_cons_of_mem _ hy)))
    rw [List.length_erase_of_mem hx] at h
    have : 0 < b.length := List.length_pos_of_mem hx
    simp only [List.length_cons]
    omega
theorem once_le (a b : List Int) : (onceTo a b a.length).length ≤ (onceTo b a b.length).length := by
  have h := nodup_subP ((onceTo a b a.length).map fun s => (s.f1, s.f0)) ((onceTo b a b.length).map fun s => (s.f0, s.f1)) ?_ ?_
  · simpa using h
  · rw [List.nodup_iff_pairwise_ne, List.pairwise_map]
    exact (rises_onceTo a b a.length).1.imp (fun {s t} h e => by simp only [Prod.mk.injEq] at e; omega)
  · intro p hp
    obtain ⟨s, hs, rfl⟩ := List.mem_map.1 hp
    obtain ⟨i, j, hi, hj, _, rfl, he, h1, h2⟩ := (mem_onceTo a b a.length (Nat.le_refl _) s).1 hs
    refine List.mem_map.2 ⟨⟨j, i⟩, (mem_onceTo b a b.length (Nat.le_refl _) _).2 ⟨j, i, hj, hi, hj, rfl, he.symm, ?_, ?_⟩, rfl⟩
    · rw [← he]; exact h2
    · rw [← he]; exact h1
theorem once_live : Ev (fun k => jalousielaw06_live.f k) true := Ev.of (fun k => jalousielaw06_live.mono k) (k := 12) (by decide +kernel)

theorem once_l1 (A B : List Int) (x y : List S25) (hx : x.length ≤ 60) (hy : y.length ≤ 60) (i : Nat) (hi : i < x.length) (hn : Ev (fun k => jalousielaw06_InternOnce.l0 k A B x y ((i + 1 : Nat) : Int)) true) (d : Nat) :
    ∀ (j : Nat) (found : Bool), j + d = y.length → (found = true ∨ ∃ (q : Nat) (hq : q < y.length), j ≤ q ∧ y[q] = ⟨x[i].f1, x[i].f0⟩) → Ev (fun k => jalousielaw06_InternOnce.l1 k A B x y i found j) true := by
  induction d with
  | zero =>
    intro j found hj hf
    have : found = true := by
      rcases hf with h | ⟨q, hq, h1, _⟩
      · exact h
      · omega
    subst this
    refine Ev.step (fun k => by rw [jalousielaw06_InternOnce.l1]) (Ev.neg (by omega) (Ev.pos rfl ?_))
    rw [wrapS (by omega)]
    exact hn
  | succ d ih =>
    intro j found hj hf
    have hjl : j < y.length := by omega
    refine Ev.step (fun k => by rw [jalousielaw06_InternOnce.l1]) (Ev.pos (by omega) ?_)
    by_cases hfd : found = true
    · subst hfd
      refine Ev.pos rfl ?_
      rw [wrapS (by omega)]
      exact ih (j + 1) true (by omega) (.inl rfl)
    · refine Ev.neg hfd (Ev.pos (by omega) (Ev.pos (by omega) (Ev.pos (by omega) ?_)))
      rw [rdP_at y j hjl, rdP_at x i hi, wrapS (by omega)]
      obtain ⟨q, hq, h1, h2⟩ : ∃ (q : Nat) (hq : q < y.length), j ≤ q ∧ y[q] = ⟨x[i].f1, x[i].f0⟩ := by
        rcases hf with h | h
        · exact absurd h hfd
        · exact h
      have next : q ≠ j → ∃ (q : Nat) (hq : q < y.length), j + 1 ≤ q ∧ y[q] = ⟨x[i].f1, x[i].f0⟩ := fun h => ⟨q, hq, by omega, h2⟩
      by_cases e0 : y[j].f0 = x[i].f1
      · refine Ev.pos e0 ?_
        by_cases e1 : y[j].f1 = x[i].f0
        · rw [show (y[j].f1 == x[i].f0) = true by simpa using e1]
          exact ih (j + 1) true (by omega) (.inl rfl)
        · rw [show (y[j].f1 == x[i].f0) = false by simpa using e1]
          exact ih (j + 1) false (by omega) (.inr (next (fun h => by subst h; rw [h2] at e1; exact e1 rfl)))
      · refine Ev.neg e0 ?_
        exact ih (j + 1) false (by omega) (.inr (next (fun h => by subst h; rw [h2] at e0; exact e0 rfl)))
theorem once_l0 (A B : List Int) (hA : A.length ≤ 60) (hB : B.length ≤ 60) (d : Nat) : ∀ i : Nat, i + d = (onceTo A B A.length).length → Ev (fun k => jalousielaw06_InternOnce.l0 k A B (onceTo A B A.length) (onceTo B A B.length) i) true := by
  have l1 := onceTo_length A B A.length
  have l2 := onceTo_length B A B.length
  induction d with
  | zero =>
    intro i hi
    refine Ev.step (fun k => by rw [jalousielaw06_InternOnce.l0]) (Ev.neg (by omega) ?_)
    exact Ev.bind once_live (Ev.now _)
  | succ d ih =>
    intro i hi
    have hil : i < (onceTo A B A.length).length := by omega
    refine Ev.step (fun k => by rw [jalousielaw06_InternOnce.l0]) (Ev.pos (by omega) (Ev.pos (by omega) ?_))
    rw [rdP_at _ i hil]
    obtain ⟨p, q, hp, hq, _, hs, he, h1, h2⟩ := (mem_onceTo A B A.length (Nat.le_refl _) _).1 (List.getElem_mem hil)
    have hin : (⟨(q : Int), (p : Int)⟩ : S25) ∈ onceTo B A B.length := (mem_onceTo B A B.length (Nat.le_refl _) _).2 ⟨q, p, hq, hp, hq, rfl, he.symm, by rw [← he]; exact h2, by rw [← he]; exact h1⟩
    obtain ⟨z, hz, hze⟩ := List.mem_iff_getElem.1 hin
    have hinner := once_l1 A B (onceTo A B A.length) (onceTo B A B.length) (by omega) (by omega) i hil (ih (i + 1) (by omega)) _ 0 false (Nat.zero_add _) (.inr ⟨z, hz, Nat.zero_le _, by rw [hze, hs]⟩)
    rw [hs]
    dsimp only
    refine Ev.neg (by omega) (Ev.neg (by omega) (Ev.neg (by omega) (Ev.neg (by omega) (Ev.pos (by omega) (Ev.pos (by omega) (Ev.pos (by omega) (Ev.pos (by omega) ?_)))))))
    rw [rd_at A p hp, rd_at B q hq, he]
    rw [show (B[q] != B[q]) = false by simp]
    refine Ev.step (fun k => by rw [jalousielaw06_InternOnce.j1]) ?_
    exact Ev.neg (by simp) hinner
end Go.Proofs.Ytoonbiifkalamaa.PAll
namespace Go.Proofs.Ytoonbiifkalamaa.Pure
open Go.RowKit Go.Proofs.Ytoonbiifkalamaa.PAll Go.Proofs.YtoonbiifkalamaaW.PrintWords Go.Proofs.YtoonbiifkalamaaW.PrintLast
theorem cut60' (l : List Int) : 0 ≤ mn (l.length : Int) 60 ∧ mn (l.length : Int) 60 ≤ (l.length : Int) ∧ (l.take (mn (l.length : Int) 60).toNat).length ≤ 60 := by
  unfold mn
  refine ⟨by split <;> omega, by split <;> omega, ?_⟩
  rw [List.length_take]
  split <;> omega
theorem InternOnce : jalousielaw06_InternOnce.Pure := by
  intro l0 l1 _ _ w0 _ _ w1
  refine Ev.rounds ?_
  obtain ⟨a1, a2, a3⟩ := cut60' l0
  obtain ⟨b1, b2, b3⟩ := cut60' l1
  have wA : ∀ n ∈ l0.take (mn (l0.length : Int) 60).toNat, (Lit.int .i64 n).wf = true := fun n hn => w0 n (List.mem_of_mem_take hn)
  have wB : ∀ n ∈ l1.take (mn (l1.length : Int) 60).toNat, (Lit.int .i64 n).wf = true := fun n hn => w1 n (List.mem_of_mem_take hn)
  refine Ev.congr (fun k => by rw [jalousielaw06_InternOnce.f]) ?_
  refine Ev.pos a1 (Ev.pos a2 (Ev.pos b1 (Ev.pos b2 ?_)))
  generalize l0.take (mn (l0.length : Int) 60).toNat = A at a3 wA ⊢
  generalize l1.take (mn (l1.length : Int) 60).toNat = B at b3 wB ⊢
  have h1 : intern_Once.f A B = some (onceTo A B A.length) := by unfold intern_Once.f; rw [if_pos ⟨by omega, by omega, wA, wB⟩]
  have h2 : intern_Once.f B A = some (onceTo B A B.length) := by unfold intern_Once.f; rw [if_pos ⟨by omega, by omega, wB, wA⟩]
  rw [h1, h2]
  have e := Nat.le_antisymm (once_le A B) (once_le B A)
  refine Ev.sb (Ev.sb (Ev.pos (by omega) ?_))
  exact once_l0 A B a3 b3 _ 0 (Nat.zero_add _)
end Go.Proofs.Ytoonbiifkalamaa.Pure
