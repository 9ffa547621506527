/- InternCounts: for every two rows of numbers the counts of the first 60 of the first row are the reference's and add up, and what is there once in both is the reference's. No condition. -/
import Derived.Test.YtoonbiifkalamaaPureI
namespace Go.Proofs.Ytoonbiifkalamaa.PAll
open Go.RowKit Go.Proofs.YtoonbiifkalamaaW.PrintWords Go.Proofs.YtoonbiifkalamaaW.PrintLast Go.Proofs.YtoonbiifkalamaaW.PrintMore
theorem sum_one (x : Int) : ∀ K : List Int, K.Nodup → x ∈ K → (K.map fun n => if x = n then 1 else 0).sum = 1
  | [], _, h => by simp at h
  | y :: K, hn, h => by
    rw [List.nodup_cons] at hn
    simp only [List.map_cons, List.sum_cons]
    by_cases e : x = y
    · subst e
      rw [if_pos rfl]
      have : ∀ K : List Int, x ∉ K → (K.map fun n => if x = n then 1 else 0).sum = 0 := by
        intro K
        induction K with
        | nil => intro _; rfl
        | cons z K ih =>
          intro h
          simp only [List.mem_cons, not_or] at h
          simp only [List.map_cons, List.sum_cons, if_neg h.1, ih h.2]
      rw [this K hn.1]
    · rw [if_neg e, sum_one x K hn.2 (by simpa [e] using h)]
theorem sum_counts (K : List Int) (hn : K.Nodup) : ∀ A : List Int, (∀ x ∈ A, x ∈ K) → (K.map fun n => A.count n).sum = A.length := by
  intro A
  induction A with
  | nil =>
    intro _
    have : ∀ K : List Int, (K.map fun n => ([] : List Int).count n).sum = 0 := by
      intro K
      induction K with
      | nil => rfl
      | cons z K ih => simp only [List.map_cons, List.sum_cons, List.count_nil]; exact (Nat.zero_add _).trans ih
    exact this K
  | cons x A ih =>
    intro h
    have h1 := ih (fun y hy => h y (List.mem_cons_of_mem _ hy))
    have h2 := sum_one x K hn (h x List.mem_cons_self)
    have h3 : ∀ K : List Int, (K.map fun n => (x :: A).count n).sum = (K.map fun n => A.count n).sum + (K.map fun n => if x = n then 1 else 0).sum := by
      intro K
      induction K with
      | nil => rfl
      | cons z K ih =>
        have e : (x :: A).count z = A.count z + if x = z then 1 else 0 := by rw [List.count_cons]; simp only [beq_iff_eq]
        simp only [List.map_cons, List.sum_cons]
        rw [ih, e]
        omega
    rw [h3 K, h1, h2, List.length_cons]
theorem live_ev : Ev (fun k => jalousielaw06_live.f k) true := Ev.of (fun k => jalousielaw06_live.mono k) (k := 12) (by decide +kernel)
theorem sumTo_le (A : List Int) (K : List Int) : (K.map fun n => A.count n).sum ≤ K.length * A.length := by
  induction K with
  | nil => simp
  | cons z K ih =>
    have := List.count_le_length (a := z) (l := A)
    simp only [List.map_cons, List.sum_cons, List.length_cons, Nat.add_mul, Nat.one_mul]
    omega
theorem counts_l0 (A B : List Int) (hA : A.length ≤ 60) (hB : B.length ≤ 60) (wA : ∀ n ∈ A, (Lit.int .i64 n).wf = true) (wB : ∀ n ∈ B, (Lit.int .i64 n).wf = true) (d : Nat) :
    ∀ i n : Nat, i + d = (keysOf A).length → n + (((keysOf A).drop i).map fun z => A.count z).sum = A.length →
      Ev (fun k => jalousielaw06_InternCounts.l0 k A B (countsOf A) n i) true := by
  have hK := keysOf_length A
  have hlen : (countsOf A).length = (keysOf A).length := by rw [countsOf_eq, List.length_map]
  induction d with
  | zero =>
    intro i n hi hs
    rw [List.drop_eq_nil_of_le (by omega)] at hs
    simp only [List.map_nil, List.sum_nil, Nat.add_zero] at hs
    refine Ev.step (fun k => by rw [jalousielaw06_InternCounts.l0]) (Ev.neg (by omega) ?_)
    refine Ev.bind live_ev (Ev.pos rfl (Ev.pos (by omega) ?_))
    refine Ev.bind (refCounts_ev A (by omega)) (Ev.bind (same_ev _ (by omega)) (Ev.pos rfl ?_))
    have hO : intern_Once.f A B = some (onceTo A B A.length) := by unfold intern_Once.f; rw [if_pos ⟨by omega, by omega, wA, wB⟩]
    have hle := onceTo_length A B A.length
    rw [hO]
    refine Ev.sb (Ev.bind (refOnce_ev A B (by omega) (by omega)) (Ev.bind (same_ev _ (by omega)) (Ev.now _)))
  | succ d ih =>
    intro i n hi hs
    have hlt : i < (keysOf A).length := by omega
    rw [drop_at _ i hlt] at hs
    simp only [List.map_cons, List.sum_cons] at hs
    refine Ev.step (fun k => by rw [jalousielaw06_InternCounts.l0]) (Ev.pos (by omega) (Ev.pos (by omega) ?_))
    rw [rdP_at _ i (by omega), wrapS (by omega)]
    have e : (countsOf A)[i]'(by omega) = withCount A (keysOf A)[i] := by simp [countsOf_eq]
    rw [e]
    have hc := List.count_le_length (a := (keysOf A)[i]) (l := A)
    rw [show wrap64 ((n : Int) + (withCount A (keysOf A)[i]).f1) = ((n + A.count (keysOf A)[i] : Nat) : Int) by
      rw [wrapN (by simp only [withCount]; omega) (by simp only [withCount]; omega)]; simp only [withCount]; omega]
    exact ih (i + 1) _ (by omega) (by omega)
end Go.Proofs.Ytoonbiifkalamaa.PAll
namespace Go.Proofs.Ytoonbiifkalamaa.Pure
open Go.RowKit Go.Proofs.Ytoonbiifkalamaa.PAll Go.Proofs.YtoonbiifkalamaaW.PrintWords Go.Proofs.YtoonbiifkalamaaW.PrintLast
theorem cut60 (l : List Int) : 0 ≤ mn (l.length : Int) 60 ∧ mn (l.length : Int) 60 ≤ (l.length : Int) ∧ (l.take (mn (l.length : Int) 60).toNat).length ≤ 60 := by
  unfold mn
  refine ⟨by split <;> omega, by split <;> omega, ?_⟩
  rw [List.length_take]
  split <;> omega
theorem InternCounts : jalousielaw06_InternCounts.Pure := by
  intro l0 l1 _ _ w0 _ _ w1
  refine Ev.rounds ?_
  obtain ⟨a1, a2, a3⟩ := cut60 l0
  obtain ⟨b1, b2, b3⟩ := cut60 l1
  have wA : ∀ n ∈ l0.take (mn (l0.length : Int) 60).toNat, (Lit.int .i64 n).wf = true := fun n hn => w0 n (List.mem_of_mem_take hn)
  have wB : ∀ n ∈ l1.take (mn (l1.length : Int) 60).toNat, (Lit.int .i64 n).wf = true := fun n hn => w1 n (List.mem_of_mem_take hn)
  refine Ev.congr (fun k => by rw [jalousielaw06_InternCounts.f]) ?_
  refine Ev.pos a1 (Ev.pos a2 (Ev.pos b1 (Ev.pos b2 ?_)))
  generalize l0.take (mn (l0.length : Int) 60).toNat = A at a3 wA ⊢
  generalize l1.take (mn (l1.length : Int) 60).toNat = B at b3 wB ⊢
  have hC : intern_Counts.f A = some (countsOf A) := by unfold intern_Counts.f; rw [if_pos ⟨by omega, wA⟩]
  rw [hC]
  refine Ev.sb ?_
  exact counts_l0 A B a3 b3 wA wB _ 0 0 (Nat.zero_add _) (by
    rw [List.drop_zero, Nat.zero_add]
    exact sum_counts _ ((keysOf_rises A).imp (fun h => by omega)) A (fun x hx => (mem_keysOf A x).2 hx))
end Go.Proofs.Ytoonbiifkalamaa.Pure
