/- The reference of layer 6, as plain functions on rows. -/
import Derived.Test.YtoonbiifkalamaaPAllx5
namespace Go.Proofs.Ytoonbiifkalamaa.PAll
open Go.RowKit Go.Proofs.YtoonbiifkalamaaW.PrintWords Go.Proofs.YtoonbiifkalamaaW.PrintLast Go.Proofs.YtoonbiifkalamaaW.PrintMore

theorem Ev.pos {α : Type} {c : Prop} [Decidable c] {g g' : Nat → Option α} {r : α} (h : c) (e : Ev g r) : Ev (fun k => if c then g k else g' k) r := Ev.congr (fun _ => if_pos h) e
theorem Ev.neg {α : Type} {c : Prop} [Decidable c] {g g' : Nat → Option α} {r : α} (h : ¬ c) (e : Ev g' r) : Ev (fun k => if c then g k else g' k) r := Ev.congr (fun _ => if_neg h) e
theorem Ev.sb {α β : Type} {a : α} {f : Nat → α → Option β} {r : β} (e : Ev (fun k => f k a) r) : Ev (fun k => (some a).bind (f k)) r := Ev.congr (fun _ => rfl) e
theorem Ev.eq {α : Type} {g : Nat → Option α} {r r' : α} (e : Ev g r) (h : r = r') : Ev g r' := h ▸ e
theorem wrapS {i : Nat} (h : i ≤ 1000000000) : wrap64 ((i : Int) + 1) = ((i + 1 : Nat) : Int) := by unfold wrap64; omega
theorem wrapN {n : Int} (h0 : -1000000000000 ≤ n) (h : n ≤ 1000000000000) : wrap64 n = n := by unfold wrap64; omega
theorem rd_at (l : List Int) (i : Nat) (h : i < l.length) : rd l (i : Int) = l[i] := by
  simp only [rd, Int.toNat_natCast]
  rw [List.getD_eq_getElem?_getD, List.getElem?_eq_getElem h]; rfl
theorem rdP_at (l : List S25) (i : Nat) (h : i < l.length) : rd_T25 l (i : Int) = l[i] := by
  simp only [rd_T25, Int.toNat_natCast]
  rw [List.getD_eq_getElem?_getD, List.getElem?_eq_getElem h]; rfl
theorem drop_at {α : Type} (l : List α) (i : Nat) (h : i < l.length) : l.drop i = l[i] :: l.drop (i + 1) := List.drop_eq_getElem_cons h

theorem count_l0 (l : List Int) (n : Int) (hl : l.length ≤ 1000) (d : Nat) : ∀ (i out : Nat), i + d = l.length → out ≤ i → Ev (fun k => jalousieref06_count.l0 k l n out i) (((out + (l.drop i).count n : Nat)) : Int) := by
  induction d with
  | zero =>
    intro i out hi ho
    refine Ev.step (f := fun _ => some (out : Int)) (fun k => ?_) ?_
    · simp only [jalousieref06_count.l0]; rw [if_neg (by omega)]
    · rw [List.drop_eq_nil_of_le (by omega)]; exact Ev.now _
  | succ d ih =>
    intro i out hi ho
    have hlt : i < l.length := by omega
    rw [drop_at l i hlt, List.count_cons]
    by_cases e : l[i] = n
    · refine Ev.step (f := fun k => jalousieref06_count.l0 k l n ((out + 1 : Nat) : Int) ((i + 1 : Nat) : Int)) (fun k => ?_) ?_
      · simp only [jalousieref06_count.l0]
        rw [if_pos (by omega), if_pos (by omega), rd_at l i hlt, if_pos e, wrapS (by omega), wrapS (by omega)]
      · have := ih (i + 1) (out + 1) (by omega) (by omega)
        rw [show out + ((l.drop (i + 1)).count n + if (l[i] == n) = true then 1 else 0) = out + 1 + (l.drop (i + 1)).count n by simp [e]; omega]
        exact this
    · refine Ev.step (f := fun k => jalousieref06_count.l0 k l n (out : Int) ((i + 1 : Nat) : Int)) (fun k => ?_) ?_
      · simp only [jalousieref06_count.l0]
        rw [if_pos (by omega), if_pos (by omega), rd_at l i hlt, if_neg e, wrapS (by omega)]
      · have := ih (i + 1) out (by omega) (by omega)
        rw [show out + ((l.drop (i + 1)).count n + if (l[i] == n) = true then 1 else 0) = out + (l.drop (i + 1)).count n by simp [e]]
        exact this
theorem count_ev (l : List Int) (n : Int) (hl : l.length ≤ 1000) : Ev (fun k => jalousieref06_count.f k l n) ((l.count n : Nat) : Int) := by
  have := count_l0 l n hl l.length 0 0 (by omega) (by omega)
  simpa [jalousieref06_count.f] using this

theorem same_l0 (a b : List S25) (hl : a.length = b.length) (ha : a.length ≤ 100000) (d : Nat) : ∀ i : Nat, i + d = a.length → a.drop i = b.drop i → Ev (fun k => jalousieref06_Same.l0 k a b i) true := by
  induction d with
  | zero =>
    intro i hi he
    refine Ev.step (f := fun _ => some true) (fun k => ?_) (Ev.now _)
    simp only [jalousieref06_Same.l0]; rw [if_neg (by omega)]
  | succ d ih =>
    intro i hi he
    have h1 : i < a.length := by omega
    have h2 : i < b.length := by omega
    rw [drop_at a i h1, drop_at b i h2] at he
    injection he with he1 he2
    refine Ev.step (f := fun k => jalousieref06_Same.l0 k a b ((i + 1 : Nat) : Int)) (fun k => ?_) (ih (i + 1) (by omega) he2)
    simp only [jalousieref06_Same.l0]
    rw [if_pos (by omega), if_pos (by omega), if_pos (by omega), rdP_at a i h1, rdP_at b i h2, he1, if_neg (by simp), wrapS (by omega)]
theorem same_ev (a : List S25) (ha : a.length ≤ 100000) : Ev (fun k => jalousieref06_Same.f k a a) true := by
  have := same_l0 a a rfl ha a.length 0 (by omega) rfl
  simpa [jalousieref06_Same.f] using this

theorem ins_here (x : Int) : ∀ (K : List Int) (j : Nat), (∀ i, i < j → ∀ h : i < K.length, K[i] < x) → j ≤ K.length → (∀ h : j < K.length, x < K[j]) → ins x K = K.take j ++ x :: K.drop j
  | [], j, _, hj, _ => by
    obtain rfl : j = 0 := by simpa using hj
    rfl
  | y :: r, 0, _, _, hg => by
    have := hg (by simp)
    simp only [List.getElem_cons_zero] at this
    unfold ins
    rw [if_neg (by omega), if_neg (by omega)]
    rfl
  | y :: r, j + 1, hb, hj, hg => by
    have h0 := hb 0 (by omega) (by simp)
    simp only [List.getElem_cons_zero] at h0
    unfold ins
    rw [if_pos h0, ins_here x r j (fun i hi h => by have := hb (i + 1) (by omega) (by simp; omega); simpa using this) (by simpa using hj) (fun h => by have := hg (by simp; omega); simpa using this)]
    rfl
theorem ins_there (x : Int) : ∀ (K : List Int) (j : Nat), (∀ i, i < j → ∀ h : i < K.length, K[i] < x) → ∀ h : j < K.length, K[j] = x → ins x K = K
  | [], j, _, h, _ => by simp at h
  | y :: r, 0, _, _, e => by
    simp only [List.getElem_cons_zero] at e
    unfold ins
    rw [if_neg (by omega), if_pos e]
  | y :: r, j + 1, hb, h, e => by
    have h0 := hb 0 (by omega) (by simp)
    simp only [List.getElem_cons_zero] at h0
    unfold ins
    rw [if_pos h0, ins_there x r j (fun i hi h => by have := hb (i + 1) (by omega) (by simp; omega); simpa using this) (by simpa using h) (by simpa using e)]
theorem ins_length (x : Int) (K : List Int) : (ins x K).length ≤ K.length + 1 := by
  induction K with
  | nil => simp [ins]
  | cons y r ih =>
    unfold ins
    split
    · simp only [List.length_cons]; omega
    · split
      · omega
      · simp only [List.length_cons]; omega
theorem keysOf_length (l : List Int) : (keysOf l).length ≤ l.length := by
  have key : ∀ r : List Int, (keysOf r.reverse).length ≤ r.length := by
    intro r
    induction r with
    | nil => simp [keysOf]
    | cons x r ih => rw [List.reverse_cons, keysOf_snoc]; have := ins_length x (keysOf r.reverse); simp only [List.length_cons]; omega
  have h := key l.reverse
  rw [List.reverse_reverse] at h
  simpa using h

/-- A number and how often it is there. -/
def withCount (l : List Int) (n : Int) : S25 := ⟨n, l.count n⟩
theorem countsOf_eq (l : List Int) : countsOf l = (keysOf l).map (withCount l) := rfl
theorem refCounts_l1 (l : List Int) (hl : l.length ≤ 1000) (i : Nat) (hi : i < l.length) (K : List Int) (hK : K.length ≤ 1000) (R : List S25)
    (hnext : Ev (fun k => jalousieref06_Counts.l0 k l ((ins l[i] K).map (withCount l)) ((i + 1 : Nat) : Int)) R) (d : Nat) :
    ∀ j : Nat, j + d = K.length → (∀ q, q < j → ∀ h : q < K.length, K[q] < l[i]) → Ev (fun k => jalousieref06_Counts.l1 k l (K.map (withCount l)) i j) R := by
  have put : ∀ j : Nat, j ≤ K.length → (∀ q, q < j → ∀ h : q < K.length, K[q] < l[i]) → (∀ h : j < K.length, l[i] < K[j]) →
      (([] ++ (K.map (withCount l)).take j) ++ [(⟨l[i], (l.count l[i] : Nat)⟩ : S25)]) ++ (K.map (withCount l)).drop j = (ins l[i] K).map (withCount l) := by
    intro j hj hb hg
    rw [ins_here l[i] K j hb hj hg]
    simp [withCount, List.map_take, List.map_drop]
  have hc := count_ev l l[i] hl
  have hlen : (K.map (withCount l)).length = K.length := List.length_map _
  induction d with
  | zero =>
    intro j hj hb
    have hp := put j (by omega) hb (fun h => by omega)
    refine Ev.step (fun k => by rw [jalousieref06_Counts.l1]) ?_
    refine Ev.neg (by omega) (Ev.sb (Ev.pos (by omega) (Ev.pos (by omega) (Ev.sb (Ev.pos (by simp; omega) (Ev.sb (Ev.pos (by omega) (Ev.pos (by omega) ?_))))))))
    rw [rd_at l i hi]
    refine Ev.bind hc (Ev.pos (by simp; omega) (Ev.sb (Ev.sb (Ev.pos (by simp; omega) ?_))))
    rw [wrapS (by omega), Int.toNat_natCast, hp]
    exact hnext
  | succ d ih =>
    intro j hj hb
    have hjl : j < K.length := by omega
    have hrd : rd_T25 (K.map (withCount l)) (j : Int) = withCount l K[j] := by rw [rdP_at _ j (by omega)]; simp
    refine Ev.step (fun k => by rw [jalousieref06_Counts.l1]) ?_
    refine Ev.pos (by omega) (Ev.pos (by omega) (Ev.pos (by omega) (Ev.pos (by omega) ?_)))
    rw [rd_at l i hi, hrd]
    by_cases h1 : K[j] < l[i]
    · refine Ev.pos h1 ?_
      rw [wrapS (by omega)]
      exact ih (j + 1) (by omega) (fun q hq h => by
        by_cases e : q = j
        · subst e; exact h1
        · exact hb q (by omega) h)
    · refine Ev.neg h1 ?_
      by_cases h2 : K[j] = l[i]
      · refine Ev.pos h2 ?_
        rw [wrapS (by omega)]
        rwa [ins_there l[i] K j hb hjl h2] at hnext
      · have hp := put j (by omega) hb (fun h => by omega)
        refine Ev.neg h2 (Ev.sb (Ev.pos (by omega) (Ev.sb (Ev.pos (by simp; omega) (Ev.sb ?_)))))
        refine Ev.bind hc (Ev.pos (by simp; omega) (Ev.sb (Ev.sb (Ev.pos (by simp; omega) ?_))))
        rw [wrapS (by omega), Int.toNat_natCast, hp]
        exact hnext
theorem refCounts_l0 (l : List Int) (hl : l.length ≤ 1000) (d : Nat) : ∀ i : Nat, i + d = l.length → Ev (fun k => jalousieref06_Counts.l0 k l ((keysOf (l.take i)).map (withCount l)) i) (countsOf l) := by
  induction d with
  | zero =>
    intro i hi
    refine Ev.step (fun k => by rw [jalousieref06_Counts.l0]) (Ev.neg (by omega) ?_)
    rw [List.take_of_length_le (by omega)]
    exact Ev.now _
  | succ d ih =>
    intro i hi
    have hlt : i < l.length := by omega
    refine Ev.step (fun k => by rw [jalousieref06_Counts.l0]) (Ev.pos (by omega) ?_)
    have hK : (keysOf (l.take i)).length ≤ 1000 := Nat.le_trans (keysOf_length _) (by rw [List.length_take]; omega)
    refine refCounts_l1 l hl i hlt (keysOf (l.take i)) hK _ ?_ _ 0 (Nat.zero_add _) (fun q hq => by omega)
    have := ih (i + 1) (by omega)
    rwa [List.take_succ_eq_append_getElem hlt, keysOf_snoc] at this
theorem refCounts_ev (l : List Int) (hl : l.length ≤ 1000) : Ev (fun k => jalousieref06_Counts.f k l) (countsOf l) := by
  have := refCounts_l0 l hl l.length 0 (by omega)
  simpa [jalousieref06_Counts.f, keysOf] using this

/-- The places of a number from a place on. -/
def posFrom (v : Int) : List Int → Nat → List Nat
  | [], _ => []
  | y :: r, n => if y = v then n :: posFrom v r (n + 1) else posFrom v r (n + 1)
theorem posFrom_none (v : Int) : ∀ (l : List Int) (n : Nat), l.count v = 0 → posFrom v l n = []
  | [], _, _ => rfl
  | y :: r, n, h => by
    rw [List.count_cons] at h
    unfold posFrom
    by_cases e : y = v
    · simp [e] at h
    · rw [if_neg e]; exact posFrom_none v r _ (by omega)
theorem posFrom_one (v : Int) : ∀ (l : List Int) (n : Nat), l.count v = 1 → posFrom v l n = [n + l.idxOf v]
  | [], _, h => by simp at h
  | y :: r, n, h => by
    rw [List.count_cons] at h
    unfold posFrom
    by_cases e : y = v
    · rw [if_pos e, posFrom_none v r _ (by simp [e] at h; simpa using h)]
      simp [e]
    · rw [if_neg e, posFrom_one v r _ (by simpa [e] using h)]
      have : (y == v) = false := by simpa using e
      simp only [List.idxOf_cons, this, cond_false]
      congr 1; omega
theorem refOnce_l1 (a b : List Int) (ha : a.length ≤ 1000) (hb : b.length ≤ 1000) (i : Nat) (hi : i < a.length) (R : List S25) (d : Nat) :
    ∀ (j : Nat) (out : List S25), j + d = b.length → out.length + d ≤ 10000000 →
      Ev (fun k => jalousieref06_Once.l0 k a b (out ++ (if a.count a[i] = 1 ∧ b.count a[i] = 1 then (posFrom a[i] (b.drop j) j).map (fun (q : Nat) => (⟨i, q⟩ : S25)) else [])) ((i + 1 : Nat) : Int)) R →
      Ev (fun k => jalousieref06_Once.l1 k a b out i j) R := by
  have hca := count_ev a a[i] ha
  have hcb := count_ev b a[i] hb
  induction d with
  | zero =>
    intro j out hj ho hn
    refine Ev.step (fun k => by rw [jalousieref06_Once.l1]) (Ev.neg (by omega) ?_)
    rw [wrapS (by omega)]
    rw [List.drop_eq_nil_of_le (by omega)] at hn
    simpa [posFrom] using hn
  | succ d ih =>
    intro j out hj ho hn
    have hjl : j < b.length := by omega
    refine Ev.step (fun k => by rw [jalousieref06_Once.l1]) (Ev.pos (by omega) (Ev.pos (by omega) (Ev.pos (by omega) (Ev.pos (by omega) ?_))))
    rw [rd_at a i hi, rd_at b j hjl]
    rw [drop_at b j hjl] at hn
    unfold posFrom at hn
    by_cases e : a[i] = b[j]
    · refine Ev.pos e (Ev.bind hca ?_)
      rw [if_pos e.symm] at hn
      by_cases h1 : a.count a[i] = 1
      · refine Ev.pos (by omega) (Ev.bind hcb ?_)
        by_cases h2 : b.count a[i] = 1
        · refine Ev.pos (by omega) (Ev.pos (by omega) ?_)
          rw [wrapS (by omega)]
          refine ih (j + 1) _ (by omega) (by simp; omega) ?_
          rw [if_pos ⟨h1, h2⟩] at hn ⊢
          simpa using hn
        · refine Ev.neg (by omega) ?_
          rw [wrapS (by omega)]
          refine ih (j + 1) _ (by omega) (by omega) ?_
          rw [if_neg (by omega)] at hn ⊢
          exact hn
      · refine Ev.neg (by omega) ?_
        rw [wrapS (by omega)]
        refine ih (j + 1) _ (by omega) (by omega) ?_
        rw [if_neg (by omega)] at hn ⊢
        exact hn
    · rw [if_neg (show ¬ b[j] = a[i] from fun h => e h.symm)] at hn
      refine Ev.neg e ?_
      rw [wrapS (by omega)]
      exact ih (j + 1) _ (by omega) (by omega) hn
theorem idx_in (l : List Int) (n : Int) (h : l.count n = 1) : idx l n = (l.idxOf n : Nat) := by
  have hm : n ∈ l := List.count_pos_iff.1 (by omega)
  simp [idx, idxFrom, hm]
theorem refOnce_l0 (a b : List Int) (ha : a.length ≤ 1000) (hb : b.length ≤ 1000) (d : Nat) : ∀ i : Nat, i + d = a.length → Ev (fun k => jalousieref06_Once.l0 k a b (onceTo a b i) i) (onceTo a b a.length) := by
  induction d with
  | zero =>
    intro i hi
    refine Ev.step (fun k => by rw [jalousieref06_Once.l0]) (Ev.neg (by omega) ?_)
    rw [show i = a.length by omega]
    exact Ev.now _
  | succ d ih =>
    intro i hi
    have hlt : i < a.length := by omega
    have hlen := onceTo_length a b i
    refine Ev.step (fun k => by rw [jalousieref06_Once.l0]) (Ev.pos (by omega) ?_)
    refine refOnce_l1 a b ha hb i hlt _ b.length 0 _ (by omega) (by omega) ?_
    have h := ih (i + 1) (by omega)
    have hr := rd_at a i hlt
    by_cases hc : a.count a[i] = 1 ∧ b.count a[i] = 1
    · rw [if_pos hc, List.drop_zero, posFrom_one _ _ _ hc.2]
      rw [onceTo_hit a b i (by rw [hr]; exact hc), hr, idx_in _ _ hc.2] at h
      simpa using h
    · rw [if_neg hc, List.append_nil]
      rwa [onceTo_miss a b i (by rw [hr]; exact hc)] at h
theorem refOnce_ev (a b : List Int) (ha : a.length ≤ 1000) (hb : b.length ≤ 1000) : Ev (fun k => jalousieref06_Once.f k a b) (onceTo a b a.length) := by
  have := refOnce_l0 a b ha hb a.length 0 (by omega)
  simpa [jalousieref06_Once.f, onceTo] using this
end Go.Proofs.Ytoonbiifkalamaa.PAll
