/- TallySums: the counts add up to how many lines there are; Order is a total order. -/
import Derived.Test.YtceidmhniofapaaPAllSums
import Derived.Test.YtceidmhniofapaaTRow
import Derived.Test.YtceidmhniofapaaMTCounts
import Derived.Test.YtceidmhniofapaaTSorted
namespace Go.Proofs.Ytceidmhniofapaa.PAll
open Go.RowKit Go.Proofs.YtceidmhniofapaaW.PrintWords Go.Proofs.YtceidmhniofapaaW.PrintLast Go.Proofs.YtceidmhniofapaaW.PrintMore
theorem Ev.pos {α : Type} {c : Prop} [Decidable c] {g g' : Nat → Option α} {r : α} (h : c) (e : Ev g r) : Ev (fun k => if c then g k else g' k) r := Ev.congr (fun _ => if_pos h) e
theorem Ev.neg {α : Type} {c : Prop} [Decidable c] {g g' : Nat → Option α} {r : α} (h : ¬ c) (e : Ev g' r) : Ev (fun k => if c then g k else g' k) r := Ev.congr (fun _ => if_neg h) e
theorem Ev.sb {α β : Type} {a : α} {f : Nat → α → Option β} {r : β} (e : Ev (fun k => f k a) r) : Ev (fun k => (some a).bind (f k)) r := Ev.congr (fun _ => rfl) e
theorem Ev.eq {α : Type} {g : Nat → Option α} {r r' : α} (e : Ev g r) (h : r = r') : Ev g r' := h ▸ e
theorem wrapS {i : Nat} (h : i ≤ 1000000000) : wrap64 ((i : Int) + 1) = ((i + 1 : Nat) : Int) := by unfold wrap64; omega
theorem rdI_at (l : List S38) (i : Nat) (h : i < l.length) : rd_T38 l (i : Int) = l[i] := by
  simp only [rd_T38, Int.toNat_natCast]
  rw [List.getD_eq_getElem?_getD, List.getElem?_eq_getElem h]; rfl
theorem rdC_at (l : List S30) (i : Nat) (h : i < l.length) : rd_T30 l (i : Int) = l[i] := by
  simp only [rd_T30, Int.toNat_natCast]
  rw [List.getD_eq_getElem?_getD, List.getElem?_eq_getElem h]; rfl
theorem cnt_cons (x : S38) (l : List S38) (y : S25) : cnt (x :: l) y = cnt l y + (if x.f2 = false ∧ x.f1 = y then 1 else 0) := by
  unfold cnt
  rw [List.countP_cons]
  cases h : x.f2 <;> simp [h]
/-- Labels with their counts. -/
def withN (l : List S38) (ys : List S25) : List S30 := ys.map fun y => ⟨y, (cnt l y : Nat)⟩
theorem withN_length (l : List S38) (ys : List S25) : (withN l ys).length = ys.length := List.length_map ..
theorem withN_at (l : List S38) (ys : List S25) (i : Nat) (h : i < ys.length) : rd_T30 (withN l ys) (i : Int) = ⟨ys[i], (cnt l ys[i] : Nat)⟩ := by
  rw [rdC_at _ _ (by rw [withN_length]; exact h)]
  simp [withN]
theorem insL_length (x : S25) (ys : List S25) : (insL x ys).length ≤ ys.length + 1 := by
  induction ys with
  | nil => simp [insL]
  | cons y r ih =>
    unfold insL
    split
    · simp only [List.length_cons]; omega
    · split <;> simp
theorem labelsOf_length (l : List S38) : (labelsOf l).length ≤ l.length := by
  have key : ∀ r : List S38, (labelsOf r.reverse).length ≤ r.length := by
    intro r
    induction r with
    | nil => simp [labelsOf]
    | cons x r ih =>
      rw [List.reverse_cons, labelsOf_snoc]
      split
      · simp only [List.length_cons]; omega
      · have := insL_length x.f1 (labelsOf r.reverse)
        simp only [List.length_cons]; omega
  have h := key l.reverse
  rw [List.reverse_reverse] at h
  simpa using h
theorem live_ev : Ev (fun k => jalousielaw19_live.f k) true := Ev.of (fun k => jalousielaw19_live.mono k) (k := 12) (by decide +kernel)
theorem Counts_f (l : List S38) (hl : l.length ≤ 60) (hw : ∀ x ∈ l, wfItem x) : tally_Counts.f l = some (countsOf l) := by
  unfold tally_Counts.f
  rw [if_pos ⟨by omega, fun x hx => (hw x hx).2.1⟩]
theorem cmpO_range (x y : S25) : cmpO x y = -1 ∨ cmpO x y = 0 ∨ cmpO x y = 1 := by
  unfold cmpO orI cmpI
  repeat' split
  all_goals omega
theorem cmpO_anti (x y : S25) : cmpO x y = wrap64 (-(cmpO y x)) := by
  have h1 := cmpO_range x y
  have h2 := cmpO_range y x
  have e : cmpO x y = -(cmpO y x) := by
    unfold cmpO orI cmpI
    repeat' split
    all_goals omega
  unfold wrap64
  omega
theorem cmpO_zero (x y : S25) : (cmpO x y == 0) = (x.f0 == y.f0 && (x.f1 == y.f1)) := by
  unfold cmpO orI cmpI
  by_cases h0 : x.f0 = y.f0
  · by_cases h1 : x.f1 = y.f1
    · simp [h0, h1]
    · rcases Int.lt_or_gt_of_ne h1 with h | h
      · simp [h0, h1, h]
      · have h' : ¬ x.f1 < y.f1 := by omega
        simp [h0, h1, h', h]
  · rcases Int.lt_or_gt_of_ne h0 with h | h
    · simp [h0, h]
    · have h' : ¬ x.f0 < y.f0 := by omega
      simp [h0, h', h]
theorem sum_zero (ys : List S25) : (ys.map fun _ => (0 : Nat)).sum = 0 := by
  induction ys with
  | nil => rfl
  | cons y r ih => simpa using ih
theorem sum_ind (v : S25) : ∀ ys : List S25, ys.Nodup → v ∈ ys → (ys.map fun y => if v = y then 1 else 0).sum = 1
  | [], _, h => (List.not_mem_nil h).elim
  | y :: r, hn, h => by
    rw [List.nodup_cons] at hn
    by_cases e : v = y
    · subst e
      have : (r.map fun y => if v = y then 1 else 0) = r.map fun _ => 0 := List.map_congr_left (fun z hz => if_neg (fun (e : v = z) => hn.1 (e ▸ hz)))
      simp [this, sum_zero]
    · rcases List.mem_cons.1 h with h | h
      · exact absurd h e
      · have := sum_ind v r hn.2 h
        simp [e, this]
theorem sum_add (f g : S25 → Nat) : ∀ ys : List S25, (ys.map fun y => f y + g y).sum = (ys.map f).sum + (ys.map g).sum
  | [] => rfl
  | y :: r => by
    simp only [List.map_cons, List.sum_cons, sum_add f g r]
    omega
theorem sum_cnt (ys : List S25) (hn : ys.Nodup) : ∀ l : List S38, (∀ x ∈ l, x.f2 = false → x.f1 ∈ ys) → (ys.map (cnt l)).sum = l.countP (fun x => !x.f2)
  | [], _ => by
    have : ys.map (cnt []) = ys.map fun _ => 0 := List.map_congr_left (fun _ _ => rfl)
    rw [this, sum_zero]
    rfl
  | x :: l, h => by
    have ih := sum_cnt ys hn l (fun z hz => h z (List.mem_cons_of_mem _ hz))
    have e : ys.map (cnt (x :: l)) = ys.map fun y => cnt l y + (if x.f2 = false ∧ x.f1 = y then 1 else 0) := List.map_congr_left (fun y _ => cnt_cons x l y)
    rw [e, sum_add, show (ys.map fun y => cnt l y) = ys.map (cnt l) from rfl, ih, List.countP_cons]
    cases hx : x.f2
    · have := sum_ind x.f1 ys hn (h x List.mem_cons_self hx)
      simpa using this
    · simpa using sum_zero ys
theorem labelsOf_nodup (l : List S38) : (labelsOf l).Nodup := by
  rw [List.nodup_iff_pairwise_ne]
  exact (labelsOf_rises l).imp (fun {x y} (h : ltL x y) (e : x = y) => by subst e; exact ltL_irrefl x h)
theorem labels_sum (l : List S38) : ((labelsOf l).map (cnt l)).sum = l.countP (fun x => !x.f2) :=
  sum_cnt _ (labelsOf_nodup l) l (fun x hx hf => (mem_labelsOf l x.f1).2 (List.countP_pos_iff.2 ⟨x, hx, by simp [hf]⟩))
theorem sums_l1 (l : List S38) (a b c : S25) (hl : l.length ≤ 60) (n : Nat) (hn : n = l.countP (fun x => !x.f2)) (d : Nat) :
    ∀ (i m : Nat), i + d = l.length → m = (l.take i).countP (fun x => !x.f2) → Ev (fun k => jalousielaw19_TallySums.l1 k l n m i a.f0 a.f1 b.f0 b.f1 c.f0 c.f1) true := by
  induction d with
  | zero =>
    intro i m hi hm
    rw [List.take_of_length_le (by omega)] at hm
    have hnm : ((n : Int) == (m : Int)) = true := by rw [hn, hm]; simp
    have hend : Ev (fun k => (jalousielaw19_live.f k).bind fun t156 => (if t156 = true then (some ((n : Int) == (m : Int))) else (some false))) true := by
      refine Ev.bind live_ev (Ev.pos rfl ?_)
      rw [hnm]
      exact Ev.now _
    refine Ev.step (fun k => by rw [jalousielaw19_TallySums.l1]) (Ev.neg (by omega) ?_)
    refine Ev.sb (Ev.sb (Ev.pos (cmpO_anti a b) (Ev.sb (Ev.neg ?_ (Ev.sb ?_)))))
    · have := cmpO_zero a b
      unfold cmpO at this
      rw [this]
      simp
    · by_cases h1 : ltL a b
      · refine Ev.pos ((cmpO_lt a b).2 h1) (Ev.sb ?_)
        by_cases h2 : ltL b c
        · refine Ev.pos ((cmpO_lt b c).2 h2) (Ev.sb (Ev.neg (fun h => ?_) hend))
          have h3 := (cmpO_lt a c).2 (ltL_trans h1 h2)
          unfold cmpO at h3
          omega
        · exact Ev.neg (fun h => h2 ((cmpO_lt b c).1 h)) hend
      · exact Ev.neg (fun h => h1 ((cmpO_lt a b).1 h)) hend
  | succ d ih =>
    intro i m hi hm
    have hlt : i < l.length := by omega
    have hml : m ≤ i := by rw [hm]; exact Nat.le_trans List.countP_le_length (by rw [List.length_take]; omega)
    refine Ev.step (fun k => by rw [jalousielaw19_TallySums.l1]) (Ev.pos (by omega) (Ev.pos (by omega) ?_))
    rw [rdI_at l i hlt, wrapS (i := i) (by omega)]
    by_cases hf : l[i].f2 = true
    · refine Ev.pos hf (ih (i + 1) m (by omega) ?_)
      rw [List.take_succ_eq_append_getElem hlt, List.countP_append, ← hm]
      simp [hf]
    · refine Ev.neg hf ?_
      rw [wrapS (i := m) (by omega)]
      refine ih (i + 1) (m + 1) (by omega) ?_
      rw [List.take_succ_eq_append_getElem hlt, List.countP_append, ← hm]
      simp [hf]
theorem sum_le (l : List S38) : ∀ ys : List S25, (ys.map (cnt l)).sum ≤ ys.length * l.length
  | [] => by simp
  | y :: r => by
    have := sum_le l r
    have := cnt_le l y
    simp only [List.map_cons, List.sum_cons, List.length_cons, Nat.add_mul]
    omega
theorem sums_l0 (l : List S38) (a b c : S25) (hl : l.length ≤ 60) (d : Nat) :
    ∀ (i n : Nat), i + d = (labelsOf l).length → n = (((labelsOf l).take i).map (cnt l)).sum → Ev (fun k => jalousielaw19_TallySums.l0 k l n (0 : Nat) (withN l (labelsOf l)) i a.f0 a.f1 b.f0 b.f1 c.f0 c.f1) true := by
  have hll := labelsOf_length l
  induction d with
  | zero =>
    intro i n hi hn
    refine Ev.step (fun k => by rw [jalousielaw19_TallySums.l0]) (Ev.neg (by rw [withN_length]; omega) ?_)
    rw [List.take_of_length_le (by omega), labels_sum] at hn
    exact sums_l1 l a b c hl n hn l.length 0 0 (Nat.zero_add _) rfl
  | succ d ih =>
    intro i n hi hn
    have hlt : i < (labelsOf l).length := by omega
    have hnx : n + cnt l (labelsOf l)[i] = (((labelsOf l).take (i + 1)).map (cnt l)).sum := by
      rw [List.take_succ_eq_append_getElem hlt, List.map_append, List.sum_append, ← hn]
      simp
    have hb := sum_le l ((labelsOf l).take (i + 1))
    have hb2 : ((labelsOf l).take (i + 1)).length * l.length ≤ 60 * 60 := Nat.mul_le_mul (by rw [List.length_take]; omega) hl
    have hnext := ih (i + 1) (n + cnt l (labelsOf l)[i]) (by omega) hnx
    refine Ev.step (fun k => by rw [jalousielaw19_TallySums.l0]) (Ev.pos (by rw [withN_length]; omega) (Ev.pos (by omega) ?_))
    have hw : wrap64 ((n : Int) + (cnt l (labelsOf l)[i] : Nat)) = ((n + cnt l (labelsOf l)[i] : Nat) : Int) := by unfold wrap64; omega
    by_cases h0 : i = 0
    · subst h0
      refine Ev.neg (by omega) ?_
      rw [withN_at l _ 0 hlt, wrapS (i := 0) (by omega)]
      dsimp only
      rw [hw]
      exact hnext
    · have hp : wrap64 ((i : Int) - 1) = ((i - 1 : Nat) : Int) := by unfold wrap64; omega
      have hrise := (List.pairwise_iff_getElem.1 (labelsOf_rises l)) (i - 1) i (by omega) hlt (by omega)
      rw [hp]
      refine Ev.pos (by omega) (Ev.pos (by omega) (Ev.pos (by rw [withN_length]; omega) ?_))
      rw [withN_at l _ (i - 1) (by omega), withN_at l _ i hlt, wrapS (i := i) (by omega)]
      dsimp only
      rw [hw]
      refine Ev.sb (Ev.neg (fun h => ?_) hnext)
      have h3 := (cmpO_lt _ _).2 hrise
      unfold cmpO at h3
      omega
end Go.Proofs.Ytceidmhniofapaa.PAll
namespace Go.Proofs.Ytceidmhniofapaa.Pure
open Go.RowKit Go.Proofs.Ytceidmhniofapaa.PAll Go.Proofs.YtceidmhniofapaaW.PrintWords
theorem TallySums (l : List S38) (a b c : S25) (hl : l.length ≤ 60) (hw : ∀ x ∈ l, wfItem x) (_wa : wfL a) (_wb : wfL b) (_wc : wfL c) : ∃ k, jalousielaw19_TallySums.f k l a.f0 a.f1 b.f0 b.f1 c.f0 c.f1 = some true := by
  refine Ev.rounds (Ev.congr (fun k => by rw [jalousielaw19_TallySums.f]) ?_)
  rw [Counts_f l hl hw]
  exact Ev.sb (sums_l0 l a b c hl _ 0 0 (Nat.zero_add _) rfl)
end Go.Proofs.Ytceidmhniofapaa.Pure
