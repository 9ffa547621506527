/- The reference of layer 19, as plain functions on items. -/
import Derived.Test.YtceidmhniofapaaPAllx4
import Derived.Test.YtceidmhniofapaaTRow
import Derived.Test.YtceidmhniofapaaMTCounts
import Derived.Test.YtceidmhniofapaaTSorted
namespace Go.Proofs.Ytceidmhniofapaa.PAll
open Go.RowKit Go.Proofs.YtceidmhniofapaaW.PrintWords Go.Proofs.YtceidmhniofapaaW.PrintLast Go.Proofs.YtceidmhniofapaaW.PrintMore
theorem Ev.pos {α : Type} {c : Prop} [Decidable c] {g g' : Nat → Option α} {r : α} (h : c) (e : Ev g r) : Ev (fun k => if c then g k else g' k) r := Ev.congr (fun _ => if_pos h) e
theorem Ev.neg {α : Type} {c : Prop} [Decidable c] {g g' : Nat → Option α} {r : α} (h : ¬ c) (e : Ev g' r) : Ev (fun k => if c then g k else g' k) r := Ev.congr (fun _ => if_neg h) e
theorem Ev.sb {α β : Type} {a : α} {f : Nat → α → Option β} {r : β} (e : Ev (fun k => f k a) r) : Ev (fun k => (some a).bind (f k)) r := Ev.congr (fun _ => rfl) e
theorem Ev.eq {α : Type} {g : Nat → Option α} {r r' : α} (e : Ev g r) (h : r = r') : Ev g r' := h ▸ e
theorem wrapS {i : Nat} (h : i ≤ 1000000000) : wrap64 ((i : Int) + 1) = ((i + 1 : Nat) : Int) := by unfold wrap64; omega
theorem rdI_at (l : List S38) (i : Nat) (h : i < l.length) : rd_T38 l (i : Int) = l[i] := by
  simp only [rd_T38, Int.toNat_natCast]
  rw [List.getD_eq_getElem?_getD, List.getElem?_eq_getElem h]; rfl
theorem rdC_at (l : List S30) (i : Nat) (h : i < l.length) : rd_T30 l (i : Int) = l[i] := by
  simp only [rd_T30, Int.toNat_natCast]
  rw [List.getD_eq_getElem?_getD, List.getElem?_eq_getElem h]; rfl
theorem cnt_cons (x : S38) (l : List S38) (y : S25) : cnt (x :: l) y = cnt l y + (if x.f2 = false ∧ x.f1 = y then 1 else 0) := by
  unfold cnt
  rw [List.countP_cons]
  cases h : x.f2 <;> simp [h]
theorem label_eq {x : S25} {a b : Int} : (x.f0 == a && (x.f1 == b)) = true ↔ x = ⟨a, b⟩ := by
  cases x
  simp
theorem refLines_l0 (l : List S38) (a b : Int) (hl : l.length ≤ 1000) (d : Nat) : ∀ (i out : Nat), i + d = l.length → out ≤ i → Ev (fun k => jalousieref19_Lines.l0 k l out i a b) (((out + cnt (l.drop i) ⟨a, b⟩ : Nat)) : Int) := by
  induction d with
  | zero =>
    intro i out hi ho
    refine Ev.step (fun k => by rw [jalousieref19_Lines.l0]) (Ev.neg (by omega) ?_)
    rw [List.drop_eq_nil_of_le (by omega)]
    exact Ev.now _
  | succ d ih =>
    intro i out hi ho
    have hlt : i < l.length := by omega
    rw [List.drop_eq_getElem_cons hlt, cnt_cons]
    refine Ev.step (fun k => by rw [jalousieref19_Lines.l0]) (Ev.pos (by omega) (Ev.pos (by omega) ?_))
    rw [rdI_at l i hlt, wrapS (by omega), wrapS (by omega)]
    by_cases hf : l[i].f2 = true
    · refine Ev.pos hf ?_
      have := ih (i + 1) out (by omega) (by omega)
      simpa [hf] using this
    · have hf' : l[i].f2 = false := by simpa using hf
      refine Ev.neg hf ?_
      by_cases he : l[i].f1 = ⟨a, b⟩
      · refine Ev.pos (label_eq.2 he) ?_
        have := ih (i + 1) (out + 1) (by omega) (by omega)
        rw [if_pos ⟨hf', he⟩, show out + (cnt (l.drop (i + 1)) ⟨a, b⟩ + 1) = out + 1 + cnt (l.drop (i + 1)) ⟨a, b⟩ by omega]
        exact this
      · refine Ev.neg (fun h => he (label_eq.1 h)) ?_
        have := ih (i + 1) out (by omega) (by omega)
        rw [if_neg (fun h => he h.2)]
        exact this
theorem refLines_ev (l : List S38) (a b : Int) (hl : l.length ≤ 1000) : Ev (fun k => jalousieref19_Lines.f k l a b) ((cnt l ⟨a, b⟩ : Nat) : Int) := by
  have := refLines_l0 l a b hl l.length 0 0 (by omega) (by omega)
  simpa [jalousieref19_Lines.f] using this
theorem refOrder_ev (x y : S25) : Ev (fun k => jalousieref19_Order.f k x.f0 x.f1 y.f0 y.f1) (cmpO x y) := by
  refine Ev.congr (fun k => by rw [jalousieref19_Order.f]) ?_
  by_cases h0 : x.f0 < y.f0
  · refine Ev.pos h0 (Ev.step (fun k => by rw [jalousieref19_Order.j0]) (Ev.pos rfl ?_))
    rw [show cmpO x y = -1 by unfold cmpO orI cmpI; simp [h0]]
    exact Ev.now _
  · refine Ev.neg h0 ?_
    by_cases h1 : x.f0 = y.f0
    · refine Ev.pos h1 ?_
      by_cases h2 : x.f1 < y.f1
      · rw [decide_eq_true h2]
        refine Ev.step (fun k => by rw [jalousieref19_Order.j0]) (Ev.pos rfl ?_)
        rw [show cmpO x y = -1 by unfold cmpO orI cmpI; simp [h1, h2]]
        exact Ev.now _
      · rw [decide_eq_false h2]
        refine Ev.step (fun k => by rw [jalousieref19_Order.j0]) (Ev.neg (by decide) ?_)
        by_cases h3 : x.f1 = y.f1
        · refine Ev.pos (by simp [h1, h3]) ?_
          rw [show cmpO x y = 0 by unfold cmpO orI cmpI; simp [h1, h3]]
          exact Ev.now _
        · refine Ev.neg (by simp [h1, h3]) ?_
          rw [show cmpO x y = 1 by unfold cmpO orI cmpI; simp [h1, h2]; omega]
          exact Ev.now _
    · refine Ev.neg h1 (Ev.step (fun k => by rw [jalousieref19_Order.j0]) (Ev.neg (by decide) (Ev.neg (by simp [h1]) ?_)))
      rw [show cmpO x y = 1 by unfold cmpO orI cmpI; simp [h0]; omega]
      exact Ev.now _
/-- Labels with their counts. -/
def withN (l : List S38) (ys : List S25) : List S30 := ys.map fun y => ⟨y, (cnt l y : Nat)⟩
theorem withN_length (l : List S38) (ys : List S25) : (withN l ys).length = ys.length := List.length_map ..
theorem withN_at (l : List S38) (ys : List S25) (i : Nat) (h : i < ys.length) : rd_T30 (withN l ys) (i : Int) = ⟨ys[i], (cnt l ys[i] : Nat)⟩ := by
  rw [rdC_at _ _ (by rw [withN_length]; exact h)]
  simp [withN]
theorem insL_skip (x : S25) (s : List S25) : ∀ p : List S25, (∀ y ∈ p, ltL y x) → insL x (p ++ s) = p ++ insL x s
  | [], _ => rfl
  | y :: p, h => by
    rw [List.cons_append, insL, if_pos (h y List.mem_cons_self), insL_skip x s p (fun z hz => h z (List.mem_cons_of_mem _ hz))]
    rfl
theorem insL_length (x : S25) (ys : List S25) : (insL x ys).length ≤ ys.length + 1 := by
  induction ys with
  | nil => simp [insL]
  | cons y r ih =>
    unfold insL
    split
    · simp only [List.length_cons]; omega
    · split <;> simp
theorem refCounts_l1 (l : List S38) (i : Nat) (hi : i < l.length) (hl : l.length ≤ 1000) (ys : List S25) (hy : ys.length ≤ 1000) (r : List S30)
    (hn : Ev (fun k => jalousieref19_Counts.l0 k l (withN l (insL l[i].f1 ys)) ((i + 1 : Nat) : Int)) r) (d : Nat) :
    ∀ j : Nat, j + d = ys.length → (∀ y ∈ ys.take j, ltL y l[i].f1) → Ev (fun k => jalousieref19_Counts.l1 k l (withN l ys) i j) r := by
  induction d with
  | zero =>
    intro j hj hp
    refine Ev.step (fun k => by rw [jalousieref19_Counts.l1]) (Ev.neg (by rw [withN_length]; omega) ?_)
    have hins : insL l[i].f1 ys = ys ++ [l[i].f1] := by
      have := insL_skip l[i].f1 [] ys (fun y hy => hp y (by rw [List.take_of_length_le (by omega)]; exact hy))
      simpa [insL] using this
    refine Ev.sb (Ev.pos (by omega) (Ev.pos (by rw [withN_length]; omega) (Ev.sb (Ev.pos ?_ (Ev.sb (Ev.pos (by omega) (Ev.pos (by omega) ?_)))))))
    · simp only [List.length_nil, List.length_take, withN_length, Int.toNat_natCast]; omega
    · rw [rdI_at l i hi, wrapS (by omega)]
      refine Ev.bind (refLines_ev l l[i].f1.f0 l[i].f1.f1 hl) (Ev.pos ?_ (Ev.sb (Ev.sb (Ev.pos ?_ ?_))))
      · simp only [List.nil_append, List.length_take, withN_length, Int.toNat_natCast]; omega
      · simp only [List.nil_append, List.length_append, List.length_take, List.length_drop, List.length_cons, List.length_nil, withN_length, Int.toNat_natCast]; omega
      · rw [hins] at hn
        have e : ([] ++ (withN l ys).take (j : Int).toNat ++ [(⟨⟨l[i].f1.f0, l[i].f1.f1⟩, (cnt l ⟨l[i].f1.f0, l[i].f1.f1⟩ : Nat)⟩ : S30)]) ++ (withN l ys).drop (j : Int).toNat = withN l (ys ++ [l[i].f1]) := by
          have hjl : (withN l ys).length ≤ (j : Int).toNat := by rw [withN_length]; simp; omega
          rw [List.take_of_length_le hjl, List.drop_eq_nil_of_le hjl]
          simp [withN]
        rw [e]
        exact hn
  | succ d ih =>
    intro j hj hp
    have hlt : j < ys.length := by omega
    refine Ev.step (fun k => by rw [jalousieref19_Counts.l1]) (Ev.pos (by rw [withN_length]; omega) (Ev.pos (by omega) (Ev.pos (by omega) (Ev.pos (by omega) ?_))))
    rw [rdI_at l i hi, withN_at l ys j hlt, wrapS (i := j) (by omega)]
    refine Ev.bind (refOrder_ev ys[j] l[i].f1) ?_
    by_cases hc : ltL ys[j] l[i].f1
    · refine Ev.pos ((cmpO_lt _ _).2 hc) ?_
      refine ih (j + 1) (by omega) (fun y hy => ?_)
      rw [List.take_succ_eq_append_getElem hlt] at hy
      rcases List.mem_append.1 hy with h | h
      · exact hp y h
      · rw [List.mem_singleton.1 h]; exact hc
    · refine Ev.neg (fun h => hc ((cmpO_lt _ _).1 h)) ?_
      have hsplit : ys = ys.take j ++ ys[j] :: ys.drop (j + 1) := by rw [← List.drop_eq_getElem_cons hlt, List.take_append_drop]
      have hins : insL l[i].f1 ys = ys.take j ++ (if ys[j] = l[i].f1 then ys[j] :: ys.drop (j + 1) else l[i].f1 :: ys[j] :: ys.drop (j + 1)) := by
        conv => lhs; rw [hsplit]
        rw [insL_skip _ _ _ hp, insL, if_neg hc]
      by_cases he : ys[j] = l[i].f1
      · refine Ev.pos ?_ ?_
        · rw [he]; simp
        · rw [hins, if_pos he, ← hsplit] at hn
          rw [wrapS (i := i) (by omega)]
          exact hn
      · refine Ev.neg (fun h => he (label_eq.1 h)) ?_
        refine Ev.sb (Ev.pos (by rw [withN_length]; omega) (Ev.sb (Ev.pos ?_ (Ev.sb ?_))))
        · simp only [List.length_nil, List.length_take, withN_length, Int.toNat_natCast]; omega
        · refine Ev.bind (refLines_ev l l[i].f1.f0 l[i].f1.f1 hl) (Ev.pos ?_ (Ev.sb (Ev.sb (Ev.pos ?_ ?_))))
          · simp only [List.nil_append, List.length_take, withN_length, Int.toNat_natCast]; omega
          · simp only [List.nil_append, List.length_append, List.length_take, List.length_drop, List.length_cons, List.length_nil, withN_length, Int.toNat_natCast]; omega
          · rw [hins, if_neg he] at hn
            have e : ([] ++ (withN l ys).take (j : Int).toNat ++ [(⟨⟨l[i].f1.f0, l[i].f1.f1⟩, (cnt l ⟨l[i].f1.f0, l[i].f1.f1⟩ : Nat)⟩ : S30)]) ++ (withN l ys).drop (j : Int).toNat = withN l (ys.take j ++ l[i].f1 :: ys[j] :: ys.drop (j + 1)) := by
              rw [← List.drop_eq_getElem_cons hlt]
              simp [withN, List.map_take, List.map_drop]
            rw [e, wrapS (by omega)]
            exact hn
theorem labelsOf_length (l : List S38) : (labelsOf l).length ≤ l.length := by
  have key : ∀ r : List S38, (labelsOf r.reverse).length ≤ r.length := by
    intro r
    induction r with
    | nil => simp [labelsOf]
    | cons x r ih =>
      rw [List.reverse_cons, labelsOf_snoc]
      split
      · simp only [List.length_cons]; omega
      · have := insL_length x.f1 (labelsOf r.reverse)
        simp only [List.length_cons]; omega
  have h := key l.reverse
  rw [List.reverse_reverse] at h
  simpa using h
theorem refCounts_l0 (l : List S38) (hl : l.length ≤ 1000) (d : Nat) : ∀ i : Nat, i + d = l.length → Ev (fun k => jalousieref19_Counts.l0 k l (withN l (labelsOf (l.take i))) i) (withN l (labelsOf l)) := by
  induction d with
  | zero =>
    intro i hi
    refine Ev.step (fun k => by rw [jalousieref19_Counts.l0]) (Ev.neg (by omega) ?_)
    rw [List.take_of_length_le (by omega)]
    exact Ev.now _
  | succ d ih =>
    intro i hi
    have hlt : i < l.length := by omega
    have hnx := ih (i + 1) (by omega)
    rw [List.take_succ_eq_append_getElem hlt, labelsOf_snoc] at hnx
    refine Ev.step (fun k => by rw [jalousieref19_Counts.l0]) (Ev.pos (by omega) (Ev.pos (by omega) ?_))
    rw [rdI_at l i hlt, wrapS (by omega)]
    by_cases hf : l[i].f2 = true
    · rw [if_pos hf] at hnx
      exact Ev.pos hf hnx
    · rw [if_neg hf] at hnx
      refine Ev.neg hf ?_
      have hle := labelsOf_length (l.take i)
      rw [List.length_take] at hle
      exact refCounts_l1 l i hlt hl _ (by omega) _ hnx _ 0 (Nat.zero_add _) (by simp)
theorem refCounts_ev (l : List S38) (hl : l.length ≤ 1000) : Ev (fun k => jalousieref19_Counts.f k l) (countsOf l) := by
  have := refCounts_l0 l hl l.length 0 (by omega)
  refine Ev.congr (fun k => by rw [jalousieref19_Counts.f]) ?_
  exact this
end Go.Proofs.Ytceidmhniofapaa.PAll
