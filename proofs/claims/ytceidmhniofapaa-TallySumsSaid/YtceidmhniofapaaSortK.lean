/- A row of the call's own, of elements of k cells, before and behind the library's sort. -/
import Derived.Shelf.SlSortCmp.WholeK
import Derived.Sort.OwnSorted
namespace Go.Proofs.Ytceidmhniofapaa
open Go.Sort Go.Shelf
section
variable {α : Type} [Inhabited α]

theorem flatK_list (enc : α → List Value) (k : Nat) (hk : ∀ x, (enc x).length = k) (l : List α) : (flatK enc k l.toArray).toList = l.flatMap enc := by
  have hlen : ∀ l : List α, (l.flatMap enc).length = l.length * k := by
    intro l
    induction l with
    | nil => simp
    | cons x l ih => rw [List.flatMap_cons, List.length_append, ih, hk, List.length_cons, Nat.add_mul, Nat.one_mul, Nat.add_comm]
  have hget : ∀ (l : List α) (t : Nat), t < l.length * k → (l.flatMap enc)[t]? = some ((enc l.toArray[t / k]!)[t % k]!) := by
    intro l
    induction l with
    | nil => intro t ht; simp at ht
    | cons x l ih =>
      intro t ht
      rw [List.flatMap_cons]
      by_cases h : t < k
      · rw [List.getElem?_append_left (by rw [hk]; exact h)]
        have h0 : t / k = 0 := Nat.div_eq_of_lt h
        have h1 : t % k = t := Nat.mod_eq_of_lt h
        rw [h0, h1]
        have hx : t < (enc x).length := by rw [hk]; exact h
        simp [hx]
      · have hk0 : 0 < k := by
          rcases Nat.eq_zero_or_pos k with h0 | h0
          · subst h0; simp at ht
          · exact h0
        rw [List.getElem?_append_right (by rw [hk]; omega), hk]
        have ht' : t - k < l.length * k := by rw [List.length_cons, Nat.add_mul, Nat.one_mul] at ht; omega
        rw [ih (t - k) ht']
        have hd : t / k = (t - k) / k + 1 := by rw [← Nat.add_div_right _ hk0]; congr 1; omega
        have hm : t % k = (t - k) % k := by rw [← Nat.add_mod_right (t - k) k]; congr 1; omega
        rw [hd, hm]
        simp
  apply List.ext_getElem?
  intro t
  by_cases ht : t < l.length * k
  · rw [hget l t ht, Array.getElem?_toList]
    simp [flatK, ht]
  · rw [List.getElem?_eq_none (by simp [flatK]; omega), List.getElem?_eq_none (by rw [hlen]; omega)]

theorem heap_sortedK {w : World} {g n : Nat} {os : Array Obj} {cur : Array Value} {e : TypeId} {fr : Nat × Nat} (F : Array Value) (hb : w.heap[g]? = some (.cells cur e fr)) :
    (grow (putRow id (Sort.ahead w n) g 0 F) os).heap[g]? = some (.cells (putCells id 0 F cur) e fr) := by
  have hg : g < w.heap.size := (Array.getElem?_eq_some_iff.1 hb).1
  rw [heap_grow_old _ _ (by simpa using hg)]
  simp [putRow, mapBlock, Sort.ahead, Array.getElem?_modify, hb, onCells]
theorem grownBy_sortedK (enc : α → List Value) (k : Nat) {w : World} {g n : Nat} {os : Array Obj} (d : Array α) : w.grownBy (sortWorldK enc k w g 0 n d os) (some g) := by
  refine ⟨rfl, rfl, rfl, by simp [sortWorldK, putRowK], fun j hj hne => ?_⟩
  unfold sortWorldK putRowK
  rw [heap_grow_old _ _ (by simpa using hj)]
  have : g ≠ j := fun e => hne (by rw [e])
  simp [putRow, mapBlock, Sort.ahead, Array.getElem?_modify, this]
theorem take_putCellsK (cur F : Array Value) (h : F.size ≤ cur.size) : (putCells id 0 F cur).toList.take F.size = F.toList := by
  apply List.ext_getElem?
  intro j
  by_cases hj : j < F.size
  · rw [List.getElem?_take_of_lt hj, Array.getElem?_toList, Array.getElem?_toList]
    simp [putCells, hj, show j < cur.size by omega]
  · rw [List.getElem?_take_eq_none (by omega), List.getElem?_eq_none (by simp; omega)]

/-- What the sort asks of the row. -/
theorem holdsK_owned {enc : α → List Value} {k : Nat} (hk : ∀ x, (enc x).length = k) {w : World} {base g cap : Nat} {e : TypeId} {xs : List α} (h : w.ownsRow base e k (.slice (some ⟨g, 0, none⟩) xs.length cap) xs.length (xs.flatMap enc)) :
    HoldsK enc k w g 0 xs.toArray ∧ g < w.heap.size := by
  rcases h.2 with ⟨h0, _⟩ | ⟨g', cap', cur, hv, hbase, hb, h1, h2, h3, h4⟩
  · cases h0
  · cases hv
    refine ⟨?_, (Array.getElem?_eq_some_iff.1 hb).1⟩
    intro j hj
    have hs : (flatK enc k xs.toArray).size = xs.length * k := by simp
    have hj' : j < xs.length * k := by omega
    refine ⟨?_, by simp [World.frozen?, hb]⟩
    have e1 : (cur.toList.take (xs.length * k))[j]? = (xs.flatMap enc)[j]? := by rw [h4]
    rw [List.getElem?_take_of_lt hj', ← flatK_list enc k hk, Array.getElem?_toList, Array.getElem?_toList] at e1
    simp only [World.cell?, hb, Nat.zero_add]
    simp only [Option.isSome_none, Bool.false_eq_true, if_false]
    rw [e1, Array.getElem?_eq_getElem hj, getElem!_pos _ j hj]
    rfl
/-- Behind it the same slice owns what the sort has laid. -/
theorem owned_sortedK {enc : α → List Value} {k : Nat} (hk : ∀ x, (enc x).length = k) {w : World} {base g cap n : Nat} {e : TypeId} {os : Array Obj} {xs ys : List α} (hl : ys.length = xs.length)
    (h : w.ownsRow base e k (.slice (some ⟨g, 0, none⟩) xs.length cap) xs.length (xs.flatMap enc)) :
    (sortWorldK enc k w g 0 n ys.toArray os).ownsRow base e k (.slice (some ⟨g, 0, none⟩) ys.length cap) ys.length (ys.flatMap enc) := by
  rcases h.2 with ⟨h0, _⟩ | ⟨g', cap', cur, hv, hbase, hb, h1, h2, h3, h4⟩
  · cases h0
  · cases hv
    have hs : (flatK enc k ys.toArray).size = ys.length * k := by simp
    have hfit : ys.length * k ≤ cap * k := Nat.mul_le_mul_right _ (by omega)
    refine ⟨by rw [← flatK_list enc k hk, Array.length_toList, hs], .inr ⟨g, cap, putCells id 0 (flatK enc k ys.toArray) cur, rfl, hbase, heap_sortedK _ hb, by omega, h2, by simp [putCells, h3], ?_⟩⟩
    rw [← flatK_list enc k hk, ← hs]
    exact take_putCellsK _ _ (by omega)
theorem perm_list {d d' : Array α} (h : PermIn 0 d.size d d') : d'.toList.Perm d.toList ∧ d'.size = d.size := by
  obtain ⟨hs, _, hp⟩ := h
  refine ⟨?_, hs⟩
  have e1 : d'.extract 0 d.size = d' := by rw [← hs]; simp
  have e2 : d.extract 0 d.size = d := by simp
  rwa [e1, e2] at hp
theorem sorted_list {lt : α → α → Bool} {d : Array α} (h : SortedIn lt 0 d.size d) : d.toList.Pairwise (fun x y => lt y x = false) := by
  rw [List.pairwise_iff_getElem]
  intro i j hi hj hij
  have := h i j (Nat.zero_le _) hij (by simpa using hj)
  rw [getElem!_pos d i (by simpa using hi), getElem!_pos d j (by simpa using hj)] at this
  simpa using this
end
end Go.Proofs.Ytceidmhniofapaa
