/- intern.Counts: how often each number is there, ascending: over the counting map, maps.All and slices.SortFunc. -/
import Derived.Test.YtoonbiifkalamaaPAllx0
import Derived.Test.YtoonbiifkalamaaMOnce
import Derived.Test.YtoonbiifkalamaaSortK
import Derived.Test.YtoonbiifkalamaaShelfP
import Derived.Lib.SlKeysI
import Derived.Shelf.AbstractIn
import Derived.RangeFuncMany
import Derived.RangeFuncBox
import Derived.RangeFuncNested
import Derived.RangeFuncBound
import Derived.RangeFuncCalls
import Derived.RangeFuncLeaves
import Derived.Sort.MapsRangeIn
import Derived.OwnWalkIn
import Derived.TacticsInMore
import Derived.RegionIn
import Derived.LoopNIn
import Derived.LoopIn
import Derived.Shelf.Abstract
import Derived.Shelf.RegionOpen
import Derived.Shelf.SlSortCmp.NoneTotal
namespace Go.Proofs.Ytoonbiifkalamaa
open Go.RowKit Go.Maps Go.Sort Go.Shelf Go.Proofs.YtoonbiifkalamaaW.PrintWords

/-- A number and how often it is there, as the map has them. -/
def ValAt {H : Type} (D0 : DataW H) (p : Int × Int) : Prop := ∀ zd, D0.atKey (.int .i64 p.1) zd = .lit (.int .i64 p.2)
abbrev encs2 (p : Int × Int) : Array Value := #[.int .i64 p.1, .int .i64 p.2]
def AllOf {H : Type} (D0 : DataW H) (ps : List (Int × Int)) : Prop := (ps.map (·.1)).Nodup ∧ (∀ x, x ∈ ps.map (·.1) ↔ has D0 (.int .i64 x) = true) ∧ ∀ p ∈ ps, ValAt D0 p
def PartOf {H : Type} (D0 : DataW H) (ps : List (Int × Int)) : Prop := (ps.map (·.1)).Nodup ∧ (∀ x ∈ ps.map (·.1), has D0 (.int .i64 x) = true) ∧ ∀ p ∈ ps, ValAt D0 p

set_option maxRecDepth 100000 in
set_option maxHeartbeats 1000000 in
/-- maps.All's iterator, for every loop body. -/
theorem all1S_in {H : Type} (F : Fence) (n : Nat) (h8 : F.fn 21) (hro : F.round = none) (hn : 1 ≤ n) (l Bm b nn : Nat) (D0 : DataW H) (J Jx : List (Int × Int) → World → Prop)
    (hY : ∀ pre x W, J pre W → pre.length < Maps.size D0 → YieldAt F (n - 1) Try.prog l (encs2 x) W fun e W' =>
      (e = .returned (.bool true) ∧ J (pre ++ [x]) W' ∧ KeepsWalks W W') ∨ (e = .returned (.bool false) ∧ Jx (pre ++ [x]) W'))
    (W : World) (hJ : AbidesFrom W.heap.size J) (hm : W.cell? ⟨Bm, 0, none⟩ = some (.map (some b))) (hown : W.ownsMap Try.prog 3 (plainElem Try.prog 3) b nn D0) (h0 : J [] W) :
    CallsIn F n Try.prog 21 #[.func (.yield l) #[] #[], .pointer (some ⟨Bm, 0, none⟩)] W fun e W' => (∃ v, e = .returned v) ∧
      ((∃ ps, AllOf D0 ps ∧ J ps W') ∨ (∃ pre, PartOf D0 pre ∧ Jx pre W')) := by
  refine callsIn_of_wp Try.func21 rfl h8 ?_ hro
  simp only [Try.ntmps21, List.size_toArray, List.length_cons, List.length_nil, Nat.reduceAdd, Nat.reduceSub, Array.replicate_succ, Array.replicate_zero, List.push_toArray, List.append_toArray, List.nil_append, List.cons_append]
  gi_wp2_with (first
    | (gi_at_range; refine wpListIn_range_own _ rfl _ 33 rfl 3 3 lawI Try.underlying33 _ b nn _ rfl hown ?_; intro w0 hrg0 hg0 hs0)
    | gi_in)
  go_frame
  gi_loopw [3, 4] (fun _ _ wr => ∃ (left : Lit → Bool) (cnt : Nat) (ps : List (Int × Int)), wr.ranges Try.prog 3 (plainElem Try.prog 3) b W.heap.size nn D0 left cnt ∧ ps.length + cnt ≤ Maps.size D0 ∧ CollectedI D0 left (ps.map (·.1)) ∧ (∀ p ∈ ps, ValAt D0 p) ∧ J ps wr)
    (fun _ _ wr => wr.rangeLeft b W.heap.size)
  case atStart =>
    exact ⟨_, _, [], hrg0, by simp, CollectedI.start D0, by simp, hJ [] W w0 none h0 hg0 (fun r e => by cases e)⟩
  case round =>
    obtain ⟨left, cnt, ps, hrg, hcs, hC, hV, hJs⟩ := hrel
    gi_wp2_with (first
      | (gi_at_next; refine wpListIn_next_ranges _ rfl _ rfl 3 lawI (plainElem Try.prog 3) encZ (Value.int .i64) (fun key kl hk => by obtain ⟨x, hx, _⟩ := Maps.keyOf_i64 Try.underlying3 hk; exact ⟨x, hx⟩) (fun v y hv => by obtain ⟨c, rfl, _⟩ := plainElem_int_inv Try.underlying3 hv; exact ⟨c, rfl⟩) b W.heap.size nn _ _ _ rfl hrg ?_ ?_)
      | gi_in)
    · intro hc0 hl0
      gi_wp2
      go_end0
      exact ⟨⟨_, rfl⟩, .inl ⟨ps, ⟨hC.1, fun x => by rw [hC.2 x, hl0]; simp, hV⟩, hJs⟩⟩
    · intro x c kl yd yp w2 cnt2 hkey hlk hv hat hrg2 hlt hg2 hs2 hen
      obtain ⟨x', ex, rfl, _⟩ := Maps.keyOf_i64 Try.underlying3 hkey
      obtain rfl : x = x' := encZ_inj ex
      obtain ⟨c', ec, ez, _⟩ := plainElem_int_inv Try.underlying3 hv
      obtain rfl : c = c' := by simpa using ec
      obtain rfl : yd = .lit (.int .i64 c) := (Prod.mk.inj ez).1
      have hJ2 : J ps w2 := hJ ps wr w2 (some W.heap.size) hJs hg2 (fun r e => by cases e; exact ⟨Nat.le_refl _, hrg.iter_walk⟩)
      obtain ⟨fn, tmps, assign, body, hy, hR⟩ := hY ps (x, c) w2 hJ2 (by omega)
      dsimp only [encs2] at hy
      clear hs2
      gi_wp2
      refine hR.mono ?_
      have hC2 : CollectedI D0 (fun z => left z && !z.sameKey (.int .i64 x)) ((ps ++ [(x, c)]).map (·.1)) := by simpa using hC.step hlk hat
      have hV2 : ∀ p ∈ ps ++ [(x, c)], ValAt D0 p := fun p hp => (List.mem_append.1 hp).elim (hV p) (fun e => by simp at e; subst e; exact hat)
      rintro e W3 (⟨rfl, hJ3, hk3⟩ | ⟨rfl, hJx3⟩)
      · gi_wp2
        have hrg3 := hrg2.of_walks hk3
        go_roundw
        case rel => exact ⟨_, cnt2, ps ++ [(x, c)], hrg3, by simp; omega, hC2, hV2, hJ3⟩
        case measure => rw [hrg3.left_eq, hrg.left_eq]; exact hlt
      · gi_wp2
        refine bodyPost_ret (results_none rfl _ _ _) rfl ?_
        exact ⟨⟨_, rfl⟩, .inr ⟨ps ++ [(x, c)], ⟨hC2.1, fun y hy => ((hC2.2 y).1 hy).1, hV2⟩, hJx3⟩⟩
set_option maxHeartbeats 1000000 in
theorem all_in (F : Fence) (n : Nat) (hf : F.fn 11) (hro : F.round = none) (mb : Option Nat) (w : World) :
    CallsIn F n Try.prog 11 #[.map mb] w fun e w' => e = .returned (.func (.func 21) #[] #[.pointer (some ⟨w.heap.size, 0, none⟩)]) ∧ w' = w.alloc (.cells #[.map mb] 33) := by
  refine callsIn_of_wp Try.func11 rfl hf ?_ hro
  simp only [Try.ntmps11, List.size_toArray, List.length_cons, List.length_nil, Nat.reduceAdd, Nat.reduceSub, Array.replicate_succ, Array.replicate_zero, List.push_toArray, List.append_toArray, List.nil_append, List.cons_append]
  gi_wp2
  go_ret
  exact ⟨rfl, rfl⟩
theorem all_stops {H : Type} (F : Fence) (n : Nat) (h8 : F.fn 21) (hro : F.round = none) (hn : 1 ≤ n) (Bm b nn : Nat) (D0 : DataW H) (w : World) (hBm : Bm < w.heap.size)
    (hm : w.cell? ⟨Bm, 0, none⟩ = some (.map (some b))) (hown : w.ownsMap Try.prog 3 (plainElem Try.prog 3) b nn D0) :
    SeqStopsA F n Try.prog 21 #[.pointer (some ⟨Bm, 0, none⟩)] encs2 (AllOf D0) (PartOf D0) (Maps.size D0) w := fun l J Jx W hW hJ _ hY h0 => by
  have hown' : W.ownsMap Try.prog 3 (plainElem Try.prog 3) b nn D0 := by
    have hbl := hown.lt
    obtain ⟨es, clock, hb, Ft, hs, hD⟩ := hown
    exact ⟨es, clock, (hW.block b hbl).trans hb, Ft, hs, hD⟩
  exact all1S_in F n h8 hro hn l Bm b nn D0 J Jx hY W hJ ((hW.cell (p := ⟨Bm, 0, none⟩) hBm).trans hm) hown' h0

/-- cmp.Compare of ints. -/
def cmpI (x y : Int) : Int := if x < y then -1 else if y < x then 1 else 0
theorem isNaN_calls (x : Int) (w : World) : Calls Try.prog 24 #[.int .i64 x] w fun e w' => e = .returned (.bool false) ∧ w' = w := by
  go_enter Try.func24, Try.ntmps24
  go_wp2
  go_ret
  exact ⟨ret_bool (by simp), rfl⟩
set_option maxHeartbeats 400000 in
theorem cmp_calls (x y : Int) (w : World) : Calls Try.prog 15 #[.int .i64 x, .int .i64 y] w fun e w' => e = .returned (.int .i64 (cmpI x y)) ∧ w' = w := by
  rcases (show x < y ∨ (¬ x < y ∧ y < x) ∨ (¬ x < y ∧ ¬ y < x) by omega) with h | ⟨h, h'⟩ | ⟨h, h'⟩
  all_goals
    have hc : cmpI x y = cmpI x y := rfl
    unfold cmpI at hc
  · have HC := Lib.hid (show cmpI x y = -1 by unfold cmpI; rw [if_pos h]); clear hc
    go_enter Try.func15, Try.ntmps15
    go_wp2_with (go_at_call 24; refine (isNaN_calls _ _).mono ?_; rintro e w' ⟨rfl, rfl⟩)
    go_ret
    exact ⟨ret_int HC.out.symm, rfl⟩
  · have HC := Lib.hid (show cmpI x y = 1 by unfold cmpI; rw [if_neg h, if_pos h']); clear hc
    go_enter Try.func15, Try.ntmps15
    go_wp2_with (go_at_call 24; refine (isNaN_calls _ _).mono ?_; rintro e w' ⟨rfl, rfl⟩)
    go_ret
    exact ⟨ret_int HC.out.symm, rfl⟩
  · have HC := Lib.hid (show cmpI x y = 0 by unfold cmpI; rw [if_neg h, if_neg h']); clear hc
    go_enter Try.func15, Try.ntmps15
    go_wp2_with (go_at_call 24; refine (isNaN_calls _ _).mono ?_; rintro e w' ⟨rfl, rfl⟩)
    go_ret
    exact ⟨ret_int HC.out.symm, rfl⟩

/-- Pairs, as cells. -/
def encP (x : Int × Int) : List Value := [.int .i64 x.1, .int .i64 x.2]
set_option maxHeartbeats 1000000 in
theorem closure_calls (x y : Int × Int) (W : World) : Calls Try.prog 14 #[.agg #[.int .i64 x.1, .int .i64 x.2], .agg #[.int .i64 y.1, .int .i64 y.2]] W fun e w' => e = .returned (.int .i64 (cmpI x.1 y.1)) ∧ ∃ q os', w' = grow (W.drewN q) os' := by
  have hcon := fun W' => cmp_calls x.1 y.1 W'
  generalize cmpI x.1 y.1 = r at hcon ⊢
  go_enter Try.func14, Try.ntmps14
  go_wp2_with (go_at_call 15; refine (hcon _).mono ?_; rintro e w' ⟨rfl, rfl⟩)
  go_ret
  exact ⟨rfl, 0, _, by rw [alloc_eq_grow, alloc_eq_grow, grow_grow]; rfl⟩
theorem cmpLays (blk off size : Nat) (w : World) : CmpLays Try.prog 14 #[] encP 2 (fun x y => cmpI x.1 y.1) blk off size w :=
  fun _ _ _ _ x y => closure_calls x y _
theorem ltP (x y : Int × Int) : ltOf (fun x y : Int × Int => cmpI x.1 y.1) x y = decide (x.1 < y.1) := by
  unfold ltOf cmpI
  by_cases h1 : x.1 < y.1
  · simp [h1]
  · by_cases h2 : y.1 < x.1 <;> simp [h1, h2]
theorem swoP : SWO (ltOf fun x y : Int × Int => cmpI x.1 y.1) where
  irrefl x := by rw [ltP]; simp
  trans x y z h1 h2 := by rw [ltP] at *; simp at *; omega
  ntrans x y z h1 h2 := by rw [ltP] at *; simp at *; omega

theorem infoP : (Try.prog.info? 25).map (fun i => (i.zero, i.size, i.bytes)) = some (some (.agg #[.int .i64 0, .int .i64 0]), 2, 16) := by kernel_rfl
theorem flatP_length (l : List (Int × Int)) : (l.flatMap encP).length = l.length * 2 := by
  induction l with
  | nil => rfl
  | cons x l ih => rw [List.flatMap_cons, List.length_append, ih]; simp [encP]; omega

theorem nodup_sub : ∀ (a b : List Int), a.Nodup → (∀ x ∈ a, x ∈ b) → a.length ≤ b.length
  | [], _, _, _ => Nat.zero_le _
  | x :: a, b, hn, hs => by
    have hx := hs x List.mem_cons_self
    have h := nodup_sub a (b.erase x) (List.nodup_cons.1 hn).2 (fun y hy => (List.mem_erase_of_ne (fun (e : y = x) => (List.nodup_cons.1 hn).1 (by rw [← e]; exact hy))).2 (hs y (List.mem_cons_of_mem _ hy)))
    rw [List.length_erase_of_mem hx] at h
    have : 0 < b.length := List.length_pos_of_mem hx
    simp only [List.length_cons]
    omega
theorem tidy_often {H : Type} (l : List Int) : Tidy (oftenD (H := H) l) ∧ Maps.size (oftenD (H := H) l) ≤ l.length ∧ ∀ x, has (oftenD (H := H) l) (.int .i64 x) = decide (x ∈ l) := by
  have key : ∀ r : List Int, Tidy (oftenD (H := H) r.reverse) ∧ Maps.size (oftenD (H := H) r.reverse) ≤ r.length ∧ ∀ x, has (oftenD (H := H) r.reverse) (.int .i64 x) = decide (x ∈ r) := by
    intro r
    induction r with
    | nil => exact ⟨tidy_empty, Nat.le_refl _, fun x => rfl⟩
    | cons y r ih =>
      rw [List.reverse_cons, oftenD_snoc]
      unfold oftenPut
      refine ⟨ih.1.put (by exact trivial) _, ?_, fun x => ?_⟩
      · rw [size_put ih.1]
        have := ih.2.1
        simp only [List.length_cons]
        split <;> omega
      · by_cases e : x = y
        · subst e
          rw [has_put_same ih.1.isMap (by exact trivial)]
          simp
        · rw [has_put_other (by intro h; injection h with _ h; exact e h), ih.2.2 x]
          simp [e]
  have h := key l.reverse
  rw [List.reverse_reverse] at h
  simpa using h
theorem allOf_length {H : Type} (l : List Int) (ps : List (Int × Int)) (h : AllOf (oftenD (H := H) l) ps) : ps.length ≤ l.length := by
  have := nodup_sub (ps.map (·.1)) l h.1 (fun x hx => by have := (h.2.1 x).1 hx; rw [(tidy_often l).2.2 x] at this; simpa using this)
  simpa using this

attribute [local go_sem] Oper.semAt_some
set_option maxRecDepth 100000 in
set_option maxHeartbeats 2000000 in
/-- The pairs, as the map's order gives them, sorted. -/
theorem counts_in {H : Type} (n : Nat) (hn : 9 ≤ n) (A0 : Option Addr) (c0 : Nat) (l0 : List Int) (w : World) (hr0 : kI.C w A0 l0.length l0) (hw : ∀ n ∈ l0, (Lit.int .i64 n).wf = true) (hl : l0.length ≤ 1000) :
    CallsIn Fence.wide n Try.prog 5 #[.slice A0 l0.length c0] w fun e W' => ∃ (v : Value) (ps d : List (Int × Int)), e = .returned v ∧ AllOf (oftenD (H := H) l0) ps ∧ d.Perm ps ∧ d.Pairwise (fun x y => x.1 ≤ y.1) ∧
      W'.ownsRow w.heap.size 25 2 v d.length (d.flatMap encP) ∧ Below w.heap.size w W' := by
  have hsz := (tidy_often (H := H) l0).2.1
  have f1 : Fence.wide.fn 12 := trivial
  have f2 : Fence.wide.fn 11 := trivial
  have f3 : Fence.wide.fn 13 := trivial
  have hro : Fence.wide.round = none := rfl
  have h1 : 1 ≤ n := by omega
  obtain ⟨i0, hi, hz0, hz1, hz2⟩ := info_parts infoP
  have HR := Aside0.mk hr0
  have HW := Aside0.mk hw
  clear hr0 hw
  refine callsIn_of_wp_marks Try.func5 rfl trivial ?_ hro
  simp only [Try.ntmps5, List.size_toArray, List.length_cons, List.length_nil, Nat.reduceAdd, Nat.reduceSub, Array.replicate_succ, Array.replicate_zero, List.push_toArray, List.append_toArray, List.nil_append, List.cons_append]
  gi_wp2_with fail
  refine CallsIn.mono (callsIn_wide.2 (often_calls (H := H) A0 c0 l0 _ (Kd.C_alloc HR.out _) HW.out hl)) ?_
  rintro e w1 ⟨rfl, hown1, hb1⟩
  have HO1 := Aside0.mk hown1
  have HB1 := Aside0.mk hb1
  clear hown1 hb1
  gi_wp2_with fail
  refine CallsIn.mono (all_in Fence.wide _ trivial hro _ _) ?_
  rintro e w2 ⟨rfl, rfl⟩
  gi_wp2_with fail
  have hbl1 := HB1.out.size
  simp only [World.size_alloc] at hbl1
  have hB0 : Below w.heap.size w ((w1.alloc (.cells #[.map (some (w.alloc (.cells #[.slice none 0 0] 23)).heap.size)] 33))) :=
    (below_step (below_alloc (Below.refl _ _) _) HB1.out).alloc (by omega) _
  have bO1 : Boxed w1 w.heap.size 23 (.slice none 0 0) := (HB1.out.block w.heap.size (by simp)).trans (Boxed.new w 23 (.slice none 0 0))
  have bO := bO1.alloc (.cells #[.map (some (w.alloc (.cells #[.slice none 0 0] 23)).heap.size)] 33)
  have bN := Boxed.new w1 33 (.map (some (w.alloc (.cells #[.slice none 0 0] 23)).heap.size))
  have hownN := HO1.out.alloc (.cells #[.map (some (w.alloc (.cells #[.slice none 0 0] 23)).heap.size)] 33)
  have hmb : (w.alloc (.cells #[.slice none 0 0] 23)).heap.size = w.heap.size + 1 := by simp
  rw [hmb] at hB0 bO bN hownN
  have hlW : w.heap.size < (w1.alloc (.cells #[.map (some (w.heap.size + 1))] 33)).heap.size := by simp; omega
  obtain ⟨W0, hW0⟩ : ∃ W0, w1.alloc (.cells #[.map (some (w.heap.size + 1))] 33) = W0 := ⟨_, rfl⟩
  have hBm : w1.heap.size < W0.heap.size := by rw [← hW0]; simp
  rw [hW0] at hB0 bO bN hownN hlW ⊢
  clear HO1 HB1 bO1 hmb
  refine wpIn_rangeFunc_ownG hro h1 (gf := 21) (lb := #[.pointer (some ⟨w1.heap.size, 0, none⟩)]) rfl trivial (enters_of Try.func21 (by kernel_rfl) rfl)
    (seqStopsA_iff.1 (all_stops Fence.wide (n - 1) trivial hro (by omega) w1.heap.size (w.heap.size + 1) l0.length (oftenD (H := H) l0) W0 hBm bN.cell hownN)) walksK_t walksK_b (Below.refl _ _) (fun _ => rfl)
    (fun pre W => (∃ v, Boxed W w.heap.size 23 v ∧ W.ownsRow w.heap.size 25 2 v pre.length (pre.flatMap encP) ∧ True) ∧ Below w.heap.size w W)
    (fun _ _ _ => False)
    (OwnFrom.and (Own.from (holdsRow_own w.heap.size w.heap.size 23 25 2 (fun (pre : List (Int × Int)) => pre.length) (fun pre => pre.flatMap encP) (fun _ _ => True)) _) (ownFrom_below (Nat.le_refl _) (by omega)))
    (fun _ _ _ _ _ hs _ _ => hs)
    ⟨⟨_, bO, World.ownsRow_nil _ _ _ _, trivial⟩, hB0⟩
    (fun x => { tmps := #[.slice A0 l0.length c0, undef, .slice none 0 0, .pointer (some ⟨w.heap.size, 0, none⟩), .int .i64 x.1, .int .i64 x.2, .slice A0 l0.length c0, .map (some (w.heap.size + 1)), .func (.func 21) #[] #[.pointer (some ⟨w1.heap.size, 0, none⟩)], .int .i64 x.1, .int .i64 x.2, undef, undef, undef, undef, undef, undef, undef, undef, undef], defers := [] }) ?assign ?body ?done ?stop
  case assign =>
    intro l x W K hK
    gi_wp2
    exact hK
  case body =>
    rintro l pre x W ⟨⟨v, hv, hrow, _⟩, hB⟩ hlt
    have hc := hv.cell
    have hpl := flatP_length pre
    gi_wp2_with (gi_at_builtin; refine wpListIn_append_own _ rfl _ _ 23 rfl w.heap.size 25 i0 (.agg #[.int .i64 0, .int .i64 0]) 2 16 Try.underlying23 hi hz0 hz1 hz2 rfl (by decide) _ _ _ rfl (hrow.alloc _) ⟨W.heap.size, 0, none⟩ 1 1 [.int .i64 x.1, .int .i64 x.2] rfl rfl (by simpa using World.news_of_block (cs := #[.int .i64 x.1, .int .i64 x.2]) (t := 25) (fr := (0, 0)) (heap_alloc_new W (.cells #[.int .i64 x.1, .int .i64 x.2] 25))) (by simp [Value.oneCell']) (by unfold maxLen; omega) (by omega) (by have := hB.size; simp; omega) ?_; intro v' w1 hown' hgrow _; obtain ⟨g', cap', rfl⟩ := ownsRow_succ hown'; obtain ⟨hv1, hv2, hr2, hk2, hb2⟩ := hv.appended (by decide) hrow hB.size (Nat.le_refl _) hown' hgrow; have hc1 := hv1.cell; have hf1 := hv1.frozen)
    exact ⟨hk2.from _, hk2.walks, ⟨_, hv2, by simpa [encP] using hr2, trivial⟩, hB.trans hb2⟩
  case done =>
    rintro D ps W hD hS ⟨⟨v, hv, hrow, _⟩, hB⟩ hK
    have hc := hv.cell
    gi_wp2_with fail
    by_cases hz : ps.length = 0
    · obtain rfl : ps = [] := List.length_eq_zero_iff.1 hz
      obtain ⟨p, cap, rfl⟩ : ∃ p cap, v = .slice p 0 cap := by
        rcases hrow.2 with ⟨rfl, _⟩ | ⟨g, cap, cur, rfl, _⟩
        · exact ⟨_, _, rfl⟩
        · exact ⟨_, _, rfl⟩
      have hS := AnyF.slices_SortFunc_none Try.sortP p cap (.func (.func 14) #[] #[]) W
      change Calls Try.prog 13 _ _ _ at hS
      refine CallsIn.mono (callsIn_wide.2 hS) ?_
      rintro e w' ⟨rfl, rfl⟩
      clear hS
      gi_wp2_with fail
      refine ⟨by simp, .inl ⟨_, _, rfl, run_takeDeferred hK, ?_⟩⟩
      exact ⟨_, results_tmp rfl _ _ _, _, [], [], rfl, hS, List.Perm.refl _, List.Pairwise.nil, ownsRow_putObj hrow _ hK rfl, hB.trans (belowK_b (w := w) (Nat.le_refl _) w' D _ _ (by omega) hK rfl rfl)⟩
    · obtain ⟨g, cap, rfl, hbase, hlt⟩ := hrow.form (by omega)
      obtain ⟨hH, hg⟩ := holdsK_owned (enc := encP) (k := 2) (fun _ => rfl) hrow
      have eg : ∀ args w, (callFunc 14 args).run Try.prog w = .ok (.enter 14 args) w := enters_of Try.func14 (by kernel_rfl) rfl
      obtain ⟨cg, hcg⟩ := own_typed hrow g rfl
      have hne : g ≠ w.heap.size := fun h => (hv.not_row (by decide) hrow) (by rw [h]; rfl)
      have hsize := allOf_length l0 ps hS
      have hSo := AnyQ.slices_SortFunc Try.sortP 2 Try.isAgg25 Try.sizeOf25 encP (fun _ => rfl) (fun x v hv => by simp [encP] at hv; rcases hv with rfl | rfl <;> rfl) (fun x y => cmpI x.1 y.1) swoP 14 #[] g 0 cap ps.toArray W eg (cmpLays g 0 ps.toArray.size W) hH hg (by simp; omega)
      change Calls Try.prog 13 _ _ _ at hSo
      rw [show ps.toArray.size = ps.length from by simp] at hSo
      refine CallsIn.mono (callsIn_wide.2 hSo) ?_
      rintro e w' ⟨rfl, d', nd, os, hp, hs, rfl⟩
      clear hSo eg
      obtain ⟨hp', hsz'⟩ := perm_list (d := ps.toArray) (by simpa using hp)
      have hs' := sorted_list (d := d') (by rw [hsz']; simpa using hs)
      have hlen : d'.toList.length = ps.length := by simpa using hsz'
      have hown2 := owned_sortedK (enc := encP) (k := 2) (n := nd) (os := os) (ys := d'.toList) (fun _ => rfl) hlen hrow
      have hgr := grownBy_sortedK encP 2 (w := W) (g := g) (n := nd) (os := os) d'
      rw [Array.toArray_toList] at hown2
      obtain ⟨W2, hW2⟩ : ∃ W2, sortWorldK encP 2 W g 0 nd d' os = W2 := ⟨_, rfl⟩
      rw [hW2] at hown2 hgr ⊢
      have hv2 := hv.kept hgr (by intro h; injection h with h; exact hne h.symm)
      have hB2 := hB.grown hgr hB.size (fun k e => by cases e; exact hbase)
      have hc2 := hv2.cell
      have hK2 : W2.heap[D]? = some (.deferred (some [])) := (hgr.block D (Array.getElem?_eq_some_iff.1 hK).1 (by intro h; injection h with h; subst h; rw [hcg] at hK; cases hK)).trans hK
      clear hc
      gi_wp2_with fail
      refine ⟨by simp, .inl ⟨_, _, rfl, run_takeDeferred hK2, ?_⟩⟩
      refine ⟨_, results_tmp rfl _ _ _, _, ps, d'.toList, rfl, hS, by simpa using hp', ?_, by rw [← hlen]; exact ownsRow_putObj hown2 _ hK2 rfl, hB2.trans (belowK_b (w := w) (Nat.le_refl _) W2 D _ _ (by omega) hK2 rfl rfl)⟩
      exact hs'.imp (fun {x y} h => by rw [ltP] at h; simpa using h)
  case stop =>
    rintro D c pre W _ _ h _
    exact h.elim
end Go.Proofs.Ytoonbiifkalamaa

namespace Go.Proofs.Ytoonbiifkalamaa.PAll
open Go.RowKit Go.Maps Go.Proofs.YtoonbiifkalamaaW.PrintWords Go.Proofs.YtoonbiifkalamaaW.PrintLast Go.Proofs.YtoonbiifkalamaaW.PrintMore
/-- A number put in among rising ones, if it is not there. -/
def ins (x : Int) : List Int → List Int
  | [] => [x]
  | y :: r => if y < x then y :: ins x r else if y = x then y :: r else x :: y :: r
def keysOf (l : List Int) : List Int := l.foldl (fun acc x => ins x acc) []
theorem mem_ins (x z : Int) (l : List Int) : z ∈ ins x l ↔ z = x ∨ z ∈ l := by
  induction l with
  | nil => simp [ins]
  | cons y r ih =>
    unfold ins
    split
    · simp only [List.mem_cons, ih]
      constructor
      · rintro (h | h | h)
        · exact .inr (.inl h)
        · exact .inl h
        · exact .inr (.inr h)
      · rintro (h | h | h)
        · exact .inr (.inl h)
        · exact .inl h
        · exact .inr (.inr h)
    · split
      · rename_i e
        subst e
        simp
      · simp
theorem ins_rises (x : Int) (l : List Int) (h : l.Pairwise (· < ·)) : (ins x l).Pairwise (· < ·) := by
  induction l with
  | nil => simp [ins]
  | cons y r ih =>
    rw [List.pairwise_cons] at h
    unfold ins
    split
    · rw [List.pairwise_cons]
      refine ⟨fun z hz => ?_, ih h.2⟩
      rcases (mem_ins x z r).1 hz with e | e
      · omega
      · exact h.1 z e
    · split
      · rw [List.pairwise_cons]; exact h
      · rw [List.pairwise_cons, List.pairwise_cons]
        refine ⟨fun z hz => ?_, h⟩
        rcases List.mem_cons.1 hz with e | e
        · omega
        · have := h.1 z e; omega
theorem keysOf_snoc (l : List Int) (x : Int) : keysOf (l ++ [x]) = ins x (keysOf l) := by simp [keysOf]
theorem keysOf_rises (l : List Int) : (keysOf l).Pairwise (· < ·) := by
  have key : ∀ r : List Int, (keysOf r.reverse).Pairwise (· < ·) := by
    intro r
    induction r with
    | nil => exact List.Pairwise.nil
    | cons x r ih => rw [List.reverse_cons, keysOf_snoc]; exact ins_rises x _ ih
  have h := key l.reverse
  rwa [List.reverse_reverse] at h
theorem mem_keysOf (l : List Int) (z : Int) : z ∈ keysOf l ↔ z ∈ l := by
  have key : ∀ r : List Int, z ∈ keysOf r.reverse ↔ z ∈ r := by
    intro r
    induction r with
    | nil => simp [keysOf]
    | cons x r ih => rw [List.reverse_cons, keysOf_snoc, mem_ins, ih, List.mem_cons]
  have h := key l.reverse
  rw [List.reverse_reverse] at h
  rw [h, List.mem_reverse]
/-- Rising rows with the same numbers are the same. -/
theorem rising_unique : ∀ (a b : List Int), a.Pairwise (· < ·) → b.Pairwise (· < ·) → (∀ x, x ∈ a ↔ x ∈ b) → a = b
  | [], [], _, _, _ => rfl
  | [], y :: b, _, _, h => by have := (h y).2 List.mem_cons_self; simp at this
  | x :: a, [], _, _, h => by have := (h x).1 List.mem_cons_self; simp at this
  | x :: a, y :: b, ha, hb, h => by
    rw [List.pairwise_cons] at ha hb
    have e : x = y := by
      rcases List.mem_cons.1 ((h x).1 List.mem_cons_self) with e | e
      · exact e
      · rcases List.mem_cons.1 ((h y).2 List.mem_cons_self) with e' | e'
        · exact e'.symm
        · have := hb.1 x e; have := ha.1 y e'; omega
    subst e
    rw [rising_unique a b ha.2 hb.2 (fun z => by
      constructor
      · intro hz
        rcases List.mem_cons.1 ((h z).1 (List.mem_cons_of_mem _ hz)) with e | e
        · have := ha.1 z hz; omega
        · exact e
      · intro hz
        rcases List.mem_cons.1 ((h z).2 (List.mem_cons_of_mem _ hz)) with e | e
        · have := hb.1 z hz; omega
        · exact e)]
def countsOf (l : List Int) : List S25 := (keysOf l).map fun n => ⟨n, l.count n⟩
def intern_Counts.f (l0 : List Int) : Option ((List (S25))) := if l0.length ≤ 1000 ∧ (∀ n ∈ l0, (Lit.int .i64 n).wf = true) then some (countsOf l0) else none
theorem intern_Counts.calls (A0 : Option Addr) (c0 : Nat) (l0 : List Int) (r : List (S25)) (w : World) (hr0 : Kd.C (Kd.int .i64) w A0 l0.length l0) (hc0 : l0.length ≤ c0) (h : intern_Counts.f l0 = some r) :
    Calls Try.prog 5 #[.slice A0 l0.length c0] w fun e w' => ∃ v0_ : Value, e = .returned (v0_) ∧ Kd.R k25 25 w' w.heap.size (fun _ => True) v0_ r ∧ Below w.heap.size w w' := by
  unfold intern_Counts.f at h
  split at h
  · rename_i hg
    obtain rfl := Option.some.inj h
    refine (callsIn_wide.1 (counts_in (H := Unit) 9 (Nat.le_refl _) A0 c0 l0 w hr0 hg.2 hg.1)).mono ?_
    rintro e w' ⟨v, ps, d, rfl, hall, hp, hs, hown, hb⟩
    have hd : d.map (fun p => (⟨p.1, p.2⟩ : S25)) = countsOf l0 := by
      have hk : d.map (·.1) = keysOf l0 := by
        refine rising_unique _ _ ?_ (keysOf_rises _) (fun x => ?_)
        · have hnd : (d.map (·.1)).Nodup := (hp.map (·.1)).nodup_iff.2 hall.1
          rw [List.pairwise_map]
          have hnd' : d.Pairwise (fun x y => x.1 ≠ y.1) := by rw [List.nodup_iff_pairwise_ne, List.pairwise_map] at hnd; exact hnd
          exact (hs.and hnd').imp (fun {x y} h => by have := h.1; have := h.2; omega)
        · rw [(hp.map (·.1)).mem_iff, hall.2.1 x, (tidy_often l0).2.2 x, mem_keysOf]
          simp
      unfold countsOf
      rw [← hk, List.map_map]
      refine List.map_congr_left (fun p hpd => ?_)
      have hv := hall.2.2 p (hp.mem_iff.1 hpd) (.lit (.int .i64 0))
      rw [often_at l0 p.1 hg.1] at hv
      injection hv with hv
      injection hv with _ hv
      simp only [Function.comp]
      rw [hv]
    rw [← hd]
    refine ⟨v, rfl, ⟨fun _ _ => trivial, d.flatMap encP, by rw [List.length_map]; exact hown, ?_⟩, hb⟩
    refine ⟨by rw [flatP_length, List.length_map]; rfl, fun j p hj => ?_⟩
    rw [List.getElem?_map] at hj
    obtain ⟨q, hq, rfl⟩ := Option.map_eq_some_iff.1 hj
    have hseg : ((d.flatMap encP).drop (j * 2)).take 2 = encP q := by
      clear hj hd hown hs hp
      induction d generalizing j with
      | nil => simp at hq
      | cons x d ih =>
        cases j with
        | zero => simp at hq; subst hq; simp [encP]
        | succ j => simp at hq; rw [List.flatMap_cons, show (j + 1) * 2 = 2 + j * 2 by omega, ← List.drop_drop]; simpa [encP] using ih j hq
    show k25.M _ _ _ _ (((d.flatMap encP).drop (j * 2)).take 2)
    rw [hseg]
    exact k25_mkM _ _ _ _
  · cases h
end Go.Proofs.Ytoonbiifkalamaa.PAll
