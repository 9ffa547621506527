/- The labels of a counting map, gathered through iterators: maps.Keys, slices.AppendSeq, slices.Collect. -/
import Derived.Test.YtceidmhniofapaaTOrder
import Derived.Shelf.AbstractIn
import Derived.RangeFuncMany
import Derived.RangeFuncBox
import Derived.RangeFuncNested
import Derived.RangeFuncBound
import Derived.RangeFuncCalls
import Derived.RangeFuncLeaves
import Derived.Sort.MapsRangeIn
import Derived.OwnWalkIn
import Derived.TacticsInMore
import Derived.RegionIn
import Derived.LoopNIn
import Derived.LoopIn
import Derived.Shelf.Abstract
import Derived.Shelf.RegionOpen
import Derived.Lib.SlKeysI
namespace Go.Proofs.Ytceidmhniofapaa.PAll
open Go.RowKit Go.Maps Go.Sort Go.Shelf Go.Proofs.YtceidmhniofapaaW.PrintWords
abbrev encL (x : S25) : Value := .agg #[.int .i64 x.f0, .int .u64 x.f1]
theorem encL_inj {x y : S25} (h : encL x = encL y) : x = y := by
  cases x; cases y
  simp only [encL, Value.agg.injEq, Array.mk.injEq, List.cons.injEq, Value.int.injEq] at h
  obtain ⟨⟨_, h1⟩, ⟨_, h2⟩, _⟩ := h
  rw [h1, h2]
/-- What reads as a key of this type is a label. -/
theorem keyOfL_inv {v : Value} {kl : Lit} (h : keyOf Try.prog 25 v = some kl) : ∃ x, v = encL x ∧ wfL x ∧ kl = keyL x := by
  have hu := Try.underlying25
  obtain ⟨m, hm⟩ : ∃ m, Try.prog.types.size = m + 1 := Nat.exists_eq_add_one_of_ne_zero (Nat.ne_of_gt (Nat.lt_of_le_of_lt (Nat.zero_le _) rowL))
  unfold keyOf at h
  rw [hu] at h
  simp only [keyTypeL, hm, Bool.true_and] at h
  have c0 : Try.prog.cellsOf 3 = 1 := by kernel_rfl
  have c1 : Try.prog.cellsOf 23 = 1 := by kernel_rfl
  split at h
  · rename_i hf
    obtain ⟨cs, rfl, hcs⟩ : ∃ cs : Array Value, v = .agg cs ∧ cs.size = 2 := by
      cases v <;> simp [Value.formed, hu, cellsL] at hf
      exact ⟨_, rfl, hf⟩
    obtain ⟨l⟩ := cs
    match l, hcs with
    | [a, b], _ =>
      obtain ⟨ls, hls, rfl⟩ := Option.map_eq_some_iff.1 h
      unfold Program.keyLits at hls
      rw [hu] at hls
      simp only [Value.cells, List.length_cons, List.length_nil, cellsL, c0, c1] at hls
      rcases ha : Try.prog.keyLits (m + 1) 3 [a] with _ | la
      · simp [c0, c1, ha] at hls
      rcases hb : Try.prog.keyLits (m + 1) 23 [b] with _ | lb
      · simp [c0, c1, ha, hb] at hls
      simp [c0, c1, ha, hb] at hls
      subst hls
      have e0 : ∃ n, a = .int .i64 n ∧ (Lit.int .i64 n).wf = true ∧ la = [.int .i64 n] := by
        unfold Program.keyLits at ha
        rw [Try.underlying3] at ha
        split at ha <;> simp_all
      have e1 : ∃ n, b = .int .u64 n ∧ (Lit.int .u64 n).wf = true ∧ lb = [.int .u64 n] := by
        unfold Program.keyLits at hb
        rw [Try.underlying23] at hb
        split at hb <;> simp_all
      obtain ⟨n, rfl, hn, rfl⟩ := e0
      obtain ⟨k, rfl, hk, rfl⟩ := e1
      exact ⟨⟨n, k⟩, rfl, ⟨hn, hk⟩, rfl⟩
  · cases h

/-- Labels that were gathered from a map's keys, those of 'left' not yet. -/
def CollL (D0 : DataW Unit) (left : Lit → Bool) (ss : List S25) : Prop := ss.Nodup ∧ (∀ x ∈ ss, wfL x) ∧ ∀ x, wfL x → (x ∈ ss ↔ (has D0 (keyL x) = true ∧ left (keyL x) = false))
theorem CollL.start (D0 : DataW Unit) : CollL D0 (has D0) [] := ⟨List.nodup_nil, fun x h => (List.not_mem_nil h).elim, fun x _ => by cases has D0 (keyL x) <;> simp⟩
theorem CollL.step {D0 : DataW Unit} {left : Lit → Bool} {ss : List S25} (h : CollL D0 left ss) {x : S25} (hx : wfL x) {y : DataW Unit} (hlk : left (keyL x) = true) (hat : ∀ zd, D0.atKey (keyL x) zd = y) :
    CollL D0 (fun z => left z && !z.sameKey (keyL x)) (ss ++ [x]) := by
  have hhas : has D0 (keyL x) = true := has_true_of_atKey hat
  have hnew : x ∉ ss := fun hm => by have := ((h.2.2 x hx).1 hm).2; rw [hlk] at this; cases this
  refine ⟨List.nodup_append.2 ⟨h.1, by simp, fun a ha b hb => by simp at hb; subst hb; exact fun e => hnew (e ▸ ha)⟩, fun z hz => ?_, fun z hz => ?_⟩
  · rcases List.mem_append.1 hz with hz | hz
    · exact h.2.1 z hz
    · rw [List.mem_singleton.1 hz]; exact hx
  · show z ∈ ss ++ [x] ↔ has D0 (keyL z) = true ∧ (left (keyL z) && !(keyL z).sameKey (keyL x)) = false
    by_cases e : z = x
    · subst e
      have : (keyL z).sameKey (keyL z) = true := by unfold keyL; simp [Lit.sameKey]
      simp [hhas, this]
    · rw [List.mem_append, List.mem_singleton, h.2.2 z hz, sameKey_ne (fun e' => e (keyL_inj hz hx e'))]
      simp [e]
def AllK (D0 : DataW Unit) (ps : List S25) : Prop := CollL D0 (fun _ => false) ps
abbrev encs1 (x : S25) : Array Value := #[encL x]

set_option maxRecDepth 100000 in
set_option maxHeartbeats 1000000 in
/-- maps.Keys's iterator, for every loop body. -/
theorem keys1_in (F : Fence) (n : Nat) (h8 : F.fn 27) (hro : F.round = none) (hn : 1 ≤ n) (l Bm b nn : Nat) (D0 : DataW Unit) (J Jx : List S25 → World → Prop)
    (hY : ∀ pre x W, J pre W → pre.length < Maps.size D0 → YieldAt F (n - 1) Try.prog l (encs1 x) W fun e W' =>
      (e = .returned (.bool true) ∧ J (pre ++ [x]) W' ∧ KeepsWalks W W') ∨ (e = .returned (.bool false) ∧ Jx (pre ++ [x]) W'))
    (W : World) (hJ : AbidesFrom W.heap.size J) (hm : W.cell? ⟨Bm, 0, none⟩ = some (.map (some b))) (hown : W.ownsMap Try.prog 25 (plainElem Try.prog 3) b nn D0) (h0 : J [] W) :
    CallsIn F n Try.prog 27 #[.func (.yield l) #[] #[], .pointer (some ⟨Bm, 0, none⟩)] W fun e W' => (∃ v, e = .returned v) ∧
      ((∃ ps, AllK D0 ps ∧ J ps W') ∨ (∃ pre, True ∧ Jx pre W')) := by
  refine callsIn_of_wp Try.func27 rfl h8 ?_ hro
  simp only [Try.ntmps27, List.size_toArray, List.length_cons, List.length_nil, Nat.reduceAdd, Nat.reduceSub, Array.replicate_succ, Array.replicate_zero, List.push_toArray, List.append_toArray, List.nil_append, List.cons_append]
  gi_wp2_with (first
    | (gi_at_range; refine wpListIn_range_own _ rfl _ 42 rfl 25 3 lawL Try.underlying42 _ b nn _ rfl hown ?_; intro w0 hrg0 hg0 hs0)
    | gi_in)
  go_frame
  gi_loopw [3] (fun _ wr => ∃ (left : Lit → Bool) (cnt : Nat) (ps : List S25), wr.ranges Try.prog 25 (plainElem Try.prog 3) b W.heap.size nn D0 left cnt ∧ ps.length + cnt ≤ Maps.size D0 ∧ CollL D0 left ps ∧ J ps wr)
    (fun _ wr => wr.rangeLeft b W.heap.size)
  case atStart =>
    exact ⟨_, _, [], hrg0, by simp, CollL.start D0, hJ [] W w0 none h0 hg0 (fun r e => by cases e)⟩
  case round =>
    obtain ⟨left, cnt, ps, hrg, hcs, hC, hJs⟩ := hrel
    gi_wp2_with (first
      | (gi_at_next; refine wpListIn_next_ranges _ rfl _ rfl 25 lawL (plainElem Try.prog 3) encL (Value.int .i64) (fun key kl hk => by obtain ⟨x, hx, _⟩ := keyOfL_inv hk; exact ⟨x, hx⟩) (fun v y hv => by obtain ⟨c, rfl, _⟩ := plainElem_int_inv Try.underlying3 hv; exact ⟨c, rfl⟩) b W.heap.size nn _ _ _ rfl hrg ?_ ?_)
      | gi_in)
    · intro hc0 hl0
      gi_wp2
      go_end0
      exact ⟨⟨_, rfl⟩, .inl ⟨ps, ⟨hC.1, hC.2.1, fun x hx => by rw [hC.2.2 x hx, hl0]⟩, hJs⟩⟩
    · intro x c kl yd yp w2 cnt2 hkey hlk hv hat hrg2 hlt hg2 hs2 hen
      obtain ⟨x', ex, hwx, rfl⟩ := keyOfL_inv hkey
      obtain rfl : x = x' := encL_inj ex
      obtain ⟨c', ec, ez, _⟩ := plainElem_int_inv Try.underlying3 hv
      obtain rfl : c = c' := by simpa using ec
      obtain rfl : yd = .lit (.int .i64 c) := (Prod.mk.inj ez).1
      have hJ2 : J ps w2 := hJ ps wr w2 (some W.heap.size) hJs hg2 (fun r e => by cases e; exact ⟨Nat.le_refl _, hrg.iter_walk⟩)
      have hJ3 := hJ ps w2 (w2.alloc (.cells #[.int .i64 x.f0, .int .u64 x.f1] 25)) none hJ2 (World.grownBy_alloc w2 _ none) (fun r e => by cases e)
      obtain ⟨fn, tmps, assign, body, hy, hR⟩ := hY ps x _ hJ3 (by omega)
      dsimp only [encs1] at hy
      have hrgA := hrg2.of_walks (KeepsWalks.alloc w2 (.cells #[.int .i64 x.f0, .int .u64 x.f1] 25))
      clear hs2
      gi_wp2
      refine hR.mono ?_
      have hC2 : CollL D0 (fun z => left z && !z.sameKey (keyL x)) (ps ++ [x]) := hC.step hwx hlk hat
      rintro e W3 (⟨rfl, hJ3, hk3⟩ | ⟨rfl, hJx3⟩)
      · gi_wp2
        have hrg3 := hrgA.of_walks hk3
        go_roundw
        case rel => exact ⟨_, cnt2, ps ++ [x], hrg3, by simp; omega, hC2, hJ3⟩
        case measure => rw [hrg3.left_eq, hrg.left_eq]; exact hlt
      · gi_wp2
        refine bodyPost_ret (results_none rfl _ _ _) rfl ?_
        exact ⟨⟨_, rfl⟩, .inr ⟨ps ++ [x], trivial, hJx3⟩⟩
set_option maxHeartbeats 1000000 in
theorem keys_in (F : Fence) (n : Nat) (hf : F.fn 18) (hro : F.round = none) (mb : Option Nat) (w : World) :
    CallsIn F n Try.prog 18 #[.map mb] w fun e w' => e = .returned (.func (.func 27) #[] #[.pointer (some ⟨w.heap.size, 0, none⟩)]) ∧ w' = w.alloc (.cells #[.map mb] 42) := by
  refine callsIn_of_wp Try.func18 rfl hf ?_ hro
  simp only [Try.ntmps18, List.size_toArray, List.length_cons, List.length_nil, Nat.reduceAdd, Nat.reduceSub, Array.replicate_succ, Array.replicate_zero, List.push_toArray, List.append_toArray, List.nil_append, List.cons_append]
  gi_wp2
  go_ret
  exact ⟨rfl, rfl⟩
theorem keys_stops (F : Fence) (n : Nat) (h8 : F.fn 27) (hro : F.round = none) (hn : 1 ≤ n) (Bm b nn : Nat) (D0 : DataW Unit) (w : World) (hBm : Bm < w.heap.size)
    (hm : w.cell? ⟨Bm, 0, none⟩ = some (.map (some b))) (hown : w.ownsMap Try.prog 25 (plainElem Try.prog 3) b nn D0) :
    SeqStopsA F n Try.prog 27 #[.pointer (some ⟨Bm, 0, none⟩)] encs1 (AllK D0) (fun _ => True) (Maps.size D0) w := fun l J Jx W hW hJ _ hY h0 => by
  have hown' : W.ownsMap Try.prog 25 (plainElem Try.prog 3) b nn D0 := by
    have hbl := hown.lt
    obtain ⟨es, clock, hb, Ft, hs, hD⟩ := hown
    exact ⟨es, clock, (hW.block b hbl).trans hb, Ft, hs, hD⟩
  exact keys1_in F n h8 hro hn l Bm b nn D0 J Jx hY W hJ ((hW.cell (p := ⟨Bm, 0, none⟩) hBm).trans hm) hown' h0
abbrev encC (x : S25) : List Value := [.int .i64 x.f0, .int .u64 x.f1]
theorem flatC_length (l : List S25) : (l.flatMap encC).length = l.length * 2 := by
  induction l with
  | nil => rfl
  | cons x l ih => rw [List.flatMap_cons, List.length_append, ih]; simp [encC]; omega
attribute [local go_sem] Oper.semAt_some
set_option maxRecDepth 100000 in
set_option maxHeartbeats 2000000 in
/-- slices.AppendSeq of no slice and a map's keys. -/
theorem appendSeq_in (n : Nat) (hn : 9 ≤ n) (Bm b nn : Nat) (hnn : nn ≤ 1000) (D0 : DataW Unit) (w : World) (hBm : Bm < w.heap.size) (hm : w.cell? ⟨Bm, 0, none⟩ = some (.map (some b))) (hown : w.ownsMap Try.prog 25 (plainElem Try.prog 3) b nn D0) :
    CallsIn Fence.wide n Try.prog 31 #[.slice none 0 0, .func (.func 27) #[] #[.pointer (some ⟨Bm, 0, none⟩)]] w fun e W' =>
      ∃ (v : Value) (ps : List S25), e = .returned v ∧ AllK D0 ps ∧ W'.ownsRow w.heap.size 25 2 v ps.length (ps.flatMap encC) ∧ Below w.heap.size w W' := by
  have hsz := hown.size_le
  have hro : Fence.wide.round = none := rfl
  have h1 : 1 ≤ n := by omega
  obtain ⟨i0, hi, hz0, hz1, hz2⟩ := info_parts info25
  refine callsIn_of_wp_marks Try.func31 rfl trivial ?_ hro
  simp only [Try.ntmps31, List.size_toArray, List.length_cons, List.length_nil, Nat.reduceAdd, Nat.reduceSub, Array.replicate_succ, Array.replicate_zero, List.push_toArray, List.append_toArray, List.nil_append, List.cons_append]
  gi_wp2_with fail
  have hB0 : Below w.heap.size w (w.alloc (.cells #[.slice none 0 0] 44)) := (Below.refl _ _).alloc (Nat.le_refl _) _
  have bO := Boxed.new w 44 (.slice none 0 0)
  have hownN := hown.alloc (.cells #[.slice none 0 0] 44)
  have hmN : (w.alloc (.cells #[.slice none 0 0] 44)).cell? ⟨Bm, 0, none⟩ = some (.map (some b)) := (hB0.cell (p := ⟨Bm, 0, none⟩) hBm).trans hm
  obtain ⟨W0, hW0⟩ : ∃ W0, w.alloc (.cells #[.slice none 0 0] 44) = W0 := ⟨_, rfl⟩
  have hs0 : W0.heap.size = w.heap.size + 1 := by rw [← hW0]; simp
  rw [hW0] at hB0 bO hownN hmN ⊢
  refine wpIn_rangeFunc_ownH hro h1 (gf := 27) (lb := #[.pointer (some ⟨Bm, 0, none⟩)]) rfl trivial (enters_of Try.func27 (by kernel_rfl) rfl)
    (seqStopsA_iff.1 (keys_stops Fence.wide (n - 1) trivial hro (by omega) Bm b nn D0 W0 (by omega) hmN hownN)) walksK_t walksK_b (Below.refl _ _) (fun _ => rfl)
    (fun pre W => (∃ v, Boxed W w.heap.size 44 v ∧ W.ownsRow w.heap.size 25 2 v pre.length (pre.flatMap encC) ∧ True) ∧ Below w.heap.size w W)
    (fun _ _ _ => False)
    (OwnFrom.and (Own.from (holdsRow_own w.heap.size w.heap.size 44 25 2 (fun (pre : List S25) => pre.length) (fun pre => pre.flatMap encC) (fun _ _ => True)) _) (ownFrom_below (Nat.le_refl _) (by omega)))
    (fun _ _ _ _ _ hs _ _ => hs)
    ⟨⟨_, bO, World.ownsRow_nil _ _ _ _, trivial⟩, hB0⟩
    (fun x a' W => ∃ p : Nat, w.heap.size < p ∧ a' = { tmps := #[.slice none 0 0, .func (.func 27) #[] #[.pointer (some ⟨Bm, 0, none⟩)], .pointer (some ⟨w.heap.size, 0, none⟩), undef, .slice none 0 0, .pointer (some ⟨p, 0, none⟩), .func (.func 27) #[] #[.pointer (some ⟨Bm, 0, none⟩)], encL x, undef, undef, undef, undef, undef], defers := [] } ∧
      W.heap[p]? = some (.cells #[.int .i64 x.f0, .int .u64 x.f1] 25 (0, 0)))
    ?hAx ?assign ?body ?done ?stop
  case hAx =>
    rintro x a' _ A B row ⟨p, hp, ha, hc⟩ hg hr
    refine ⟨p, hp, ha, (hg.block p (Array.getElem?_eq_some_iff.1 hc).1 (fun e => ?_)).trans hc⟩
    obtain ⟨_, o, ho, hoc⟩ := hr p e.symm
    rw [hc] at ho; cases ho; cases hoc
  case assign =>
    intro l pre x W K hI hK
    have hBI := hI.2.size
    gi_wp2
    have hI3 := hI.1
    obtain ⟨v, hv, hrow, _⟩ := hI3
    exact hK _ _ ((KeepsOthers.alloc W _).from _) (KeepsWalks.alloc W _) ⟨⟨v, hv.alloc _, hrow.alloc _, trivial⟩, hI.2.alloc hI.2.size _⟩ ⟨W.heap.size, Nat.lt_of_lt_of_le hv.lt (Nat.le_refl _), rfl, heap_alloc_new W _⟩
  case body =>
    rintro l pre x a' W hl _ ⟨⟨v, hv, hrow, _⟩, hB⟩ ⟨p, hp, rfl, hpc⟩ hlt
    have hc := hv.cell
    have hpl := flatC_length pre
    have hc0 : W.cell? ⟨p, 0, none⟩ = some (.int .i64 x.f0) := by simp [World.cell?, hpc]
    have hc1 : W.cell? ⟨p, 1, none⟩ = some (.int .u64 x.f1) := by simp [World.cell?, hpc]
    gi_wp2_with (gi_at_builtin; refine wpListIn_append_own _ rfl _ _ 44 rfl w.heap.size 25 i0 (.agg #[.int .i64 0, .int .u64 0]) 2 16 Try.underlying44 hi hz0 hz1 hz2 rfl (by decide) _ _ _ rfl (hrow.alloc _) ⟨W.heap.size, 0, none⟩ 1 1 [.int .i64 x.f0, .int .u64 x.f1] rfl rfl (by simpa using World.news_of_block (cs := #[.int .i64 x.f0, .int .u64 x.f1]) (t := 25) (fr := (0, 0)) (heap_alloc_new W (.cells #[.int .i64 x.f0, .int .u64 x.f1] 25))) (by simp [Value.oneCell']) (by unfold maxLen; omega) (by omega) (by have := hB.size; simp; omega) ?_; intro v' w1 hown' hgrow _; obtain ⟨g', cap', rfl⟩ := ownsRow_succ hown'; obtain ⟨hv1, hv2, hr2, hk2, hb2⟩ := hv.appended (by decide) hrow hB.size (Nat.le_refl _) hown' hgrow; have hc1 := hv1.cell; have hf1 := hv1.frozen)
    exact ⟨hk2.from _, hk2.walks, ⟨_, hv2, by simpa [encC] using hr2, trivial⟩, hB.trans hb2⟩
  case done =>
    rintro D ps W hD hS ⟨⟨v, hv, hrow, _⟩, hB⟩ hK
    have hc := hv.cell
    gi_wp2_with fail
    refine ⟨by simp, .inl ⟨_, _, rfl, run_takeDeferred hK, ?_⟩⟩
    exact ⟨_, results_tmp rfl _ _ _, _, ps, rfl, hS, ownsRow_putObj hrow _ hK rfl, hB.trans (belowK_b (w := w) (Nat.le_refl _) W D _ _ (by omega) hK rfl rfl)⟩
  case stop =>
    rintro D c pre W _ _ h _
    exact h.elim
end Go.Proofs.Ytceidmhniofapaa.PAll
