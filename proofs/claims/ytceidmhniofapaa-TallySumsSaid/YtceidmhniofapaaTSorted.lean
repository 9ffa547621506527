/- slices.SortedFunc of a counting map's labels by tally.Order: the labels, rising. -/
import Derived.Test.YtceidmhniofapaaTSeq
import Derived.Test.YtceidmhniofapaaSortK
import Derived.Test.YtceidmhniofapaaShelfP
import Derived.Shelf.SlSortCmp.NoneTotal
namespace Go.Proofs.Ytceidmhniofapaa.PAll
open Go.RowKit Go.Maps Go.Sort Go.Shelf Go.Proofs.YtceidmhniofapaaW.PrintWords
def cmpO (x y : S25) : Int := orI (cmpI x.f0 y.f0) (cmpI x.f1 y.f1)
set_option maxHeartbeats 1000000 in
theorem order_grow (x y : S25) (w : World) : Calls Try.prog 12 #[encL x, encL y] w fun e w' => e = .returned (.int .i64 (cmpO x y)) ∧ ∃ q os', w' = grow (w.drewN q) os' := by
  have h1 := fun W => cmp_calls x.f0 y.f0 W
  have h2 := fun W => cmpu_calls x.f1 y.f1 W
  unfold cmpO
  generalize cmpI x.f0 y.f0 = a at h1 ⊢
  generalize cmpI x.f1 y.f1 = b at h2 ⊢
  go_enter Try.func12, Try.ntmps12
  go_wp2
  go_region_held3 (fun w' => w'.cell? ⟨w.heap.size, 0, none⟩ = some (.int .i64 x.f0) ∧ w'.cell? ⟨w.heap.size, 1, none⟩ = some (.int .u64 x.f1) ∧ w'.cell? ⟨w.heap.size + 1, 0, none⟩ = some (.int .i64 y.f0) ∧ w'.cell? ⟨w.heap.size + 1, 1, none⟩ = some (.int .u64 y.f1)) (go_keep)
    (first
    | (go_at_call 22; refine (h1 _).mono ?_; rintro e w' ⟨rfl, rfl⟩)
    | (go_at_call 23; refine (h2 _).mono ?_; rintro e w' ⟨rfl, rfl⟩)
    | (go_at_call 21; refine (or_calls _ a b _ ?oa ?ob).mono ?_; (case oa => simp [go_sem]); (case ob => simp [go_sem]); rintro e w' ⟨rfl, rfl⟩))
  go_wp2
  go_ret
  refine ⟨rfl, 1, ?os, ?eq⟩
  case eq =>
   show (((w.drew).alloc (.cells #[.int .i64 x.f0, .int .u64 x.f1] 25)).alloc (.cells #[.int .i64 y.f0, .int .u64 y.f1] 25)).alloc (.cells #[.int .i64 a, .int .i64 b] 3) = _
   rw [alloc_eq_grow, alloc_eq_grow, alloc_eq_grow, grow_grow, grow_grow]
   rfl
instance : Inhabited S25 := ⟨z25⟩
theorem cmpLays (blk off size : Nat) (w : World) : CmpLays Try.prog 12 #[] encC 2 cmpO blk off size w :=
  fun _ _ _ _ x y => order_grow x y _
def ltL (x y : S25) : Prop := x.f0 < y.f0 ∨ (x.f0 = y.f0 ∧ x.f1 < y.f1)
instance (x y : S25) : Decidable (ltL x y) := inferInstanceAs (Decidable (_ ∨ _))
theorem cmpO_lt (x y : S25) : cmpO x y < 0 ↔ ltL x y := by
  unfold cmpO orI cmpI ltL
  repeat' split
  all_goals omega
theorem ltO (x y : S25) : ltOf cmpO x y = decide (ltL x y) := by
  unfold ltOf
  simp only [cmpO_lt]
theorem swoO : SWO (ltOf cmpO) where
  irrefl x := by rw [ltO]; simp [ltL]
  trans x y z h1 h2 := by
    rw [ltO] at h1 h2 ⊢
    have a := of_decide_eq_true h1
    have b := of_decide_eq_true h2
    refine decide_eq_true ?_
    unfold ltL at *
    omega
  ntrans x y z h1 h2 := by
    rw [ltO] at h1 h2 ⊢
    have a := of_decide_eq_false h1
    have b := of_decide_eq_false h2
    refine decide_eq_false ?_
    unfold ltL at *
    omega
set_option maxHeartbeats 1000000 in
theorem collect_in (n : Nat) (hn : 10 ≤ n) (Bm b nn : Nat) (hnn : nn ≤ 1000) (D0 : DataW Unit) (w : World) (hBm : Bm < w.heap.size) (hm : w.cell? ⟨Bm, 0, none⟩ = some (.map (some b))) (hown : w.ownsMap Try.prog 25 (plainElem Try.prog 3) b nn D0) :
    CallsIn Fence.wide n Try.prog 25 #[.func (.func 27) #[] #[.pointer (some ⟨Bm, 0, none⟩)]] w fun e W' =>
      ∃ (v : Value) (ps : List S25), e = .returned v ∧ AllK D0 ps ∧ W'.ownsRow w.heap.size 25 2 v ps.length (ps.flatMap encC) ∧ Below w.heap.size w W' := by
  have hro : Fence.wide.round = none := rfl
  refine callsIn_of_wp Try.func25 rfl trivial ?_ hro
  simp only [Try.ntmps25, List.size_toArray, List.length_cons, List.length_nil, Nat.reduceAdd, Nat.reduceSub, Array.replicate_succ, Array.replicate_zero, List.push_toArray, List.append_toArray, List.nil_append, List.cons_append]
  gi_wp2_with fail
  refine ⟨trivial, fun _ => by omega, CallsIn.mono (appendSeq_in (n - 1) (by omega) Bm b nn hnn D0 _ hBm hm hown) ?_⟩
  rintro e w' ⟨v, ps, rfl, h1, h2, h3⟩
  gi_wp2_with fail
  go_ret
  exact ⟨_, ps, rfl, h1, h2, h3⟩
set_option maxHeartbeats 1000000 in
theorem sorted_in (n : Nat) (hn : 11 ≤ n) (Bm b nn : Nat) (hnn : nn ≤ 1000) (D0 : DataW Unit) (hlen : ∀ ps, AllK D0 ps → ps.length ≤ 1000) (w : World) (hBm : Bm < w.heap.size) (hm : w.cell? ⟨Bm, 0, none⟩ = some (.map (some b))) (hown : w.ownsMap Try.prog 25 (plainElem Try.prog 3) b nn D0) :
    CallsIn Fence.wide n Try.prog 17 #[.func (.func 27) #[] #[.pointer (some ⟨Bm, 0, none⟩)], .func (.func 12) #[] #[]] w fun e W' =>
      ∃ (v : Value) (ps d : List S25), e = .returned v ∧ AllK D0 ps ∧ d.Perm ps ∧ d.Pairwise (fun x y => ltL y x → False) ∧ W'.ownsRow w.heap.size 25 2 v d.length (d.flatMap encC) ∧ Below w.heap.size w W' := by
  have hro : Fence.wide.round = none := rfl
  refine callsIn_of_wp Try.func17 rfl trivial ?_ hro
  simp only [Try.ntmps17, List.size_toArray, List.length_cons, List.length_nil, Nat.reduceAdd, Nat.reduceSub, Array.replicate_succ, Array.replicate_zero, List.push_toArray, List.append_toArray, List.nil_append, List.cons_append]
  gi_wp2_with fail
  refine ⟨trivial, fun _ => by omega, CallsIn.mono (collect_in (n - 1) (by omega) Bm b nn hnn D0 _ hBm hm hown) ?_⟩
  rintro e W ⟨v, ps, rfl, hS, hrow, hB⟩
  gi_wp2_with fail
  have hsize := hlen ps hS
  by_cases hz : ps.length = 0
  · obtain rfl : ps = [] := List.length_eq_zero_iff.1 hz
    obtain ⟨p, cap, rfl⟩ : ∃ p cap, v = .slice p 0 cap := by
      rcases hrow.2 with ⟨rfl, _⟩ | ⟨g, cap, cur, rfl, _⟩
      · exact ⟨_, _, rfl⟩
      · exact ⟨_, _, rfl⟩
    have hSo := AnyF.slices_SortFunc_none Try.sortP p cap (.func (.func 12) #[] #[]) W
    change Calls Try.prog 26 _ _ _ at hSo
    refine ⟨trivial, fun _ => by omega, CallsIn.mono (callsIn_wide.2 hSo) ?_⟩
    rintro e w' ⟨rfl, rfl⟩
    clear hSo
    gi_wp2_with fail
    go_ret
    exact ⟨_, [], [], rfl, hS, List.Perm.refl _, List.Pairwise.nil, hrow, hB⟩
  · obtain ⟨g, cap, rfl, hbase, hlt⟩ := hrow.form (by omega)
    obtain ⟨hH, hg⟩ := holdsK_owned (enc := encC) (k := 2) (fun _ => rfl) hrow
    have eg : ∀ args w, (callFunc 12 args).run Try.prog w = .ok (.enter 12 args) w := enters_of Try.func12 (by kernel_rfl) rfl
    have hSo := AnyQ.slices_SortFunc Try.sortP 2 Try.isAgg25 Try.sizeOf25 encC (fun _ => rfl) (fun x v hv => by simp [encC] at hv; rcases hv with rfl | rfl <;> rfl) cmpO swoO 12 #[] g 0 cap ps.toArray W eg (cmpLays g 0 ps.toArray.size W) hH hg (by simp; omega)
    change Calls Try.prog 26 _ _ _ at hSo
    rw [show ps.toArray.size = ps.length from by simp] at hSo
    refine ⟨trivial, fun _ => by omega, CallsIn.mono (callsIn_wide.2 hSo) ?_⟩
    rintro e w' ⟨rfl, d', nd, os, hp, hs, rfl⟩
    clear hSo eg
    obtain ⟨hp', hsz'⟩ := perm_list (d := ps.toArray) (by simpa using hp)
    have hs' := sorted_list (d := d') (by rw [hsz']; simpa using hs)
    have hlen2 : d'.toList.length = ps.length := by simpa using hsz'
    have hown2 := owned_sortedK (enc := encC) (k := 2) (n := nd) (os := os) (ys := d'.toList) (fun _ => rfl) hlen2 hrow
    have hgr := grownBy_sortedK encC 2 (w := W) (g := g) (n := nd) (os := os) d'
    rw [Array.toArray_toList] at hown2
    obtain ⟨W2, hW2⟩ : ∃ W2, sortWorldK encC 2 W g 0 nd d' os = W2 := ⟨_, rfl⟩
    rw [hW2] at hown2 hgr ⊢
    have hB2 := hB.grown hgr hB.size (fun k e => by cases e; exact hbase)
    gi_wp2_with fail
    go_ret
    refine ⟨_, ps, d'.toList, rfl, hS, by simpa using hp', ?_, by rw [← hlen2]; exact hown2, hB2⟩
    exact hs'.imp (fun {x y} h hl => by rw [ltO] at h; exact of_decide_eq_false h hl)
end Go.Proofs.Ytceidmhniofapaa.PAll
