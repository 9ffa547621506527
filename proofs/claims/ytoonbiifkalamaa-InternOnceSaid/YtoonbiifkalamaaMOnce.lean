/- intern.Once: the places of the numbers that are there once in both rows, over the counting map. -/
import Derived.Test.YtoonbiifkalamaaPAllx0
import Derived.Test.YtoonbiifkalamaaBase
import Derived.Test.YtoonbiifkalamaaOften
import Derived.Maps.Views
namespace Go.Proofs.Ytoonbiifkalamaa
open Go.RowKit Go.Maps Go.Proofs.YtoonbiifkalamaaW.PrintWords

theorem isMap_often {H : Type} (l : List Int) : IsMap (oftenD (H := H) l) := by
  have key : ∀ r : List Int, IsMap (oftenD (H := H) r.reverse) := by
    intro r
    induction r with
    | nil => exact isMap_empty
    | cons x r ih => rw [List.reverse_cons, oftenD_snoc]; exact ih.put _ _
  have h := key l.reverse
  rwa [List.reverse_reverse] at h
theorem often_at {H : Type} (l : List Int) (n : Int) (hl : l.length ≤ 1000) : (oftenD (H := H) l).atKey (.int .i64 n) (.lit (.int .i64 0)) = .lit (.int .i64 (l.count n)) := by
  have key : ∀ r : List Int, r.length ≤ 1000 → ∀ n, (oftenD (H := H) r.reverse).atKey (.int .i64 n) (.lit (.int .i64 0)) = .lit (.int .i64 (r.reverse.count n)) := by
    intro r
    induction r with
    | nil => intro _ n; rfl
    | cons x r ih =>
      intro hr n
      simp only [List.length_cons] at hr
      have hc : r.reverse.count x ≤ r.length := by have := List.count_le_length (a := x) (l := r.reverse); simpa using this
      rw [List.reverse_cons, oftenD_snoc, oftenPut_at (ih (by omega) x)]
      by_cases hx : x = n
      · subst hx
        rw [atKey_put_same (isMap_often _) (by exact trivial), IntWalk.wrap64_in _ ⟨by omega, by omega⟩, List.count_append]
        simp
      · rw [atKey_put_other (by intro h; injection h with _ h; exact hx h.symm), ih (by omega) n, List.count_append]
        simp [hx]
  have h := key l.reverse (by rw [List.length_reverse]; exact hl) n
  rwa [List.reverse_reverse] at h

/-- Where a number is first; -1: nowhere. -/
def idxFrom (l : List Int) (n : Int) (k : Nat) : Int := if n ∈ l.drop k then (k + (l.drop k).idxOf n : Nat) else -1
abbrev idx (l : List Int) (n : Int) : Int := idxFrom l n 0
theorem idxFrom_hit (l : List Int) (n : Int) (k : Nat) (h : k < l.length) (e : l[k] = n) : idxFrom l n k = k := by
  unfold idxFrom
  rw [List.drop_eq_getElem_cons h, e]
  simp
theorem idxFrom_miss (l : List Int) (n : Int) (k : Nat) (h : k < l.length) (e : l[k] ≠ n) : idxFrom l n k = idxFrom l n (k + 1) := by
  unfold idxFrom
  rw [List.drop_eq_getElem_cons h]
  have e' : ¬ n = l[k] := fun h => e h.symm
  have e2 : (l[k] == n) = false := by simpa using e
  simp only [List.mem_cons, e', false_or, List.idxOf_cons, e2]
  split <;> simp <;> omega
theorem idxFrom_end (l : List Int) (n : Int) (k : Nat) (h : l.length ≤ k) : idxFrom l n k = -1 := by
  unfold idxFrom
  rw [List.drop_eq_nil_of_le h]
  simp
set_option maxHeartbeats 400000 in
theorem index_calls (A0 : Option Addr) (c0 : Nat) (l0 : List Int) (n : Int) (w : World) (hr0 : kI.C w A0 l0.length l0) :
    Calls Try.prog 20 #[.slice A0 l0.length c0, .int .i64 n] w fun e w' => e = .returned (.int .i64 (idx l0 n)) ∧ w' = w := by
  have hn : l0.length ≤ 9223372036854775807 := hr0.2.1
  have HR := Aside0.mk hr0
  clear hr0
  go_enter Try.func20, Try.ntmps20
  go_wp2
  go_loop [8] (fun i => ∃ k : Nat, k ≤ l0.length ∧ i = .int .i64 k ∧ Aside0 (idxFrom l0 n k = idx l0 n)) (fun i => l0.length - (intOf i).toNat)
  case atStart => exact ⟨0, Nat.zero_le _, rfl, ⟨rfl⟩⟩
  case round =>
    obtain ⟨k, hk, rfl, HI⟩ := hrel
    by_cases hlt : k < l0.length
    · obtain ⟨ad, rfl, hx⟩ := Kd.at_int HR.out (k : Int) (by omega) (by omega)
      simp only [Int.toNat_natCast] at hx
      by_cases e : n = rd l0 (k : Int)
      · have hb : (n == rd l0 (k : Int)) = true := by simpa using e
        have HF : Aside0 ((k : Int) = idx l0 n) := ⟨by rw [← HI.out, idxFrom_hit l0 n k hlt (by rw [e]; simp [rd, hlt])]⟩
        clear e
        go_wp2
        go_ret
        exact ⟨ret_int HF.out, rfl⟩
      · have hb : (n == rd l0 (k : Int)) = false := by simpa using e
        have HF : Aside0 (idxFrom l0 n (k + 1) = idx l0 n) := ⟨by rw [← HI.out, idxFrom_miss l0 n k hlt (by intro h; apply e; rw [← h]; simp [rd, hlt])]⟩
        clear e HI
        go_wp2
        go_round
        case rel => exact ⟨k + 1, by omega, by go_num, HF⟩
        case measure => simp [intOf]; omega
    · have HF : Aside0 ((-1 : Int) = idx l0 n) := ⟨by rw [← HI.out, idxFrom_end l0 n k (by omega)]⟩
      clear HI
      go_wp2
      go_ret
      exact ⟨ret_int HF.out, rfl⟩
end Go.Proofs.Ytoonbiifkalamaa

namespace Go.Proofs.Ytoonbiifkalamaa.PAll
open Go.RowKit Go.Maps Go.Proofs.YtoonbiifkalamaaW.PrintWords Go.Proofs.YtoonbiifkalamaaW.PrintLast Go.Proofs.YtoonbiifkalamaaW.PrintMore
/-- Numbers that are there once in both rows: the first k places of the first row. -/
def onceTo (l0 l1 : List Int) (k : Nat) : List S25 :=
  (List.range k).flatMap fun (i : Nat) => if l0.count (rd l0 i) = 1 ∧ l1.count (rd l0 i) = 1 then [⟨i, idx l1 (rd l0 i)⟩] else []
theorem onceTo_hit (l0 l1 : List Int) (k : Nat) (h : l0.count (rd l0 k) = 1 ∧ l1.count (rd l0 k) = 1) : onceTo l0 l1 (k + 1) = onceTo l0 l1 k ++ [⟨k, idx l1 (rd l0 k)⟩] := by
  simp [onceTo, List.range_succ, List.flatMap_append, h]
theorem onceTo_miss (l0 l1 : List Int) (k : Nat) (h : ¬ (l0.count (rd l0 k) = 1 ∧ l1.count (rd l0 k) = 1)) : onceTo l0 l1 (k + 1) = onceTo l0 l1 k := by
  simp only [onceTo, List.range_succ, List.flatMap_append, List.flatMap_cons, List.flatMap_nil, if_neg h, List.append_nil]
theorem onceTo_length (l0 l1 : List Int) (k : Nat) : (onceTo l0 l1 k).length ≤ k := by
  induction k with
  | zero => simp [onceTo]
  | succ k ih =>
    by_cases h : l0.count (rd l0 k) = 1 ∧ l1.count (rd l0 k) = 1
    · rw [onceTo_hit _ _ _ h]; simp; omega
    · rw [onceTo_miss _ _ _ h]; omega

def intern_Once.f (l0 : List Int) (l1 : List Int) : Option ((List (S25))) :=
  if l0.length ≤ 1000 ∧ l1.length ≤ 1000 ∧ (∀ n ∈ l0, (Lit.int .i64 n).wf = true) ∧ (∀ n ∈ l1, (Lit.int .i64 n).wf = true) then some (onceTo l0 l1 l0.length) else none
set_option maxRecDepth 100000 in
set_option maxHeartbeats 1000000 in
theorem intern_Once.calls (A0 : Option Addr) (c0 : Nat) (l0 : List Int) (A1 : Option Addr) (c1 : Nat) (l1 : List Int) (r : List (S25)) (w : World) (hr0 : Kd.C (Kd.int .i64) w A0 l0.length l0) (hc0 : l0.length ≤ c0) (hr1 : Kd.C (Kd.int .i64) w A1 l1.length l1) (hc1 : l1.length ≤ c1) (h : intern_Once.f l0 l1 = some r) :
    Calls Try.prog 9 #[.slice A0 l0.length c0, .slice A1 l1.length c1] w fun e w' => ∃ v0_ : Value, e = .returned (v0_) ∧ Kd.R k25 25 w' w.heap.size (fun _ => True) v0_ r ∧ Below w.heap.size w w' := by
  unfold intern_Once.f at h
  split at h
  · rename_i hg
    obtain ⟨hn0, hn1, hw0, hw1⟩ := hg
    obtain rfl := Option.some.inj h
    have HW0 := Aside0.mk hw0
    have HW1 := Aside0.mk hw1
    have HR0 := Aside0.mk hr0
    have HR1 := Aside0.mk hr1
    clear h hr0 hr1 hw0 hw1 hc0 hc1
    go_enter Try.func9, Try.ntmps9
    go_wp2_with fail
    refine (often_calls (H := Unit) A0 c0 l0 w HR0.out HW0.out hn0).mono ?_
    rintro e w1 ⟨rfl, hown0, hb0⟩
    have HO0 := Aside0.mk hown0
    have HB0 := Aside0.mk hb0
    clear hown0 hb0
    go_wp2_with fail
    refine (often_calls (H := Unit) A1 c1 l1 _ (Kd.C_below HR1.out HB0.out) HW1.out hn1).mono ?_
    rintro e w2 ⟨rfl, hown1, hb1⟩
    have HO1 := Aside0.mk hown1
    have hb2 := below_step HB0.out hb1
    have hm0 := HO0.out.kept (grown_of_below hb1 none) (by simp)
    have hlt0 : w.heap.size < w1.heap.size := HO0.out.lt
    have hlt1 : w1.heap.size < w2.heap.size := hown1.lt
    have HM0 := Aside0.mk hm0
    have HB2 := Aside0.mk hb2
    clear hm0 hb2 hown1 hb1 HO0 HB0
    go_wp2_with fail
    go_loopw [7, 16] (fun v i wr => ∃ k : Nat, k ≤ l0.length ∧ i = .int .i64 k ∧ Aside0 (Kd.R k25 25 wr w.heap.size (fun q => q ≠ w.heap.size ∧ q ≠ w1.heap.size) v (onceTo l0 l1 k)) ∧
        Aside0 (wr.ownsMap Try.prog 3 (plainElem Try.prog 3) w.heap.size l0.length (oftenD (H := Unit) l0)) ∧ Aside0 (wr.ownsMap Try.prog 3 (plainElem Try.prog 3) w1.heap.size l1.length (oftenD (H := Unit) l1)) ∧ Aside0 (Below w.heap.size w wr))
      (fun _ i _ => l0.length - (intOf i).toNat)
    case atStart => exact ⟨0, Nat.zero_le _, rfl, ⟨Kd.R_nil _ _ _ _ _⟩, HM0, HO1, HB2⟩
    case round =>
      clear HM0 HO1 HB2
      obtain ⟨k, hk, rfl, HO, HM0, HM1, HB⟩ := hrel
      have hs0 : w.heap.size < wr.heap.size := HM0.out.lt
      have hs1 : w1.heap.size < wr.heap.size := HM1.out.lt
      by_cases hlt : k < l0.length
      · obtain ⟨ad, rfl, hx⟩ := Kd.at_int (Kd.C_below HR0.out HB.out) (k : Int) (by omega) (by omega)
        simp only [Int.toNat_natCast] at hx
        have hkey : keyOf Try.prog 3 (.int .i64 (rd l0 (k : Int))) = some (.int .i64 (rd l0 (k : Int))) := keyOf_int_mk Try.underlying3 (HW0.out _ (by simp only [rd, Int.toNat_natCast, getD_at l0 0 k hlt]; exact List.getElem_mem hlt))
        obtain ⟨c0', hrun0, hat0, _⟩ := HM0.out.lookup_int lawI Try.underlying33 Try.underlying3 (zeroI _) hkey
        rw [often_at l0 _ hn0] at hat0
        obtain ⟨c1', hrun1, hat1, _⟩ := HM1.out.lookup_int lawI Try.underlying33 Try.underlying3 (zeroI _) hkey
        rw [often_at l1 _ hn1] at hat1
        obtain rfl : (l0.count (rd l0 (k : Int)) : Int) = c0' := by injection hat0 with h; injection h
        obtain rfl : (l1.count (rd l0 (k : Int)) : Int) = c1' := by injection hat1 with h; injection h
        clear hat0 hat1 hkey
        by_cases h1 : l0.count (rd l0 (k : Int)) = 1
        · have hb1 : ((l0.count (rd l0 (k : Int)) : Int) == 1) = true := by rw [h1]; rfl
          by_cases h2 : l1.count (rd l0 (k : Int)) = 1
          · have hb2 : ((l1.count (rd l0 (k : Int)) : Int) == 1) = true := by rw [h2]; rfl
            have HS := Aside0.mk (onceTo_hit l0 l1 k ⟨h1, h2⟩)
            have hlen := onceTo_length l0 l1 k
            clear h1 h2
            obtain ⟨x, hxe⟩ : ∃ x : Int, x = idx l1 (rd l0 (k : Int)) := ⟨_, rfl⟩
            have HX := Aside0.mk hxe
            have hI : ∀ wq, wq = wr → Calls Try.prog 20 #[.slice A1 l1.length c1, .int .i64 (rd l0 (k : Int))] wq fun e w' => e = .returned (.int .i64 x) ∧ w' = wq := fun wq h => by
              rw [h, HX.out]
              exact index_calls A1 c1 l1 _ _ (Kd.C_below HR1.out HB.out)
            clear hxe
            go_wp2_with (first
              | (go_at_call 20; refine (hI _ rfl).mono ?_; rintro e w' ⟨rfl, rfl⟩)
              | ((with_reducible refine gate_builtin (b := .append) (xs := #[.tmp 31, .tmp 37]) rfl ?_); at_builtin; refine Kd.R_append k25 (w0 := w) w.heap.size rfl (.tmp 31) (.tmp 37) 23 25 (.agg #[(.int .i64 0), (.int .i64 0)]) 16 rfl Try.underlying23 info25 rfl (by decide) (by omega) _ (onceTo l0 l1 k) (⟨k, x⟩ : S25) [.int .i64 k, .int .i64 x] (fun q => q ≠ w.heap.size ∧ q ≠ w1.heap.size) (fun _ => False) rfl rfl ?aP (fun _ hk => hk.elim) ?aF ?aO ?aB ?aS ?aL ?_; (case aP => exact k25_mkM _ _ _ (⟨k, x⟩ : S25)); (case aB => exact HB.out); (case aF => exact fun q hq => ⟨by omega, by omega⟩); (case aO => exact HO.out); (case aS => exact HB.out.size); (case aL => omega); intro v' w3 ho hb hg hat; have HO3 := Aside0.mk ho; have HB3 := Aside0.mk hb; have HM03 := Aside0.mk (HM0.out.kept hg (fun h => (HO.out.1 _ h.symm).1 rfl)); have HM13 := Aside0.mk (HM1.out.kept hg (fun h => (HO.out.1 _ h.symm).2 rfl)); clear ho hb hg hat))
            go_roundw
            case rel => exact ⟨k + 1, by omega, by go_num, ⟨by rw [HS.out, ← HX.out]; exact HO3.out⟩, HM03, HM13, HB3⟩
            case measure => simp [intOf]; omega
          · have hb2 : ((l1.count (rd l0 (k : Int)) : Int) == 1) = false := by simp; omega
            have HS := Aside0.mk (onceTo_miss l0 l1 k (by omega))
            clear h1 h2
            go_wp2_with fail
            go_roundw
            case rel => exact ⟨k + 1, by omega, by go_num, ⟨by rw [HS.out]; exact HO.out⟩, HM0, HM1, HB⟩
            case measure => simp [intOf]; omega
        · have hb1 : ((l0.count (rd l0 (k : Int)) : Int) == 1) = false := by simp; omega
          have HS := Aside0.mk (onceTo_miss l0 l1 k (by omega))
          clear h1
          go_wp2_with fail
          go_roundw
          case rel => exact ⟨k + 1, by omega, by go_num, ⟨by rw [HS.out]; exact HO.out⟩, HM0, HM1, HB⟩
          case measure => simp [intOf]; omega
      · obtain rfl : k = l0.length := by omega
        go_wp2_with fail
        go_ret
        exact ⟨_, rfl, Kd.R_mono HO.out (fun _ _ => trivial), HB.out⟩
  · cases h
end Go.Proofs.Ytoonbiifkalamaa.PAll
