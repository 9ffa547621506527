/- tally.Order and tally.Lines: what they give. -/
import Derived.Test.YtceidmhniofapaaTBy
import Derived.Test.YtceidmhniofapaaBase
import Derived.Lib.Hide
import Derived.BigQuiet
import Derived.Deep.QuietTactic
import Derived.Deep.RegionHeld3
namespace Go.Proofs.Ytceidmhniofapaa.PAll
open Go.RowKit Go.Maps Go.Proofs.YtceidmhniofapaaW.PrintWords Go.Proofs.YtceidmhniofapaaW.PrintLast Go.Proofs.YtceidmhniofapaaW.PrintMore
/-- cmp.Compare of whole numbers. -/
def cmpI (x y : Int) : Int := if x < y then -1 else if y < x then 1 else 0
theorem isNaN_calls (x : Int) (w : World) : Calls Try.prog 29 #[.int .i64 x] w fun e w' => e = .returned (.bool false) ∧ w' = w := by
  go_enter Try.func29, Try.ntmps29
  go_wp2
  go_ret
  exact ⟨ret_bool (by simp), rfl⟩
theorem isNaNu_calls (x : Int) (w : World) : Calls Try.prog 30 #[.int .u64 x] w fun e w' => e = .returned (.bool false) ∧ w' = w := by
  go_enter Try.func30, Try.ntmps30
  go_wp2
  go_ret
  exact ⟨ret_bool (by simp), rfl⟩
set_option maxHeartbeats 400000 in
theorem cmp_calls (x y : Int) (w : World) : Calls Try.prog 22 #[.int .i64 x, .int .i64 y] w fun e w' => e = .returned (.int .i64 (cmpI x y)) ∧ w' = w := by
  rcases (show x < y ∨ (¬ x < y ∧ y < x) ∨ (¬ x < y ∧ ¬ y < x) by omega) with h | ⟨h, h'⟩ | ⟨h, h'⟩
  · have HC := Lib.hid (show cmpI x y = -1 by unfold cmpI; rw [if_pos h])
    go_enter Try.func22, Try.ntmps22
    go_wp2_with (go_at_call 29; refine (isNaN_calls _ _).mono ?_; rintro e w' ⟨rfl, rfl⟩)
    go_ret
    exact ⟨ret_int HC.out.symm, rfl⟩
  · have HC := Lib.hid (show cmpI x y = 1 by unfold cmpI; rw [if_neg h, if_pos h'])
    go_enter Try.func22, Try.ntmps22
    go_wp2_with (go_at_call 29; refine (isNaN_calls _ _).mono ?_; rintro e w' ⟨rfl, rfl⟩)
    go_ret
    exact ⟨ret_int HC.out.symm, rfl⟩
  · have HC := Lib.hid (show cmpI x y = 0 by unfold cmpI; rw [if_neg h, if_neg h'])
    go_enter Try.func22, Try.ntmps22
    go_wp2_with (go_at_call 29; refine (isNaN_calls _ _).mono ?_; rintro e w' ⟨rfl, rfl⟩)
    go_ret
    exact ⟨ret_int HC.out.symm, rfl⟩
set_option maxHeartbeats 400000 in
theorem cmpu_calls (x y : Int) (w : World) : Calls Try.prog 23 #[.int .u64 x, .int .u64 y] w fun e w' => e = .returned (.int .i64 (cmpI x y)) ∧ w' = w := by
  rcases (show x < y ∨ (¬ x < y ∧ y < x) ∨ (¬ x < y ∧ ¬ y < x) by omega) with h | ⟨h, h'⟩ | ⟨h, h'⟩
  · have HC := Lib.hid (show cmpI x y = -1 by unfold cmpI; rw [if_pos h])
    go_enter Try.func23, Try.ntmps23
    go_wp2_with (go_at_call 30; refine (isNaNu_calls _ _).mono ?_; rintro e w' ⟨rfl, rfl⟩)
    go_ret
    exact ⟨ret_int HC.out.symm, rfl⟩
  · have HC := Lib.hid (show cmpI x y = 1 by unfold cmpI; rw [if_neg h, if_pos h'])
    go_enter Try.func23, Try.ntmps23
    go_wp2_with (go_at_call 30; refine (isNaNu_calls _ _).mono ?_; rintro e w' ⟨rfl, rfl⟩)
    go_ret
    exact ⟨ret_int HC.out.symm, rfl⟩
  · have HC := Lib.hid (show cmpI x y = 0 by unfold cmpI; rw [if_neg h, if_neg h'])
    go_enter Try.func23, Try.ntmps23
    go_wp2_with (go_at_call 30; refine (isNaNu_calls _ _).mono ?_; rintro e w' ⟨rfl, rfl⟩)
    go_ret
    exact ⟨ret_int HC.out.symm, rfl⟩
def orI (a b : Int) : Int := if a = 0 then b else a
set_option maxHeartbeats 400000 in
theorem or_calls (g : Nat) (a b : Int) (w : World) (h0 : w.cell? ⟨g, 0, none⟩ = some (.int .i64 a)) (h1 : w.cell? ⟨g, 1, none⟩ = some (.int .i64 b)) : Calls Try.prog 21 #[.slice (some ⟨g, 0, none⟩) 2 2] w fun e w' => e = .returned (.int .i64 (orI a b)) ∧ w' = w := by
  go_enter Try.func21, Try.ntmps21
  go_wp2
  go_loop [8] (fun i => ∃ k : Nat, k ≤ 2 ∧ i = .int .i64 k ∧ (1 ≤ k → a = 0) ∧ (2 ≤ k → b = 0)) (fun i => 2 - (intOf i).toNat)
  case atStart => exact ⟨0, by omega, rfl, fun h => by omega, fun h => by omega⟩
  case round =>
    obtain ⟨k, hk, rfl, ha, hb⟩ := hrel
    rcases (show k = 0 ∨ k = 1 ∨ k = 2 by omega) with rfl | rfl | rfl
    · by_cases h : a = 0
      · subst h
        go_wp2
        go_round
        case rel => exact ⟨1, by omega, by go_num, fun _ => trivial, fun h => by omega⟩
        case measure => simp [intOf]
      · have hne : (a != 0) = true := by simpa using h
        have HC := Lib.hid (show orI a b = a by unfold orI; rw [if_neg h])
        clear h ha hb
        go_wp2
        go_ret
        exact ⟨ret_int HC.out.symm, rfl⟩
    · obtain rfl := ha (by omega)
      by_cases h : b = 0
      · subst h
        go_wp2
        go_round
        case rel => exact ⟨2, by omega, by go_num, fun _ => trivial, fun _ => trivial⟩
        case measure => simp [intOf]
      · have hne : (b != 0) = true := by simpa using h
        have HC := Lib.hid (show orI 0 b = b by unfold orI; simp)
        clear h ha hb
        go_wp2
        go_ret
        exact ⟨ret_int HC.out.symm, rfl⟩
    · obtain rfl := ha (by omega)
      obtain rfl := hb (by omega)
      go_wp2
      go_ret
      exact ⟨ret_int (by unfold orI; simp), rfl⟩
def tally_Order.f (a0_0 : Int) (a0_1 : Int) (a1_0 : Int) (a1_1 : Int) : Option (Int) := some (orI (cmpI a0_0 a1_0) (cmpI a0_1 a1_1))
set_option maxHeartbeats 1000000 in
theorem tally_Order.calls (a0_0 : Int) (a0_1 : Int) (a1_0 : Int) (a1_1 : Int) (r : Int) (w : World) (h : tally_Order.f a0_0 a0_1 a1_0 a1_1 = some r) :
    Calls Try.prog 12 #[.agg #[.int .i64 a0_0, .int .u64 a0_1], .agg #[.int .i64 a1_0, .int .u64 a1_1]] w fun e w' => e = .returned (.int .i64 r) ∧ Below w.heap.size w w' := by
  obtain rfl := Option.some.inj h
  have h1 := fun W => cmp_calls a0_0 a1_0 W
  have h2 := fun W => cmpu_calls a0_1 a1_1 W
  generalize cmpI a0_0 a1_0 = x at h1 ⊢
  generalize cmpI a0_1 a1_1 = y at h2 ⊢
  clear h
  go_enter Try.func12, Try.ntmps12
  go_wp2
  go_region_held3 (fun w' => w'.cell? ⟨w.heap.size, 0, none⟩ = some (.int .i64 a0_0) ∧ w'.cell? ⟨w.heap.size, 1, none⟩ = some (.int .u64 a0_1) ∧ w'.cell? ⟨w.heap.size + 1, 0, none⟩ = some (.int .i64 a1_0) ∧ w'.cell? ⟨w.heap.size + 1, 1, none⟩ = some (.int .u64 a1_1)) (go_keep)
    (first
    | (go_at_call 22; refine (h1 _).mono ?_; rintro e w' ⟨rfl, rfl⟩)
    | (go_at_call 23; refine (h2 _).mono ?_; rintro e w' ⟨rfl, rfl⟩)
    | (go_at_call 21; refine (or_calls _ x y _ ?oa ?ob).mono ?_; (case oa => simp [go_sem]); (case ob => simp [go_sem]); rintro e w' ⟨rfl, rfl⟩))
  all_goals go_wp2
  go_ret
  exact ⟨rfl, by repeat (first | exact Below.refl _ _ | with_reducible apply below_alloc | apply below_drew)⟩

instance (x : S25) : Decidable (wfL x) := inferInstanceAs (Decidable (_ ∧ _))
theorem by_calls' (A0 : Option Addr) (c0 : Nat) (l0 : List S38) (w : World) (hr0 : Kd.C k38 w A0 l0.length l0) (hw : ∀ x ∈ l0, wfL x.f1) (hn0 : l0.length ≤ 1000) :
    Calls Try.prog 16 #[.slice A0 l0.length c0] w fun e w' => ∃ mb : Nat, e = .returned (.map (some mb)) ∧ Aside0 (mb = w.heap.size) ∧ (∃ D, CountD D l0 ∧ w'.ownsMap Try.prog 25 (plainElem Try.prog 3) mb l0.length D) ∧ Below w.heap.size w w' := by
  refine (by_calls A0 c0 l0 w hr0 hw hn0).mono ?_
  rintro e w' ⟨rfl, h1, h2⟩
  exact ⟨_, rfl, ⟨rfl⟩, h1, h2⟩
def tally_Lines.f (l0 : List S38) (a1_0 : Int) (a1_1 : Int) : Option (Int) := if l0.length ≤ 1000 ∧ (∀ x ∈ l0, wfL x.f1) ∧ wfL ⟨a1_0, a1_1⟩ then some (cnt l0 ⟨a1_0, a1_1⟩) else none
set_option maxHeartbeats 1000000 in
theorem tally_Lines.calls (A0 : Option Addr) (c0 : Nat) (l0 : List S38) (a1_0 : Int) (a1_1 : Int) (r : Int) (w : World) (hr0 : Kd.C k38 w A0 l0.length l0) (hc0 : l0.length ≤ c0) (h : tally_Lines.f l0 a1_0 a1_1 = some r) :
    Calls Try.prog 10 #[.slice A0 l0.length c0, .agg #[.int .i64 a1_0, .int .u64 a1_1]] w fun e w' => e = .returned (.int .i64 r) ∧ Below w.heap.size w w' := by
  unfold tally_Lines.f at h
  split at h
  · rename_i hg
    obtain rfl := Option.some.inj h
    have HR := Aside0.mk hr0
    have HG := Aside0.mk hg
    clear hr0 hc0 h hg
    go_enter Try.func10, Try.ntmps10
    go_wp2
    go_region_held3 (fun w' => w'.cell? ⟨w.heap.size, 0, none⟩ = some (.int .i64 a1_0) ∧ w'.cell? ⟨w.heap.size, 1, none⟩ = some (.int .u64 a1_1)) (first | (go_keep) | (simp [*, go_sem]))
      (first
      | (go_at_call 16; refine (by_calls' A0 c0 l0 _ ?ra HG.out.2.1 HG.out.1).mono ?_; (case ra => repeat (first | exact HR.out | apply Kd.C_alloc | apply Kd.C_drew)); rintro e w' ⟨mb, rfl, hmb, ⟨D, hD, hown⟩, hb⟩; obtain ⟨c', hrun, hat, _⟩ := hown.lookup_int lawL Try.underlying42 Try.underlying3 (zeroI _) (keyOfL ⟨a1_0, a1_1⟩ HG.out.2.2); have hb0 := hb.cell (p := ⟨w.heap.size, 0, none⟩) (by simp); have hb1 := hb.cell (p := ⟨w.heap.size, 1, none⟩) (by simp); have HB := Aside0.mk hb; have HAT := Aside0.mk (hat.symm.trans (hD.at_ _ HG.out.2.2)); clear hb hat hD hown))
    all_goals go_wp2
    go_ret
    have hc : c' = (cnt l0 ⟨a1_0, a1_1⟩ : Nat) := by
      have h := HAT.out
      injection h with h
      injection h
    exact ⟨ret_int hc, below_step (by repeat (first | exact Below.refl _ _ | with_reducible apply below_alloc | apply below_drew)) HB.out⟩
  · cases h
end Go.Proofs.Ytceidmhniofapaa.PAll
