/- intern.Ends: how many numbers two rows begin and end with alike. -/
import Derived.Test.YtoonbiifkalamaaPAllx0
import Derived.Test.YtoonbiifkalamaaBase
namespace Go.Proofs.Ytoonbiifkalamaa.PAll
open Go.RowKit Go.Proofs.YtoonbiifkalamaaW.PrintWords Go.Proofs.YtoonbiifkalamaaW.PrintLast Go.Proofs.YtoonbiifkalamaaW.PrintMore
attribute [local go_sem] max2_int min2_int max_two min_two

/-- How many numbers two rows begin with alike. -/
def pre : List Int → List Int → Nat
  | x :: a, y :: b => if x = y then pre a b + 1 else 0
  | _, _ => 0
theorem pre_drop (a b : List Int) (k : Nat) (ha : k < a.length) (hb : k < b.length) (h : a[k] = b[k]) : pre (a.drop k) (b.drop k) = pre (a.drop (k + 1)) (b.drop (k + 1)) + 1 := by
  rw [List.drop_eq_getElem_cons ha, List.drop_eq_getElem_cons hb]
  simp [pre, h]
theorem pre_stop (a b : List Int) (k : Nat) (ha : k < a.length) (hb : k < b.length) (h : a[k] ≠ b[k]) : pre (a.drop k) (b.drop k) = 0 := by
  rw [List.drop_eq_getElem_cons ha, List.drop_eq_getElem_cons hb]
  simp [pre, h]
theorem pre_end (a b : List Int) (k : Nat) (h : a.length ≤ k ∨ b.length ≤ k) : pre (a.drop k) (b.drop k) = 0 := by
  rcases h with h | h
  · rw [List.drop_eq_nil_of_le h]; rfl
  · rw [List.drop_eq_nil_of_le h]; cases a.drop k <;> rfl
theorem pre_le (a b : List Int) : pre a b ≤ a.length ∧ pre a b ≤ b.length := by
  induction a generalizing b with
  | nil => exact ⟨Nat.le_refl _, Nat.zero_le _⟩
  | cons x a ih =>
    cases b with
    | nil => exact ⟨Nat.zero_le _, Nat.le_refl _⟩
    | cons y b =>
      have := ih b
      unfold pre
      split <;> simp only [List.length_cons] <;> omega
def endsM (a b : List Int) : Nat := min a.length b.length - pre a b
def endsL (a b : List Int) : Nat := pre (a.reverse.take (endsM a b)) (b.reverse.take (endsM a b))
theorem endsL_le (a b : List Int) : endsL a b ≤ endsM a b := Nat.le_trans (pre_le _ _).1 (List.length_take_le _ _)
theorem rev_at (a : List Int) (m k : Nat) (hk : k < m) (hm : m ≤ a.length) : ∃ h : k < (a.reverse.take m).length, (a.reverse.take m)[k] = a[a.length - 1 - k] :=
  ⟨by rw [List.length_take, List.length_reverse]; omega, by rw [List.getElem_take, List.getElem_reverse]⟩
theorem wrap_in {n : Int} (h0 : 0 ≤ n) (h : n ≤ 9223372036854775807) : wrap64 n = n := IntWalk.wrap64_in n ⟨by omega, by omega⟩

def intern_Ends.f (l0 : List Int) (l1 : List Int) : Option (Int × Int) := some (pre l0 l1, endsL l0 l1)
set_option maxHeartbeats 1000000 in
theorem intern_Ends.calls (A0 : Option Addr) (c0 : Nat) (l0 : List Int) (A1 : Option Addr) (c1 : Nat) (l1 : List Int) (r1 : Int) (r2 : Int) (w : World) (hr0 : Kd.C (Kd.int .i64) w A0 l0.length l0) (hc0 : l0.length ≤ c0) (hr1 : Kd.C (Kd.int .i64) w A1 l1.length l1) (hc1 : l1.length ≤ c1) (h : intern_Ends.f l0 l1 = some (r1, r2)) :
    Calls Try.prog 17 #[.slice A0 l0.length c0, .slice A1 l1.length c1] w fun e w' => e = .returned (.tuple #[.int .i64 r1, .int .i64 r2]) ∧ Drawn0 w w' := by
  have hn0 := Kd.C_max hr0
  have hn1 := Kd.C_max hr1
  have HR0 := Aside0.mk hr0
  have HR1 := Aside0.mk hr1
  clear hr0 hr1 hc0 hc1
  obtain ⟨rfl, rfl⟩ : (pre l0 l1 : Int) = r1 ∧ (endsL l0 l1 : Int) = r2 := by simpa [intern_Ends.f] using h
  clear h
  have HM : endsM l0 l1 + pre l0 l1 = min l0.length l1.length := by have := pre_le l0 l1; unfold endsM; omega
  have hE := endsL_le l0 l1
  obtain ⟨m, hm⟩ : ∃ m, m = endsM l0 l1 := ⟨_, rfl⟩
  obtain ⟨p, hp⟩ : ∃ p, p = pre l0 l1 := ⟨_, rfl⟩
  obtain ⟨q, hq⟩ : ∃ q, q = endsL l0 l1 := ⟨_, rfl⟩
  rw [← hm, ← hp] at HM
  rw [← hm, ← hq] at hE
  rw [← hp, ← hq]
  have HP := Aside0.mk hp
  have HQ := Aside0.mk hq
  have HMM := Aside0.mk hm
  clear hp hq hm
  obtain ⟨n, hn⟩ : ∃ n, n = min l0.length l1.length := ⟨_, rfl⟩
  have hmp : m + p ≤ n ∧ n ≤ m + p := by omega
  obtain ⟨hmp1, hmp2⟩ := hmp
  clear HM
  rcases (show (n = l1.length ∧ l1.length < l0.length) ∨ (n = l0.length ∧ l0.length ≤ l1.length) by omega) with ⟨h1, h2⟩ | ⟨h1, h2⟩
  all_goals
    clear hn
    subst h1
    go_enter Try.func17, Try.ntmps17
    go_upto_block 0 with (fail)
    go_cut [7] (fun v wc => v = .int .i64 p ∧ Drawn0 w wc)
    case first =>
      go_wp2
      go_loopw [7] (fun v wr => ∃ k : Nat, k ≤ p ∧ v = .int .i64 k ∧ Aside0 (k + pre (l0.drop k) (l1.drop k) = p) ∧ Drawn0 w wr) (fun v _ => p - (intOf v).toNat)
      case atStart => exact ⟨0, Nat.zero_le _, rfl, ⟨by simp [HP.out]⟩, Drawn0.refl _⟩
      case round =>
        obtain ⟨k, hk, rfl, HK, ⟨⟨nq, rfl⟩⟩⟩ := hrel
        by_cases hlt : k < p
        · have hk0 : k < l0.length := by omega
          have hk1 : k < l1.length := by omega
          have heq : l0[k] = l1[k] := by
            by_cases e : l0[k] = l1[k]
            · exact e
            · exfalso; have h3 := HK.out; rw [pre_stop l0 l1 k hk0 hk1 e] at h3; omega
          have HK' : Aside0 ((k + 1) + pre (l0.drop (k + 1)) (l1.drop (k + 1)) = p) := ⟨by have h3 := HK.out; rw [pre_drop l0 l1 k hk0 hk1 heq] at h3; omega⟩
          obtain ⟨ad0, rfl, hx0⟩ := Kd.at_int HR0.out (k : Int) (by omega) (by omega)
          obtain ⟨ad1, rfl, hx1⟩ := Kd.at_int HR1.out (k : Int) (by omega) (by omega)
          have hb : (rd l0 (k : Int) == rd l1 (k : Int)) = true := by
            simp only [rd, Int.toNat_natCast, getD_at l0 0 k hk0, getD_at l1 0 k hk1, heq, beq_self_eq_true]
          simp only [Int.toNat_natCast] at hx0 hx1
          clear heq HK
          go_wp2_with fail
          go_quiet (fail)
          go_wp2
          go_roundw
          case rel => exact ⟨k + 1, by omega, by go_num, HK', (by repeat (first | exact Drawn0.refl _ | apply Drawn0.step))⟩
          case measure => simp [intOf]; omega
        · obtain rfl : k = p := by omega
          by_cases hm0 : m = 0
          · have hd : ∀ z : Nat, z ≤ m + k → m + k ≤ z → decide (k < z) = false := fun z h1 h2 => by simp; omega
            have hd' := hd _ hmp2 hmp1
            clear hd
            subst hm0
            go_wp2_with fail
            go_quiet (fail)
            go_wp2
            go_meet
            case rel => exact ⟨rfl, (by repeat (first | exact Drawn0.refl _ | apply Drawn0.step))⟩
          · have hk0 : k < l0.length := by omega
            have hk1 : k < l1.length := by omega
            obtain ⟨ad0, rfl, hx0⟩ := Kd.at_int HR0.out (k : Int) (by omega) (by omega)
            obtain ⟨ad1, rfl, hx1⟩ := Kd.at_int HR1.out (k : Int) (by omega) (by omega)
            have hb : (rd l0 (k : Int) == rd l1 (k : Int)) = false := by
              simp only [rd, Int.toNat_natCast, getD_at l0 0 k hk0, getD_at l1 0 k hk1]
              by_cases e : l0[k] = l1[k]
              · exfalso; have h3 := HK.out; rw [pre_drop l0 l1 k hk0 hk1 e] at h3; omega
              · simpa using e
            simp only [Int.toNat_natCast] at hx0 hx1
            clear HK
            go_wp2_with fail
            go_quiet (fail)
            go_wp2
            go_meet
            case rel => exact ⟨rfl, (by repeat (first | exact Drawn0.refl _ | apply Drawn0.step))⟩
    case rest =>
      obtain ⟨rfl, ⟨⟨nq, rfl⟩⟩⟩ := hcut
      go_wp2
      go_loopw [8] (fun v wr => ∃ k : Nat, k ≤ q ∧ v = .int .i64 k ∧ Aside0 (k + pre ((l0.reverse.take m).drop k) ((l1.reverse.take m).drop k) = q) ∧ Drawn0 w wr) (fun v _ => q - (intOf v).toNat)
      case atStart => exact ⟨0, Nat.zero_le _, rfl, ⟨by simp only [List.drop_zero, HQ.out, endsL, HMM.out, Nat.zero_add]⟩, (by repeat (first | exact Drawn0.refl _ | apply Drawn0.step))⟩
      case round =>
        obtain ⟨k, hk, rfl, HK, ⟨⟨nq2, rfl⟩⟩⟩ := hrel
        have RV0 := fun h => rev_at l0 m k h (by omega)
        have RV1 := fun h => rev_at l1 m k h (by omega)
        by_cases hlt : k < q
        · obtain ⟨hr0, hv0⟩ := RV0 (by omega)
          obtain ⟨hr1, hv1⟩ := RV1 (by omega)
          have heq : (l0.reverse.take m)[k] = (l1.reverse.take m)[k] := by
            by_cases e : (l0.reverse.take m)[k] = (l1.reverse.take m)[k]
            · exact e
            · exfalso; have h3 := HK.out; rw [pre_stop _ _ k hr0 hr1 e] at h3; omega
          have HK' : Aside0 ((k + 1) + pre ((l0.reverse.take m).drop (k + 1)) ((l1.reverse.take m).drop (k + 1)) = q) := ⟨by have h3 := HK.out; rw [pre_drop _ _ k hr0 hr1 heq] at h3; omega⟩
          obtain ⟨ad0, rfl, hx0⟩ := Kd.at_int HR0.out ((l0.length - 1 - k : Nat) : Int) (by omega) (by omega)
          obtain ⟨ad1, rfl, hx1⟩ := Kd.at_int HR1.out ((l1.length - 1 - k : Nat) : Int) (by omega) (by omega)
          have hb : (rd l0 ((l0.length - 1 - k : Nat) : Int) == rd l1 ((l1.length - 1 - k : Nat) : Int)) = true := by
            simp only [rd, Int.toNat_natCast, getD_at l0 0 (l0.length - 1 - k) (by omega), getD_at l1 0 (l1.length - 1 - k) (by omega), ← hv0, ← hv1, heq, beq_self_eq_true]
          simp only [Int.toNat_natCast] at hx0 hx1
          clear heq HK hv0 hv1 hr0 hr1 RV0 RV1
          have s1 : ∀ z : Nat, z = m + p → IntKind.i64.wrap ((z : Int) - (p : Int)) = (m : Int) := fun z hz => by rw [IntWalk.i64_in _ (by omega)]; omega
          have s1' := s1 _ (Nat.le_antisymm hmp2 hmp1)
          have s2 : IntKind.i64.wrap ((l0.length : Int) - 1) = ((l0.length - 1 : Nat) : Int) := by rw [IntWalk.i64_in _ (by omega)]; omega
          have s3 : IntKind.i64.wrap (((l0.length - 1 : Nat) : Int) - (k : Int)) = ((l0.length - 1 - k : Nat) : Int) := by rw [IntWalk.i64_in _ (by omega)]; omega
          have s4 : IntKind.i64.wrap ((l1.length : Int) - 1) = ((l1.length - 1 : Nat) : Int) := by rw [IntWalk.i64_in _ (by omega)]; omega
          have s5 : IntKind.i64.wrap (((l1.length - 1 : Nat) : Int) - (k : Int)) = ((l1.length - 1 - k : Nat) : Int) := by rw [IntWalk.i64_in _ (by omega)]; omega
          have hd2 : decide (k < m) = true := by simp; omega
          have b0 : ((l0.length - 1 - k : Nat) : Int) < (l0.length : Int) := by omega
          have b1 : ((l1.length - 1 - k : Nat) : Int) < (l1.length : Int) := by omega
          clear s1
          go_wp2_with fail
          go_quiet (fail)
          go_wp2
          go_roundw
          case rel => exact ⟨k + 1, by omega, by go_num, HK', (by repeat (first | exact Drawn0.refl _ | apply Drawn0.step))⟩
          case measure => simp [intOf]; omega
        · obtain rfl : k = q := by omega
          by_cases hm0 : k = m
          · clear RV0 RV1 HK
            subst hm0
            have s1 : ∀ z : Nat, z = k + p → IntKind.i64.wrap ((z : Int) - (p : Int)) = (k : Int) := fun z hz => by rw [IntWalk.i64_in _ (by omega)]; omega
            have s1' := s1 _ (Nat.le_antisymm hmp2 hmp1)
            clear s1
            go_wp2_with fail
            go_quiet (fail)
            go_wp2
            go_ret2
            exact ⟨rfl, (by repeat (first | exact Drawn0.refl _ | apply Drawn0.step))⟩
          · obtain ⟨hr0, hv0⟩ := RV0 (by omega)
            obtain ⟨hr1, hv1⟩ := RV1 (by omega)
            obtain ⟨ad0, rfl, hx0⟩ := Kd.at_int HR0.out ((l0.length - 1 - k : Nat) : Int) (by omega) (by omega)
            obtain ⟨ad1, rfl, hx1⟩ := Kd.at_int HR1.out ((l1.length - 1 - k : Nat) : Int) (by omega) (by omega)
            have hb : (rd l0 ((l0.length - 1 - k : Nat) : Int) == rd l1 ((l1.length - 1 - k : Nat) : Int)) = false := by
              simp only [rd, Int.toNat_natCast, getD_at l0 0 (l0.length - 1 - k) (by omega), getD_at l1 0 (l1.length - 1 - k) (by omega), ← hv0, ← hv1]
              by_cases e : (l0.reverse.take m)[k] = (l1.reverse.take m)[k]
              · exfalso; have h3 := HK.out; rw [pre_drop _ _ k hr0 hr1 e] at h3; omega
              · simpa using e
            simp only [Int.toNat_natCast] at hx0 hx1
            clear HK hv0 hv1 hr0 hr1 RV0 RV1
            have s1 : ∀ z : Nat, z = m + p → IntKind.i64.wrap ((z : Int) - (p : Int)) = (m : Int) := fun z hz => by rw [IntWalk.i64_in _ (by omega)]; omega
            have s1' := s1 _ (Nat.le_antisymm hmp2 hmp1)
            have s2 : IntKind.i64.wrap ((l0.length : Int) - 1) = ((l0.length - 1 : Nat) : Int) := by rw [IntWalk.i64_in _ (by omega)]; omega
            have s3 : IntKind.i64.wrap (((l0.length - 1 : Nat) : Int) - (k : Int)) = ((l0.length - 1 - k : Nat) : Int) := by rw [IntWalk.i64_in _ (by omega)]; omega
            have s4 : IntKind.i64.wrap ((l1.length : Int) - 1) = ((l1.length - 1 : Nat) : Int) := by rw [IntWalk.i64_in _ (by omega)]; omega
            have s5 : IntKind.i64.wrap (((l1.length - 1 : Nat) : Int) - (k : Int)) = ((l1.length - 1 - k : Nat) : Int) := by rw [IntWalk.i64_in _ (by omega)]; omega
            have hd2 : decide (k < m) = true := by simp; omega
            have b0 : ((l0.length - 1 - k : Nat) : Int) < (l0.length : Int) := by omega
            have b1 : ((l1.length - 1 - k : Nat) : Int) < (l1.length : Int) := by omega
            clear s1
            go_wp2_with fail
            go_quiet (fail)
            go_wp2
            go_ret2
            exact ⟨rfl, (by repeat (first | exact Drawn0.refl _ | apply Drawn0.step))⟩
end Go.Proofs.Ytoonbiifkalamaa.PAll
