/- The counting of numbers: a map from each number to how often it is there. -/
import Derived.Test.YtoonbiifkalamaaRows
import Derived.WalkKit
import Derived.WalkSpells
import Derived.Maps.OwnOps
import Derived.Test.YtoonbiifkalamaaWMore
namespace Go.Proofs.Ytoonbiifkalamaa
open Go.RowKit Go.Maps Go.Proofs.YtoonbiifkalamaaW.PrintWords

theorem lawI : Keyed Try.prog 3 := int_keyed Try.underlying3
theorem zeroI (w : World) : (zeroValue 3).run Try.prog w = .ok (.int .i64 0) w := by kernel_rfl

/-- One number more is counted. -/
def oftenPut {H : Type} (D : DataW H) (x : Int) : DataW H := D.put (.int .i64 x) (match D.atKey (.int .i64 x) (.lit (.int .i64 0)) with | .lit (.int .i64 c) => .lit (.int .i64 (wrap64 (c + 1))) | _ => .lit (.int .i64 0))
theorem oftenPut_at {H : Type} {D : DataW H} {x c : Int} (h : D.atKey (.int .i64 x) (.lit (.int .i64 0)) = .lit (.int .i64 c)) : oftenPut D x = D.put (.int .i64 x) (.lit (.int .i64 (wrap64 (c + 1)))) := by
  unfold oftenPut; rw [h]
/-- How often each number is there, as the map is filled from the left. -/
def oftenD {H : Type} (l : List Int) : DataW H := l.foldl oftenPut (.map [])
theorem oftenD_snoc {H : Type} (l : List Int) (x : Int) : oftenD (H := H) (l ++ [x]) = oftenPut (oftenD l) x := by simp [oftenD]
theorem oftenD_step {H : Type} (l : List Int) (k : Nat) (h : k < l.length) {c : Int} (hat : (oftenD (H := H) (l.take k)).atKey (.int .i64 (l.getD k 0)) (.lit (.int .i64 0)) = .lit (.int .i64 c)) :
    oftenD (H := H) (l.take (k + 1)) = (oftenD (l.take k)).put (.int .i64 (l.getD k 0)) (.lit (.int .i64 (wrap64 (c + 1)))) := by
  rw [List.take_succ_eq_append_getElem h, oftenD_snoc]
  rw [List.getD_eq_getElem?_getD, List.getElem?_eq_getElem h] at hat ⊢
  exact oftenPut_at hat

set_option maxRecDepth 100000 in
set_option maxHeartbeats 400000 in
theorem often_calls {H : Type} (A0 : Option Addr) (c0 : Nat) (l0 : List Int) (w : World) (hr0 : Kd.C (Kd.int .i64) w A0 l0.length l0) (hw : ∀ n ∈ l0, (Lit.int .i64 n).wf = true) (hn : l0.length ≤ 1000) :
    Calls Try.prog 12 #[.slice A0 l0.length c0] w fun e w' => e = .returned (.map (some w.heap.size)) ∧ w'.ownsMap Try.prog 3 (plainElem Try.prog 3) w.heap.size l0.length (oftenD (H := H) l0) ∧ Below w.heap.size w w' := by
  have HR := Aside0.mk hr0
  clear hr0
  have hmm := @run_makeMap Try.prog
  go_enter Try.func12, Try.ntmps12
  go_wp2
  go_loopw [9] (fun i wr => ∃ k : Nat, k ≤ l0.length ∧ i = .int .i64 k ∧ wr.ownsMap Try.prog 3 (plainElem Try.prog 3) w.heap.size k (oftenD (H := H) (l0.take k)) ∧ Below w.heap.size w wr)
    (fun i _ => l0.length - (intOf i).toNat)
  case atStart => exact ⟨0, Nat.zero_le _, rfl, World.ownsMap_made _ _ _ _, (Below.refl _ _).alloc (Nat.le_refl _) _⟩
  case round =>
    obtain ⟨k, hk, rfl, hown, hnx⟩ := hrel
    by_cases hlt : k < l0.length
    · obtain ⟨ad, rfl, hx⟩ := Kd.at_int (Kd.C_below HR.out hnx) (k : Int) (by omega) (by omega)
      simp only [Int.toNat_natCast] at hx
      have hkey : keyOf Try.prog 3 (.int .i64 (l0.getD k 0)) = some (.int .i64 (l0.getD k 0)) := keyOf_int_mk Try.underlying3 (hw _ (by rw [List.getD_eq_getElem?_getD, List.getElem?_eq_getElem hlt]; exact List.getElem_mem hlt))
      go_wp2_with (first
        | (at_lookup; refine wpList_lookup_own_int _ rfl _ _ 33 rfl 3 3 .i64 lawI Try.underlying33 Try.underlying3 (zeroI _) w.heap.size k _ rfl hown _ _ rfl hkey ?_; intro c hat hwc)
        | (at_mapUpdate; refine wpList_mapUpdate_own _ rfl _ _ _ 33 rfl 3 3 lawI Try.underlying33 _ w.heap.size k _ rfl hown (by unfold maxLen; omega) _ _ _ rfl rfl hkey _ [] (plainElem_int Try.underlying3 (wrap64_wf _)) ?_; intro w1 hown1 hgrow1)
        | go_in)
      go_roundw
      case rel => exact ⟨k + 1, by omega, by go_num, (oftenD_step l0 k hlt hat).symm ▸ hown1, hnx.grown hgrow1 hnx.size (fun j hj => by cases hj; exact Nat.le_refl _)⟩
      case measure => simp [intOf]; omega
    · have : k = l0.length := by omega
      subst this
      go_wp2
      go_ret
      exact ⟨rfl, by rw [List.take_length] at hown; exact hown, hnx⟩
end Go.Proofs.Ytoonbiifkalamaa
