/- few: the first 60 items of a row that is read. -/
import Derived.Test.YtceidmhniofapaaPAllx0
import Derived.Test.YtceidmhniofapaaBase
namespace Go.Proofs.Ytceidmhniofapaa.PAll
open Go.RowKit Go.Proofs.YtceidmhniofapaaW.PrintWords Go.Proofs.YtceidmhniofapaaW.PrintLast Go.Proofs.YtceidmhniofapaaW.PrintMore
attribute [local go_sem] max2_int min2_int max_two min_two max_three min_three max_four min_four
set_option maxHeartbeats 400000 in
theorem jalousielaw19_few_read.calls (A0 : Option Addr) (c0 : Nat) (lo l : List S38) (hL : lo.take 60 = l) (w : World) (hr : Kd.C k38 w A0 lo.length lo) (hc : lo.length ≤ c0) :
    Calls Try.prog 6 #[.slice A0 lo.length c0] w fun e w' => e = .returned (.slice A0 l.length c0) ∧ w' = w := by
  obtain ⟨m, hm⟩ : ∃ m : Int, (if 60 < (lo.length : Int) then 60 else (lo.length : Int)) = m := ⟨_, rfl⟩
  have hmm : 0 ≤ m ∧ m ≤ lo.length ∧ m.toNat = l.length := by
    rw [← hL, List.length_take, ← hm]
    split <;> omega
  obtain ⟨h0, h1, h2⟩ := hmm
  obtain ⟨i0, hi0, hz0, hz1, hz2⟩ := info_parts info38
  have hcut := fun W => cut_to (P := Try.prog) 22 38 .i64 Try.underlying22 hi0 A0 lo.length c0 m h0 h1 hc W
  rw [h2] at hcut
  clear hi0 hz0 hz1 hz2 hr h2 hL
  go_enter Try.func6, Try.ntmps6
  go_wp2
  go_ret
  exact ⟨rfl, rfl⟩
end Go.Proofs.Ytceidmhniofapaa.PAll
