/- tally.by: the map that counts how many lines each label has. -/
import Derived.Test.YtceidmhniofapaaTKeys
import Derived.WalkKit
import Derived.WalkSpells
namespace Go.Proofs.Ytceidmhniofapaa.PAll
open Go.RowKit Go.Maps Go.Proofs.YtceidmhniofapaaW.PrintWords Go.Proofs.YtceidmhniofapaaW.PrintLast Go.Proofs.YtceidmhniofapaaW.PrintMore
/-- How many lines a label has. -/
def cnt (l : List S38) (y : S25) : Nat := l.countP (fun x => !x.f2 && decide (x.f1 = y))
theorem cnt_snoc (l : List S38) (x : S38) (y : S25) : cnt (l ++ [x]) y = cnt l y + (if x.f2 = false ∧ x.f1 = y then 1 else 0) := by
  unfold cnt
  rw [List.countP_append]
  cases h : x.f2 <;> simp [h, List.countP_cons]
theorem cnt_le (l : List S38) (y : S25) : cnt l y ≤ l.length := List.countP_le_length
/-- The map that counts. -/
structure CountD (D : DataW Unit) (l : List S38) : Prop where
  tidy : Tidy D
  at_ : ∀ y, wfL y → D.atKey (keyL y) (.lit (.int .i64 0)) = .lit (.int .i64 (cnt l y))
  mem : ∀ y, wfL y → has D (keyL y) = decide (0 < cnt l y)
theorem CountD.start : CountD (.map []) [] := ⟨tidy_empty, fun _ _ => rfl, fun _ _ => rfl⟩
theorem CountD.skip {D : DataW Unit} {l : List S38} (h : CountD D l) {x : S38} (hx : x.f2 = true) : CountD D (l ++ [x]) :=
  ⟨h.tidy, fun y hy => by rw [cnt_snoc, h.at_ y hy]; simp [hx], fun y hy => by rw [cnt_snoc, h.mem y hy]; simp [hx]⟩
theorem CountD.step {D : DataW Unit} {l : List S38} (h : CountD D l) {x : S38} (hx : x.f2 = false) (hw : wfL x.f1) (hl : l.length ≤ 1000) : CountD (D.put (keyL x.f1) (.lit (.int .i64 (wrap64 ((cnt l x.f1 : Nat) + 1))))) (l ++ [x]) := by
  have hc := cnt_le l x.f1
  refine ⟨h.tidy.put (keyL_key _) _, fun y hy => ?_, fun y hy => ?_⟩
  · rw [cnt_snoc]
    by_cases e : x.f1 = y
    · subst e
      rw [atKey_put_same h.tidy.isMap (keyL_key _), IntWalk.wrap64_in _ ⟨by omega, by omega⟩]
      simp [hx]
    · rw [atKey_put_other (fun e' => e (keyL_inj hw hy e'.symm)), h.at_ y hy]
      simp [hx, e]
  · rw [cnt_snoc]
    by_cases e : x.f1 = y
    · subst e
      rw [has_put_same h.tidy.isMap (keyL_key _)]
      simp [hx]
    · rw [has_put_other (fun e' => e (keyL_inj hw hy e'.symm)), h.mem y hy]
      simp [hx, e]
def rdIt (xs : List S38) (i : Nat) : S38 := xs.getD i z38
theorem at_It {w : World} {A : Option Addr} {n : Nat} {xs : List S38} (h : Kd.C k38 w A n xs) (i : Nat) (h1 : i < n) : ∃ ad , A = some ad ∧ w.cell? (ad.add (i * 6)) = some (.int .i64 (rdIt xs i).f0) ∧
    w.cell? ⟨(ad.add (i * 6)).block, (ad.add (i * 6)).off + 1, none⟩ = some (.int .i64 (rdIt xs i).f1.f0) ∧ w.cell? ⟨(ad.add (i * 6)).block, (ad.add (i * 6)).off + 2, none⟩ = some (.int .u64 (rdIt xs i).f1.f1) ∧
    w.cell? ⟨(ad.add (i * 6)).block, (ad.add (i * 6)).off + 3, none⟩ = some (.bool (rdIt xs i).f2) ∧ w.cell? ⟨(ad.add (i * 6)).block, (ad.add (i * 6)).off + 4, none⟩ = some (.string (rdIt xs i).f3.f0) ∧
    w.cell? ⟨(ad.add (i * 6)).block, (ad.add (i * 6)).off + 5, none⟩ = some (.bool (rdIt xs i).f3.f1) := by
  obtain ⟨ad, c, e, _, hK, hc0⟩ := Kd.C_get h z38 (i : Int) (by omega) (by omega)
  have hc : ∀ j u, c[j]? = some u → w.cell? (ad.add (i * 6 + j)) = some u := hc0
  obtain rfl := k38_open hK
  exact ⟨ad, e, hc 0 _ rfl, by rw [← add_field _ _ 1 (by omega)]; exact hc 1 _ rfl, by rw [← add_field _ _ 2 (by omega)]; exact hc 2 _ rfl, by rw [← add_field _ _ 3 (by omega)]; exact hc 3 _ rfl, by rw [← add_field _ _ 4 (by omega)]; exact hc 4 _ rfl, by rw [← add_field _ _ 5 (by omega)]; exact hc 5 _ rfl⟩
theorem rdIt_mem {xs : List S38} {i : Nat} (h : i < xs.length) : rdIt xs i ∈ xs ∧ xs.take (i + 1) = xs.take i ++ [rdIt xs i] := by
  unfold rdIt
  rw [List.getD_eq_getElem?_getD, List.getElem?_eq_getElem h, List.take_succ_eq_append_getElem h]
  exact ⟨List.getElem_mem h, rfl⟩
set_option maxRecDepth 100000 in
set_option maxHeartbeats 2000000 in
theorem by_calls (A0 : Option Addr) (c0 : Nat) (l0 : List S38) (w : World) (hr0 : Kd.C k38 w A0 l0.length l0) (hw : ∀ x ∈ l0, wfL x.f1) (hn0 : l0.length ≤ 1000) :
    Calls Try.prog 16 #[.slice A0 l0.length c0] w fun e w' => e = .returned (.map (some w.heap.size)) ∧ (∃ D, CountD D l0 ∧ w'.ownsMap Try.prog 25 (plainElem Try.prog 3) w.heap.size l0.length D) ∧ Below w.heap.size w w' := by
  have HR0 := Aside0.mk hr0
  have HW := Aside0.mk hw
  clear hr0 hw
  have hmm := @run_makeMap Try.prog
  go_enter Try.func16, Try.ntmps16
  go_wp2
  clear hmm
  go_loopw [9] (fun i wr => ∃ k : Nat, k ≤ l0.length ∧ i = .int .i64 k ∧ (∃ D, Aside0 (CountD D (l0.take k)) ∧ Aside0 (wr.ownsMap Try.prog 25 (plainElem Try.prog 3) w.heap.size k D)) ∧ Aside0 (Below w.heap.size w wr))
    (fun i _ => l0.length - (intOf i).toNat)
  case atStart => exact ⟨0, Nat.zero_le _, rfl, ⟨_, ⟨CountD.start⟩, ⟨World.ownsMap_made _ _ _ _⟩⟩, ⟨(Below.refl _ _).alloc (Nat.le_refl _) _⟩⟩
  case round =>
    obtain ⟨k, hk, rfl, ⟨D, HK, HM⟩, HB⟩ := hrel
    have hs0 : w.heap.size < wr.heap.size := HM.out.lt
    by_cases hlt : k < l0.length
    · obtain ⟨ad, rfl, x0, x1, x2, x3, x4, x5⟩ := at_It (Kd.C_below HR0.out HB.out) k hlt
      have HT := Aside0.mk (rdIt_mem hlt)
      obtain ⟨x, hX⟩ : ∃ x, rdIt l0 k = x := ⟨_, rfl⟩
      rw [hX] at x0 x1 x2 x3 x4 x5 HT
      clear hX
      have hwx := HW.out x HT.out.1
      have hkl : (l0.take k).length ≤ 1000 := by rw [List.length_take]; omega
      by_cases ha : x.f2 = true
      · have HK1 := Aside0.mk (HK.out.skip ha)
        go_wp2
        go_roundw
        case rel => exact ⟨k + 1, by omega, by go_num, ⟨D, ⟨by rw [HT.out.2]; exact HK1.out⟩, ⟨(HM.out.alloc _).mono (by omega)⟩⟩, ⟨HB.out.alloc HB.out.size _⟩⟩
        case measure => simp [intOf]; omega
      · have ha' : x.f2 = false := by simpa using ha
        clear ha
        have HK1 := Aside0.mk (HK.out.step ha' hwx hkl)
        have HA := (HM.out.alloc (.cells #[.int .i64 x.f0, .int .i64 x.f1.f0, .int .u64 x.f1.f1, .bool false, .string x.f3.f0, .bool x.f3.f1] 38)).drew
        have HBA := (HB.out.alloc HB.out.size (.cells #[.int .i64 x.f0, .int .i64 x.f1.f0, .int .u64 x.f1.f1, .bool false, .string x.f3.f0, .bool x.f3.f1] 38)).drew
        obtain ⟨v0, st, w2, w4, e1, e2, e3, e4, hown4, hgr4, hb2, hz2, ht2, hd2, ho2, hp2⟩ := entry_incr klawL Try.underlying42 Try.underlying3 zeroI HA (by unfold maxLen; omega) (keyL_key _) (keyOfL x.f1 hwx) (HK.out.at_ x.f1 hwx)
        have HM4 := Aside0.mk hown4
        have HB4 := Aside0.mk (HBA.grown hgr4 HBA.size (fun q hq => by cases hq; exact Nat.le_refl _))
        clear hown4 hgr4 HA HBA hb2 hz2 ht2 hd2 ho2 hp2
        go_wp2
        go_region
        all_goals go_wp2
        all_goals go_roundw
        case rel => exact ⟨k + 1, by omega, by go_num, ⟨_, ⟨by rw [HT.out.2]; exact HK1.out⟩, HM4⟩, HB4⟩
        case measure => simp [intOf]; omega
    · obtain rfl : k = l0.length := by omega
      go_wp2
      go_ret
      rw [List.take_length] at HK
      exact ⟨rfl, ⟨D, HK.out, HM.out⟩, HB.out⟩
end Go.Proofs.Ytceidmhniofapaa.PAll
