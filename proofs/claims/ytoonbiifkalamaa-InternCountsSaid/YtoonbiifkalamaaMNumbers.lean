/- intern.Numbers: the numbers of lines, over a map from lines: the walk. -/
import Derived.Test.YtoonbiifkalamaaNumDefs
import Derived.Test.YtoonbiifkalamaaBase
namespace Go.Proofs.Ytoonbiifkalamaa.PAll
open Go.RowKit Go.Maps Go.Proofs.YtoonbiifkalamaaW.PrintWords Go.Proofs.YtoonbiifkalamaaW.PrintLast Go.Proofs.YtoonbiifkalamaaW.PrintMore
def rdLs (xs : List (List S41)) (i : Nat) : List S41 := xs.getD i []
theorem at_LsB {w W : World} {A : Option Addr} {n : Nat} {xs : List (List S41)} (hB : Below w.heap.size w W) (h : Kd.C (Kd.slice 41 k41) w A n xs) (i : Nat) (h1 : i < n) : ∃ ad A0 c0, A = some ad ∧ W.cell? (ad.add i) = some (.slice A0 (xs.getD i []).length c0) ∧ (xs.getD i []).length ≤ c0 ∧ k41.C w A0 (xs.getD i []).length (xs.getD i []) := by
  obtain ⟨ad, c, e, _, hK, hc0⟩ := Kd.C_get h ([] : List S41) (i : Int) (by omega) (by omega)
  have hc : ∀ j u, c[j]? = some u → w.cell? (ad.add (i * 1 + j)) = some u := hc0
  obtain ⟨A0, c0, rfl, l0, g0⟩ := hK
  have hq := hc 0 _ rfl
  rw [Nat.mul_one, Nat.add_zero] at hq
  exact ⟨ad, A0, c0, e, (hB.cell (block_lt_of_cell hq)).trans hq, l0, g0⟩
theorem at_Ls {w : World} {A : Option Addr} {n : Nat} {xs : List (List S41)} (h : Kd.C (Kd.slice 41 k41) w A n xs) (i : Nat) (h1 : i < n) : ∃ ad A0 c0, A = some ad ∧ w.cell? (ad.add i) = some (.slice A0 (rdLs xs i).length c0) ∧ (rdLs xs i).length ≤ c0 ∧ k41.C w A0 (rdLs xs i).length (rdLs xs i) := by
  obtain ⟨ad, c, e, _, hK, hc0⟩ := Kd.C_get h ([] : List S41) (i : Int) (by omega) (by omega)
  have hc : ∀ j u, c[j]? = some u → w.cell? (ad.add (i * 1 + j)) = some u := hc0
  obtain ⟨A0, c0, rfl, l0, g0⟩ := hK
  exact ⟨ad, A0, c0, e, by have hq := hc 0 _ rfl; rwa [Nat.mul_one, Nat.add_zero] at hq, l0, g0⟩
theorem rdLs_mem {xs : List (List S41)} {i : Nat} (h : i < xs.length) : rdLs xs i ∈ xs ∧ xs.take (i + 1) = xs.take i ++ [rdLs xs i] := by
  unfold rdLs
  rw [List.getD_eq_getElem?_getD, List.getElem?_eq_getElem h, List.take_succ_eq_append_getElem h]
  exact ⟨List.getElem_mem h, rfl⟩
def rdLi (xs : List S41) (i : Nat) : S41 := xs.getD i z41
theorem at_Li {w : World} {A : Option Addr} {n : Nat} {xs : List S41} (h : Kd.C k41 w A n xs) (i : Nat) (h1 : i < n) : ∃ ad , A = some ad ∧ w.cell? (ad.add (i * 2)) = some (.string (rdLi xs i).f0) ∧ w.cell? ⟨(ad.add (i * 2)).block, (ad.add (i * 2)).off + 1, none⟩ = some (.bool (rdLi xs i).f1) := by
  obtain ⟨ad, c, e, _, hK, hc0⟩ := Kd.C_get h z41 (i : Int) (by omega) (by omega)
  have hc : ∀ j u, c[j]? = some u → w.cell? (ad.add (i * 2 + j)) = some u := hc0
  obtain rfl := k41_open hK
  exact ⟨ad, e, hc 0 _ rfl, by rw [← add_field _ _ 1 (by omega)]; exact hc 1 _ rfl⟩
theorem rdLi_mem {xs : List S41} {i : Nat} (h : i < xs.length) : rdLi xs i ∈ xs ∧ xs.take (i + 1) = xs.take i ++ [rdLi xs i] := by
  unfold rdLi
  rw [List.getD_eq_getElem?_getD, List.getElem?_eq_getElem h, List.take_succ_eq_append_getElem h]
  exact ⟨List.getElem_mem h, rfl⟩
section
variable {w : World} {ops : Array Oper} {rest : List Oper} {o : Oper} {a : Act} {Q : Exit → Act → World → Prop}
theorem look_known (hg : o.guard = none) (m x : Operand) (hop : o.op = Op.lookup 52 m x true) (b n : Nat) (D : DataW Unit)
    (hm : a.eval m = .map (some b)) (hown : w.ownsMap Try.prog 41 (plainElem Try.prog 3) b n D) (z : S41) (hx : a.eval x = .agg #[.string z.f0, .bool z.f1]) (hz : z.f0.size ≤ maxLen)
    (c : Int) (bb : Bool) (hat : D.atKey (keyL z) (.lit (.int .i64 0)) = .lit (.int .i64 c)) (hb : has D (keyL z) = bb)
    (hK : wpList Try.prog ops Q rest (a.put o.dst (.tuple #[.int .i64 c, .bool bb])) w) : wpList Try.prog ops Q (o :: rest) a w := by
  refine wpList_lookup_own_ok_int w hg m x _ hop _ 3 .i64 lawL Try.underlying52 Try.underlying3 (zeroI _) b n D hm hown _ _ hx (keyOfL z hz) ?_
  intro c' hat' _
  rw [hat] at hat'
  obtain rfl : c = c' := by injection hat' with h; injection h
  rw [hb]
  exact hK
theorem len_known (hg : o.guard = none) (m : Operand) (hop : o.op = Op.call { callee := Callee.builtin Builtin.len, args := #[m], argTypes := #[52] })
    (b n : Nat) (D : DataW Unit) (hm : a.eval m = .map (some b)) (hown : w.ownsMap Try.prog 41 (plainElem Try.prog 3) b n D) (k : Nat) (hs : Maps.size D = k)
    (hK : wpList Try.prog ops Q rest (a.put o.dst (.int .i64 k)) w) : wpList Try.prog ops Q (o :: rest) a w := by
  refine wpList_len_own w hg m _ hop 41 3 Try.underlying52 _ b n D hm hown ?_
  rw [hs]
  exact hK
end
set_option maxRecDepth 100000 in
set_option maxHeartbeats 2000000 in
theorem intern_Numbers.calls (A0 : Option Addr) (c0 : Nat) (l0 : List (List S41)) (r : List (List Int)) (w : World) (hr0 : Kd.C (Kd.slice 41 k41) w A0 l0.length l0) (hc0 : l0.length ≤ c0) (h : intern_Numbers.f l0 = some r) :
    Calls Try.prog 16 #[.slice A0 l0.length c0] w fun e w' => ∃ v0_ : Value, e = .returned (v0_) ∧ Kd.S (Kd.slice 3 (Kd.int .i64)) 22 w' w.heap.size (fun _ => True) v0_ r ∧ Below w.heap.size w w' := by
  unfold intern_Numbers.f at h
  split at h
  · rename_i hg
    obtain ⟨hn0, hg1⟩ := hg
    obtain rfl := Option.some.inj h
    have HG := Aside0.mk hg1
    have HR0 := Aside0.mk hr0
    clear h hr0 hg1 hc0
    have hmm := @run_makeMap Try.prog
    go_enter Try.func16, Try.ntmps16
    go_wp2
    clear hmm
    go_loopw [4, 15] (fun v i wr => ∃ k : Nat, k ≤ l0.length ∧ i = .int .i64 k ∧ Aside0 (Kd.S (Kd.slice 3 (Kd.int .i64)) 22 wr w.heap.size (fun q => q ≠ w.heap.size) v (numsOf [] (l0.take k))) ∧
        (∃ (D : DataW Unit) (n : Nat), n ≤ k * 1000 ∧ Aside0 (KnownD D (knownLs (l0.take k))) ∧ Aside0 (wr.ownsMap Try.prog 41 (plainElem Try.prog 3) w.heap.size n D)) ∧ Aside0 (Below w.heap.size w wr))
      (fun _ i _ => l0.length - (intOf i).toNat)
    case atStart => exact ⟨0, Nat.zero_le _, rfl, ⟨Kd.S_nil _ _ _ _ _⟩, ⟨_, 0, Nat.zero_le _, ⟨KnownD.start⟩, ⟨World.ownsMap_made _ _ _ _⟩⟩, ⟨(Below.refl _ _).alloc (Nat.le_refl _) _⟩⟩
    case round =>
      rename World => W1
      obtain ⟨k, hk, rfl, HO, ⟨D, n, hn, HK, HM⟩, HB⟩ := hrel
      have hs0 : w.heap.size < W1.heap.size := HM.out.lt
      by_cases hlt : k < l0.length
      · obtain ⟨ad, A1, c1, rfl, hx, hcl, hC⟩ := at_LsB HB.out HR0.out k hlt
        rw [show l0.getD k [] = rdLs l0 k from rfl] at hx hcl hC
        have HC := Aside0.mk hC
        have HTk := Aside0.mk (rdLs_mem hlt)
        obtain ⟨L, hL⟩ : ∃ L, rdLs l0 k = L := ⟨_, rfl⟩
        rw [hL] at hx hcl HC HTk
        have HGL := Aside0.mk (HG.out _ HTk.out.1)
        have hLl : L.length ≤ 1000 := HGL.out.1
        clear hC hL
        go_wp2_with fail
        go_loopw [7, 21] (fun v i wi => ∃ j : Nat, j ≤ L.length ∧ i = .int .i64 j ∧ Aside0 (Kd.R (Kd.int .i64) 3 wi w.heap.size (fun q => W1.heap.size ≤ q) v (numRow (knownLs (l0.take k)) (L.take j))) ∧
            (∃ (D : DataW Unit) (n : Nat), n ≤ k * 1000 + j ∧ Aside0 (KnownD D (knownL (knownLs (l0.take k)) (L.take j))) ∧ Aside0 (wi.ownsMap Try.prog 41 (plainElem Try.prog 3) w.heap.size n D)) ∧
            Aside0 (∀ q, q ≠ w.heap.size → q < W1.heap.size → wi.heap[q]? = W1.heap[q]?) ∧ Aside0 (Below w.heap.size w wi) ∧ W1.heap.size ≤ wi.heap.size)
          (fun _ i _ => L.length - (intOf i).toNat)
        case atStart => exact ⟨0, Nat.zero_le _, rfl, ⟨Kd.R_nil _ _ _ _ _⟩, ⟨D, n, hn, HK, HM⟩, ⟨fun _ _ _ => rfl⟩, HB, Nat.le_refl _⟩
        case round =>
          clear HK HM hn D n
          obtain ⟨j, hj, rfl, HRw, ⟨D, n, hn, HK, HM⟩, HS, HBi, hsz⟩ := hrel
          by_cases hlt' : j < L.length
          · obtain ⟨ad', rfl, hx0, hx1⟩ := at_Li (Kd.C_below HC.out HBi.out) j hlt'
            have HT := Aside0.mk (rdLi_mem hlt')
            obtain ⟨x, hX⟩ : ∃ x, rdLi L j = x := ⟨_, rfl⟩
            rw [hX] at hx0 hx1 HT
            clear hX
            have hxs : x.f0.size ≤ maxLen := HGL.out.2 x HT.out.1
            obtain ⟨kn, hkn⟩ : ∃ kn, knownL (knownLs (l0.take k)) (L.take j) = kn := ⟨_, rfl⟩
            rw [hkn] at HK
            have HN := Aside0.mk hkn
            clear hkn
            by_cases hm : x ∈ kn
            · have hat := HK.out.at_ x hm (.lit (.int .i64 0))
              have hhas : has D (keyL x) = true := by rw [HK.out.mem]; simpa using hm
              have HKN := Aside0.mk (known1_in hm)
              clear hm
              have HRowLen : (numRow (knownLs (l0.take k)) (L.take j)).length ≤ 1000 := by rw [numRow_length, List.length_take]; omega
              go_wp2_with (first
                | (at_lookup; refine look_known rfl _ _ rfl w.heap.size n D rfl (HM.out.alloc _) x rfl hxs _ _ hat hhas ?_)
                | ((with_reducible refine gate_builtin (b := .append) (xs := #[.tmp 38, .tmp 40]) rfl ?_); at_builtin; refine Kd.R_append (Kd.int .i64) (w0 := w) w.heap.size rfl (.tmp 38) (.tmp 40) 22 3 (.int .i64 0) 8 rfl Try.underlying22 info3 rfl (by decide) (by omega) _ (numRow (knownLs (l0.take k)) (L.take j)) (kn.idxOf x : Int) [.int .i64 (kn.idxOf x : Int)] (fun q => W1.heap.size ≤ q) (fun _ => False) rfl (by show Value.slice (some ⟨wr.heap.size + 1, 0, none⟩) 1 1 = _; simp) ?aP (fun _ hk => hk.elim) ?aF ?aO ?aB ?aS ?aL ?_; (case aP => exact rfl); (case aB => exact (HBi.out.alloc HBi.out.size (.cells #[.string x.f0, .bool x.f1] 41))); (case aF => exact fun q hq => by simp at hq; show W1.heap.size ≤ q; omega); (case aO => exact (Kd.R_alloc HRw.out (.cells #[.string x.f0, .bool x.f1] 41))); (case aS => exact (HBi.out.alloc HBi.out.size (.cells #[.string x.f0, .bool x.f1] 41)).size); (case aL => omega); intro v' w3 ho hb hg hat; have HO3 := Aside0.mk ho; have HB3 := Aside0.mk hb; have HM3 := Aside0.mk ((HM.out.alloc (.cells #[.string x.f0, .bool x.f1] 41)).kept hg (fun h => by have hh : W1.heap.size ≤ w.heap.size := HRw.out.1 _ h.symm; omega)); have HG3 := Aside0.mk hg; clear ho hb hg hat)
                | fail)
              go_roundw
              case rel => exact ⟨j + 1, by omega, by go_num, ⟨by rw [HT.out.2, numRow_snoc, HN.out]; exact HO3.out⟩, ⟨D, n, by omega, ⟨by rw [HT.out.2, knownL_snoc, HN.out, HKN.out]; exact HK.out⟩, HM3⟩, ⟨fun q h1 h2 => by rw [HG3.out.block q (by simp; omega) (fun h => by have hh : W1.heap.size ≤ q := HRw.out.1 _ h.symm; omega), Below.heap_alloc _ _ _ (by omega)]; exact HS.out q h1 h2⟩, HB3, by have := HG3.out.size; simp at this; omega⟩
              case measure => simp [intOf]; omega
            · have hhas : has D (keyL x) = false := by rw [HK.out.mem]; simpa using hm
              have hat : D.atKey (keyL x) (.lit (.int .i64 0)) = .lit (.int .i64 0) := atKey_of_not_has hhas _
              have HK1 := Aside0.mk (HK.out.step hm)
              have hsize := HK.out.size
              have HX1 := Aside0.mk (show (kn.idxOf x : Int) = (kn.length : Int) by rw [List.idxOf_eq_length hm])
              have hknl : kn.length ≤ 1000000 := by have := HM.out.size_le; omega
              have hwf : (Lit.int .i64 (kn.length : Int)).wf = true := by rw [← IntWalk.wrap64_in (kn.length : Int) ⟨by omega, by omega⟩]; exact wrap64_wf _
              clear hm
              have HRowLen : (numRow (knownLs (l0.take k)) (L.take j)).length ≤ 1000 := by rw [numRow_length, List.length_take]; omega
              go_wp2_with (first
                | (at_lookup; refine look_known rfl _ _ rfl w.heap.size n D rfl (HM.out.alloc _) x rfl hxs _ _ hat hhas ?_)
                | (at_len; refine len_known rfl _ rfl w.heap.size n D rfl (HM.out.alloc _) kn.length hsize ?_)
                | (at_mapUpdate; refine wpList_mapUpdate_own _ rfl _ _ _ 52 rfl 41 3 lawL Try.underlying52 _ w.heap.size n D rfl (HM.out.alloc _) (by unfold maxLen; omega) _ _ _ rfl rfl (keyOfL x hxs) _ [] (plainElem_int Try.underlying3 hwf) ?_; intro w1 hown1 hgrow1; have hs1 : W1.heap.size ≤ w1.heap.size := (by have := hgrow1.size; simp at this; omega); have HM1 := Aside0.mk hown1; have HB1 := Aside0.mk ((HBi.out.alloc HBi.out.size (.cells #[.string x.f0, .bool x.f1] 41)).grown hgrow1 (HBi.out.alloc HBi.out.size (.cells #[.string x.f0, .bool x.f1] 41)).size (fun q hq => by cases hq; exact Nat.le_refl _)); have HRw1 := Aside0.mk (Kd.R_grown (Kd.R_alloc HRw.out (.cells #[.string x.f0, .bool x.f1] 41)) hgrow1 (fun q hq h => by cases h; have hh : W1.heap.size ≤ w.heap.size := hq; omega)); have HG1 := Aside0.mk hgrow1; clear hown1 hgrow1)
                | ((with_reducible refine gate_builtin (b := .append) (xs := #[.tmp 38, .tmp 40]) rfl ?_); at_builtin; refine Kd.R_append (Kd.int .i64) (w0 := w) w.heap.size rfl (.tmp 38) (.tmp 40) 22 3 (.int .i64 0) 8 rfl Try.underlying22 info3 rfl (by decide) (by omega) _ (numRow (knownLs (l0.take k)) (L.take j)) (kn.length : Int) [.int .i64 (kn.length : Int)] (fun q => W1.heap.size ≤ q) (fun _ => False) rfl rfl ?aP (fun _ hk => hk.elim) ?aF ?aO ?aB ?aS ?aL ?_; (case aP => exact rfl); (case aB => exact HB1.out); (case aF => exact fun q hq => by show W1.heap.size ≤ q; omega); (case aO => exact HRw1.out); (case aS => exact HB1.out.size); (case aL => omega); intro v' w3 ho hb hg hat; have HO3 := Aside0.mk ho; have HB3 := Aside0.mk hb; have HM3 := Aside0.mk (HM1.out.kept hg (fun h => by have hh : W1.heap.size ≤ w.heap.size := HRw.out.1 _ h.symm; omega)); have HG3 := Aside0.mk hg; clear ho hb hg hat)
                | fail)
              go_roundw
              case rel => exact ⟨j + 1, by omega, by go_num, ⟨by rw [HT.out.2, numRow_snoc, HN.out, HX1.out]; exact HO3.out⟩, ⟨_, n + 1, by omega, ⟨by rw [HT.out.2, knownL_snoc, HN.out]; exact HK1.out⟩, HM3⟩, ⟨fun q h1 h2 => by rw [HG3.out.block q (by omega) (fun h => by have hh : W1.heap.size ≤ q := HRw.out.1 _ h.symm; omega), HG1.out.block q (by simp; omega) (fun h => by cases h; exact h1 rfl), Below.heap_alloc _ _ _ (by omega)]; exact HS.out q h1 h2⟩, HB3, by have := HG3.out.size; omega⟩
              case measure => simp [intOf]; omega
          · have : j = L.length := by omega
            subst this
            have HOi := Aside0.mk (Kd.S_mono (ok' := fun q => q ≠ w.heap.size ∧ ¬ W1.heap.size ≤ q) (Kd.S_move (Kd.S_mono (ok' := fun q => q ≠ w.heap.size ∧ q < W1.heap.size) (Kd.S_bound HO.out) (fun q h => ⟨h.1, h.2.2.1⟩)) (fun q h => HS.out q h.1 h.2)) (fun q h => ⟨h.1, by omega⟩))
            have HOL := Aside0.mk (Kd.S_lt HO.out)
            have hOlen : (numsOf [] (l0.take k)).length ≤ 5 := by rw [numsOf_length, List.length_take]; omega
            have HNs := Aside0.mk (numsOf_snoc (l0.take k) L)
            rw [List.take_length] at HRw HK
            obtain ⟨Ar, cr, rfl⟩ := Kd.R_slice HRw.out
            go_wp2_with (first
              | ((with_reducible refine gate_builtin (b := .append) (xs := #[.tmp 43, .tmp 45]) rfl ?_); at_builtin; refine Kd.S_append (Kd.slice 3 (Kd.int .i64)) (w0 := w) w.heap.size rfl (.tmp 43) (.tmp 45) 38 22 (.slice none 0 0) 24 rfl Try.underlying38 info22 rfl (by decide) (by omega) _ (numsOf [] (l0.take k)) (numRow (knownLs (l0.take k)) L) [.slice Ar (numRow (knownLs (l0.take k)) L).length cr] (fun q => q ≠ w.heap.size) (fun q => W1.heap.size ≤ q) rfl rfl ?aP ?aK ?aF ?aO ?aB ?aS ?aL ?_; (case aP => exact ⟨_, rfl, HRw.out⟩); (case aB => exact HBi.out); (case aF => exact fun q hq => by show q ≠ w.heap.size; have := HM.out.lt; omega); (case aK => exact fun q hq => ⟨by show q ≠ w.heap.size; have hh : W1.heap.size ≤ q := hq; omega, fun h => by have hh : W1.heap.size ≤ q := hq; have := HOL.out q h.symm; omega⟩); (case aO => exact HOi.out); (case aS => exact HBi.out.size); (case aL => omega); intro v' w3 ho hb hg hat; have HO3 := Aside0.mk ho; have HB3 := Aside0.mk hb; have HM3 := Aside0.mk (HM.out.kept hg (fun h => (Kd.S_away HO.out (g := w.heap.size) (fun q hq => hq)) h)); clear ho hb hg hat)
              | fail)
            go_roundw
            case rel => exact ⟨k + 1, by omega, by go_num, ⟨by rw [HTk.out.2, HNs.out]; exact HO3.out⟩, ⟨D, n, by omega, ⟨by rw [HTk.out.2, knownLs_snoc]; exact HK.out⟩, HM3⟩, HB3⟩
            case measure => simp [intOf]; omega
      · have : k = l0.length := by omega
        subst this
        go_wp2_with fail
        go_ret
        rw [List.take_length] at HO
        exact ⟨_, rfl, Kd.S_mono HO.out (fun _ _ => trivial), HB.out⟩
  · cases h
end Go.Proofs.Ytoonbiifkalamaa.PAll
