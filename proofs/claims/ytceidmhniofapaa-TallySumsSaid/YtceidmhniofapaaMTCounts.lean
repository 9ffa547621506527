/- tally.Counts: how many lines all labels have, the labels rising. -/
import Derived.Test.YtceidmhniofapaaTSorted
import Derived.Deep.AppendLies
namespace Go.Proofs.Ytceidmhniofapaa.PAll
open Go.RowKit Go.Maps Go.Sort Go.Shelf Go.Proofs.YtceidmhniofapaaW.PrintWords Go.Proofs.YtceidmhniofapaaW.PrintLast Go.Proofs.YtceidmhniofapaaW.PrintMore
theorem ltL_trans {x y z : S25} (h1 : ltL x y) (h2 : ltL y z) : ltL x z := by unfold ltL at *; omega
theorem ltL_irrefl (x : S25) : ¬ ltL x x := by unfold ltL; omega
theorem ltL_tri (x y : S25) : ltL x y ∨ x = y ∨ ltL y x := by
  cases x; cases y
  unfold ltL
  simp only [S25.mk.injEq]
  omega
/-- A label put in among rising ones, if it is not there. -/
def insL (x : S25) : List S25 → List S25
  | [] => [x]
  | y :: r => if ltL y x then y :: insL x r else if y = x then y :: r else x :: y :: r
def labelsOf (l : List S38) : List S25 := l.foldl (fun acc x => if x.f2 = true then acc else insL x.f1 acc) []
theorem mem_insL (x z : S25) (l : List S25) : z ∈ insL x l ↔ z = x ∨ z ∈ l := by
  induction l with
  | nil => simp [insL]
  | cons y r ih =>
    unfold insL
    split
    · simp only [List.mem_cons, ih]
      constructor
      · rintro (h | h | h)
        · exact .inr (.inl h)
        · exact .inl h
        · exact .inr (.inr h)
      · rintro (h | h | h)
        · exact .inr (.inl h)
        · exact .inl h
        · exact .inr (.inr h)
    · split
      · rename_i e
        subst e
        simp
      · simp
theorem insL_rises (x : S25) (l : List S25) (h : l.Pairwise ltL) : (insL x l).Pairwise ltL := by
  induction l with
  | nil => simp [insL]
  | cons y r ih =>
    rw [List.pairwise_cons] at h
    unfold insL
    split
    · rename_i hyx
      rw [List.pairwise_cons]
      refine ⟨fun z hz => ?_, ih h.2⟩
      rcases (mem_insL x z r).1 hz with e | e
      · rw [e]; exact hyx
      · exact h.1 z e
    · split
      · rw [List.pairwise_cons]; exact h
      · rename_i h1 h2
        have hxy : ltL x y := by
          rcases ltL_tri x y with h | h | h
          · exact h
          · exact absurd h.symm h2
          · exact absurd h h1
        rw [List.pairwise_cons, List.pairwise_cons]
        refine ⟨fun z hz => ?_, h⟩
        rcases List.mem_cons.1 hz with e | e
        · rw [e]; exact hxy
        · exact ltL_trans hxy (h.1 z e)
theorem labelsOf_snoc (l : List S38) (x : S38) : labelsOf (l ++ [x]) = if x.f2 = true then labelsOf l else insL x.f1 (labelsOf l) := by simp [labelsOf]
theorem labelsOf_rises (l : List S38) : (labelsOf l).Pairwise ltL := by
  have key : ∀ r : List S38, (labelsOf r.reverse).Pairwise ltL := by
    intro r
    induction r with
    | nil => exact List.Pairwise.nil
    | cons x r ih =>
      rw [List.reverse_cons, labelsOf_snoc]
      split
      · exact ih
      · exact insL_rises _ _ ih
  have h := key l.reverse
  rwa [List.reverse_reverse] at h
theorem mem_labelsOf (l : List S38) (y : S25) : y ∈ labelsOf l ↔ 0 < cnt l y := by
  have key : ∀ r : List S38, y ∈ labelsOf r.reverse ↔ 0 < cnt r.reverse y := by
    intro r
    induction r with
    | nil => simp [labelsOf, cnt]
    | cons x r ih =>
      rw [List.reverse_cons, labelsOf_snoc, cnt_snoc]
      by_cases hx : x.f2 = true
      · simp [hx, ih]
      · have hx' : x.f2 = false := by simpa using hx
        rw [if_neg hx, mem_insL, ih]
        by_cases e : x.f1 = y
        · simp [hx', e]
        · simp [hx', e, Ne.symm e]
  have h := key l.reverse
  rwa [List.reverse_reverse] at h
theorem rising_uniqueL : ∀ (a b : List S25), a.Pairwise ltL → b.Pairwise ltL → (∀ x, x ∈ a ↔ x ∈ b) → a = b
  | [], [], _, _, _ => rfl
  | [], y :: b, _, _, h => by have := (h y).2 List.mem_cons_self; simp at this
  | x :: a, [], _, _, h => by have := (h x).1 List.mem_cons_self; simp at this
  | x :: a, y :: b, ha, hb, h => by
    rw [List.pairwise_cons] at ha hb
    have e : x = y := by
      rcases List.mem_cons.1 ((h x).1 List.mem_cons_self) with e | e
      · exact e
      · rcases List.mem_cons.1 ((h y).2 List.mem_cons_self) with e' | e'
        · exact e'.symm
        · exact absurd (ltL_trans (hb.1 x e) (ha.1 y e')) (ltL_irrefl y)
    subst e
    rw [rising_uniqueL a b ha.2 hb.2 (fun z => by
      constructor
      · intro hz
        rcases List.mem_cons.1 ((h z).1 (List.mem_cons_of_mem _ hz)) with e | e
        · exact absurd (e ▸ ha.1 z hz) (ltL_irrefl x)
        · exact e
      · intro hz
        rcases List.mem_cons.1 ((h z).2 (List.mem_cons_of_mem _ hz)) with e | e
        · exact absurd (e ▸ hb.1 z hz) (ltL_irrefl x)
        · exact e)]
theorem nodup_subL : ∀ (a b : List S25), a.Nodup → (∀ x ∈ a, x ∈ b) → a.length ≤ b.length
  | [], _, _, _ => Nat.zero_le _
  | x :: a, b, hn, hs => by
    have hx := hs x List.mem_cons_self
    have h := nodup_subL a (b.erase x) (List.nodup_cons.1 hn).2 (fun y hy => (List.mem_erase_of_ne (fun (e : y = x) => (List.nodup_cons.1 hn).1 (by rw [← e]; exact hy))).2 (hs y (List.mem_cons_of_mem _ hy)))
    rw [List.length_erase_of_mem hx] at h
    have : 0 < b.length := List.length_pos_of_mem hx
    simp only [List.length_cons]
    omega
theorem cnt_pos_mem {l : List S38} {y : S25} (h : 0 < cnt l y) : ∃ x ∈ l, x.f1 = y := by
  unfold cnt at h
  obtain ⟨x, hx, hp⟩ := List.countP_pos_iff.1 h
  simp only [Bool.and_eq_true, decide_eq_true_eq] at hp
  exact ⟨x, hx, hp.2⟩
theorem allK_iff {D : DataW Unit} {l : List S38} {ps : List S25} (hD : CountD D l) (h : AllK D ps) (hw : ∀ x ∈ l, wfL x.f1) (y : S25) : y ∈ ps ↔ 0 < cnt l y := by
  constructor
  · intro hy
    have hyw := h.2.1 y hy
    have := ((h.2.2 y hyw).1 hy).1
    rw [hD.mem y hyw] at this
    exact of_decide_eq_true this
  · intro hy
    obtain ⟨x, hx, rfl⟩ := cnt_pos_mem hy
    refine (h.2.2 _ (hw x hx)).2 ⟨?_, rfl⟩
    rw [hD.mem _ (hw x hx)]
    exact decide_eq_true hy
theorem allK_length {D : DataW Unit} {l : List S38} {ps : List S25} (hD : CountD D l) (h : AllK D ps) (hw : ∀ x ∈ l, wfL x.f1) : ps.length ≤ l.length := by
  have := nodup_subL ps (l.map (·.f1)) h.1 (fun y hy => by
    obtain ⟨x, hx, e⟩ := cnt_pos_mem ((allK_iff hD h hw y).1 hy)
    exact List.mem_map.2 ⟨x, hx, e⟩)
  simpa using this
/-- What the sorted labels are. -/
theorem sorted_eq {D : DataW Unit} {l : List S38} {ps d : List S25} (hD : CountD D l) (h : AllK D ps) (hw : ∀ x ∈ l, wfL x.f1) (hp : d.Perm ps) (hs : d.Pairwise (fun x y => ltL y x → False)) : d = labelsOf l := by
  refine rising_uniqueL _ _ ?_ (labelsOf_rises l) (fun y => by rw [hp.mem_iff, allK_iff hD h hw, mem_labelsOf])
  have hn : d.Pairwise (fun x y => x ≠ y) := hp.nodup_iff.2 h.1
  exact (hs.and hn).imp (fun {x y} h => by
    rcases ltL_tri x y with e | e | e
    · exact e
    · exact absurd e h.2
    · exact absurd e h.1)
def countsOf (l : List S38) : List S30 := (labelsOf l).map fun y => ⟨y, cnt l y⟩
def tally_Counts.f (l0 : List S38) : Option (List S30) := if l0.length ≤ 1000 ∧ (∀ x ∈ l0, wfL x.f1) then some (countsOf l0) else none
abbrev encN (l : List S38) (y : S25) : List Value := [.int .i64 y.f0, .int .u64 y.f1, .int .i64 (cnt l y : Nat)]
theorem flatN_length (l : List S38) (d : List S25) : (d.flatMap (encN l)).length = d.length * 3 := by
  induction d with
  | nil => rfl
  | cons x d ih => rw [List.flatMap_cons, List.length_append, ih]; simp [encN]; omega
theorem C_of_owned {W : World} {base : Nat} {v : Value} {d : List S25} (h : W.ownsRow base 25 2 v d.length (d.flatMap encC)) : Kd.R k25 25 W base (fun _ => True) v d := by
  refine ⟨fun _ _ => trivial, d.flatMap encC, h, ⟨by rw [flatC_length]; rfl, fun j p hj => ?_⟩⟩
  have hseg : ((d.flatMap encC).drop (j * 2)).take 2 = encC p := by
    clear h
    induction d generalizing j with
    | nil => simp at hj
    | cons x d ih =>
      cases j with
      | zero => simp at hj; subst hj; simp [encC]
      | succ j => simp at hj; rw [List.flatMap_cons, show (j + 1) * 2 = 2 + j * 2 by omega, ← List.drop_drop]; simpa [encC] using ih j hj
  show k25.M _ _ _ _ (((d.flatMap encC).drop (j * 2)).take 2)
  rw [hseg]
  exact k25_mkM _ _ _ _
theorem R_of_ownedN {W : World} {base : Nat} {v : Value} {l : List S38} {d : List S25} (h : W.ownsRow base 30 3 v d.length (d.flatMap (encN l))) : Kd.R k30 30 W base (fun _ => True) v (d.map fun y => (⟨y, cnt l y⟩ : S30)) := by
  refine ⟨fun _ _ => trivial, d.flatMap (encN l), by rw [List.length_map]; exact h, ⟨by rw [flatN_length, List.length_map]; rfl, fun j p hj => ?_⟩⟩
  rw [List.getElem?_map] at hj
  obtain ⟨q, hq, rfl⟩ := Option.map_eq_some_iff.1 hj
  have hseg : ((d.flatMap (encN l)).drop (j * 3)).take 3 = encN l q := by
    clear h hj
    induction d generalizing j with
    | nil => simp at hq
    | cons x d ih =>
      cases j with
      | zero => simp at hq; subst hq; simp [encN]
      | succ j => simp at hq; rw [List.flatMap_cons, show (j + 1) * 3 = 3 + j * 3 by omega, ← List.drop_drop]; simpa [encN] using ih j hq
  show k30.M _ _ _ _ (((d.flatMap (encN l)).drop (j * 3)).take 3)
  rw [hseg]
  exact k30_mkM _ _ _ _
theorem own_lt {W : World} {base e size k : Nat} {v : Value} {xs : List Value} (hr : W.ownsRow base e size v k xs) : ∀ q, v.ownBlock = some q → q < W.heap.size := by
  intro q hq
  rcases hr.2 with ⟨rfl, _⟩ | ⟨g, cap, cur, rfl, _, hgb, _⟩
  · simp [Value.ownBlock] at hq
  · obtain rfl : g = q := by simpa [Value.ownBlock] using hq
    exact (Array.getElem?_eq_some_iff.1 hgb).1
theorem own_base {W : World} {base e size k : Nat} {v : Value} {xs : List Value} (hr : W.ownsRow base e size v k xs) : ∀ q, v.ownBlock = some q → base ≤ q := by
  intro q hq
  rcases hr.2 with ⟨rfl, _⟩ | ⟨g, cap, cur, rfl, hb, _, _⟩
  · simp [Value.ownBlock] at hq
  · obtain rfl : g = q := by simpa [Value.ownBlock] using hq
    exact hb
def rdLb (xs : List S25) (i : Nat) : S25 := xs.getD i z25
theorem at_Lb {w : World} {A : Option Addr} {n : Nat} {xs : List S25} (h : Kd.C k25 w A n xs) (i : Nat) (h1 : i < n) : ∃ ad , A = some ad ∧ w.cell? (ad.add (i * 2)) = some (.int .i64 (rdLb xs i).f0) ∧ w.cell? ⟨(ad.add (i * 2)).block, (ad.add (i * 2)).off + 1, none⟩ = some (.int .u64 (rdLb xs i).f1) := by
  obtain ⟨ad, c, e, _, hK, hc0⟩ := Kd.C_get h z25 (i : Int) (by omega) (by omega)
  have hc : ∀ j u, c[j]? = some u → w.cell? (ad.add (i * 2 + j)) = some u := hc0
  obtain rfl := k25_open hK
  exact ⟨ad, e, hc 0 _ rfl, by rw [← add_field _ _ 1 (by omega)]; exact hc 1 _ rfl⟩
theorem rdLb_mem {xs : List S25} {i : Nat} (h : i < xs.length) : rdLb xs i ∈ xs ∧ xs.take (i + 1) = xs.take i ++ [rdLb xs i] := by
  unfold rdLb
  rw [List.getD_eq_getElem?_getD, List.getElem?_eq_getElem h, List.take_succ_eq_append_getElem h]
  exact ⟨List.getElem_mem h, rfl⟩
set_option maxRecDepth 100000 in
set_option maxHeartbeats 2000000 in
theorem tally_Counts.calls (A0 : Option Addr) (c0 : Nat) (l0 : List S38) (r : List S30) (w : World) (hr0 : Kd.C k38 w A0 l0.length l0) (hc0 : l0.length ≤ c0) (h : tally_Counts.f l0 = some r) :
    Calls Try.prog 7 #[.slice A0 l0.length c0] w fun e w' => ∃ v0_ : Value, e = .returned (v0_) ∧ Kd.R k30 30 w' w.heap.size (fun _ => True) v0_ r ∧ Below w.heap.size w w' := by
  unfold tally_Counts.f at h
  split at h
  · rename_i hg
    obtain rfl := Option.some.inj h
    have HG := Aside0.mk hg
    have HR := Aside0.mk hr0
    obtain ⟨i0, hi0, hz0, hz1, hz2⟩ := info_parts info30
    have hn0 : l0.length ≤ 1000 := hg.1
    clear h hr0 hc0 hg
    go_enter Try.func7, Try.ntmps7
    go_wp2_with fail
    refine (by_calls' A0 c0 l0 _ HR.out HG.out.2 HG.out.1).mono ?_
    rintro e w1 ⟨mb, rfl, hmb, ⟨D, hD, hown⟩, hb1⟩
    have HD := Aside0.mk hD
    have HM := Aside0.mk hown
    have HB1 := Aside0.mk hb1
    clear hown hb1 hD
    go_wp2_with fail
    refine (callsIn_wide.1 (keys_in Fence.wide 1 trivial rfl (some mb) w1)).mono ?_
    rintro e w2 ⟨rfl, rfl⟩
    go_wp2_with fail
    have hlen : ∀ ps, AllK D ps → ps.length ≤ 1000 := fun ps hps => Nat.le_trans (allK_length HD.out hps HG.out.2) hn0
    refine (callsIn_wide.1 (sorted_in 11 (Nat.le_refl _) w1.heap.size mb l0.length hn0 D hlen _ (by simp) (by simp [go_sem]) (HM.out.alloc _))).mono ?_
    rintro e w3 ⟨v, ps, d, rfl, hall, hp, hs, hrow, hb3⟩
    have HDE := Aside0.mk (sorted_eq HD.out hall HG.out.2 hp hs)
    have hdl : d.length ≤ 1000 := by rw [hp.length_eq]; exact hlen ps hall
    have HM3 := Aside0.mk ((HM.out.alloc (.cells #[.map (some mb)] 42)).kept (grown_of_below hb3 none) (by simp))
    have HB3 := Aside0.mk (below_step (HB1.out.alloc HB1.out.size (.cells #[.map (some mb)] 42)) hb3)
    obtain ⟨Ad, cd, rfl, hcd, hCd⟩ := Kd.R_reads (C_of_owned hrow)
    have HC := Aside0.mk hCd
    have hwd : ∀ y ∈ d, wfL y := fun y hy => hall.2.1 y (hp.mem_iff.1 hy)
    have HW := Aside0.mk hwd
    clear HM HB1 hrow hb3 hall hp hs hCd hwd hlen hmb
    go_wp2_with fail
    go_loopw [3, 13] (fun v i wr => ∃ k : Nat, k ≤ d.length ∧ i = .int .i64 k ∧ Aside0 (wr.ownsRow w3.heap.size 30 3 v k ((d.take k).flatMap (encN l0))) ∧ Aside0 (Below w3.heap.size w3 wr))
      (fun _ i _ => d.length - (intOf i).toNat)
    case atStart => exact ⟨0, Nat.zero_le _, rfl, ⟨World.ownsRow_nil _ _ _ _⟩, ⟨Below.refl _ _⟩⟩
    case round =>
      obtain ⟨k, hk, rfl, HO, HB⟩ := hrel
      by_cases hlt : k < d.length
      · obtain ⟨ad, rfl, x0, x1⟩ := at_Lb (Kd.C_below HC.out HB.out) k hlt
        have HT := Aside0.mk (rdLb_mem hlt)
        obtain ⟨x, hX⟩ : ∃ x, rdLb d k = x := ⟨_, rfl⟩
        rw [hX] at x0 x1 HT
        clear hX
        have hwx := HW.out x HT.out.1
        have hL : ∀ W, Below w3.heap.size w3 W → (Instr.lookup 42 (.map (some mb)) (.agg #[.int .i64 x.f0, .int .u64 x.f1]) false).run Try.prog W = .ok (.int .i64 (cnt l0 x : Nat)) W := by
          intro W hBW
          obtain ⟨c', hrun, hat, _⟩ := (HM3.out.kept (grown_of_below hBW none) (by simp)).lookup_int lawL Try.underlying42 Try.underlying3 (zeroI _) (keyOfL x hwx)
          have h2 := hat.symm.trans (HD.out.at_ _ hwx)
          obtain rfl : c' = (cnt l0 x : Nat) := by injection h2 with h; injection h
          exact hrun
        generalize hcx : (cnt l0 x : Int) = c at hL
        have HCX := Aside0.mk hcx
        clear hcx
        go_wp2_with fail
        have hBx := (HB.out.alloc HB.out.size (.cells #[.int .i64 x.f0, .int .u64 x.f1] 25))
        have hOx := HO.out.alloc (.cells #[.int .i64 x.f0, .int .u64 x.f1] 25)
        have hlenx : ((d.take k).flatMap (encN l0)).length = k * 3 := by rw [flatN_length, List.length_take]; congr 1; omega
        have HV := Aside0.mk (own_lt HO.out)
        go_region_held3 (fun w' => w'.cell? ⟨wr.heap.size, 0, none⟩ = some (.int .i64 x.f0) ∧ w'.cell? ⟨wr.heap.size, 1, none⟩ = some (.int .u64 x.f1) ∧ (Instr.lookup 42 (.map (some mb)) (.agg #[.int .i64 x.f0, .int .u64 x.f1]) false).run Try.prog w' = .ok (.int .i64 c) w')
          (first
            | (go_split_ands
               refine ⟨by go_keep, by go_keep, ?_⟩
               first | exact hL _ hBx.drew | exact hL _ (hBx.alloc hBx.size _).drew | exact hL _ (hBx.drew.alloc hBx.size _))
            | (go_split_ands
               have hBg := (((hBx.alloc hBx.size (.cells #[.int .i64 x.f0, .int .u64 x.f1, .int .i64 c] 30)).drew).grown hgrow ((hBx.alloc hBx.size (.cells #[.int .i64 x.f0, .int .u64 x.f1, .int .i64 c] 30)).drew).size (fun q hq => own_base HO.out q hq))
               refine ⟨?_, ?_, hL _ hBg⟩
               · rw [hgrow.cell_far _ (by simp; omega) (fun h => by have := HV.out _ h.symm; simp at this)]; assumption
               · rw [hgrow.cell_far _ (by simp; omega) (fun h => by have := HV.out _ h.symm; simp at this)]; assumption))
          ((refine step_append_lies _ (by rfl) _ _ _ (by rfl) w3.heap.size 30 i0 _ 3 24 Try.underlying27 hi0 hz0 hz1 hz2 rfl (by omega) _ k _ (by rfl) ((hOx.alloc _).drew) ⟨wr.heap.size + 1, 0, none⟩ 1 1 [.int .i64 x.f0, .int .u64 x.f1, .int .i64 c] (by rfl) (by rfl) (World.news_of_block (cs := #[.int .i64 x.f0, .int .u64 x.f1, .int .i64 c]) (t := 30) (fr := (0, 0)) (by have hh := heap_alloc_new (wr.alloc (.cells #[.int .i64 x.f0, .int .u64 x.f1] 25)) (.cells #[.int .i64 x.f0, .int .u64 x.f1, .int .i64 c] 30); rw [World.size_alloc] at hh; exact hh)) (by simp [Value.oneCell']) (by omega) (by unfold maxLen; omega) (by omega) (by have := HB.out.size; simp; omega) (wr.heap.size + 2) (by simp) ?_; intro gg cap w4 hown4 hgrow hat hlt4))
        have hBg := (((hBx.alloc hBx.size (.cells #[.int .i64 x.f0, .int .u64 x.f1, .int .i64 c] 30)).drew).grown hgrow ((hBx.alloc hBx.size (.cells #[.int .i64 x.f0, .int .u64 x.f1, .int .i64 c] 30)).drew).size (fun q hq => own_base HO.out q hq))
        have HO4 := Aside0.mk hown4
        have HB4 := Aside0.mk hBg
        clear hown4 hBg hgrow hat hOx hBx
        go_wp2
        go_roundw
        case rel => exact ⟨k + 1, by omega, by go_num, ⟨by rw [HT.out.2, List.flatMap_append, List.flatMap_singleton]; show w4.ownsRow _ _ _ _ _ (_ ++ [.int .i64 x.f0, .int .u64 x.f1, .int .i64 (cnt l0 x : Nat)]); rw [HCX.out]; exact HO4.out⟩, HB4⟩
        case measure => simp [intOf]; omega
      · obtain rfl : k = d.length := by omega
        go_wp2_with fail
        go_ret
        have h1 := HO.out
        rw [List.take_length] at h1
        refine ⟨_, rfl, ?_, below_step HB3.out HB.out⟩
        have h2 := Kd.R_lower (R_of_ownedN h1) HB3.out.size
        rw [HDE.out] at h2
        exact h2
  · cases h
end Go.Proofs.Ytceidmhniofapaa.PAll
