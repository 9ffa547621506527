/- intern.Numbers: the numbers of lines, over a map from lines. -/
import Derived.Test.YtoonbiifkalamaaPAllx0
import Derived.Test.YtoonbiifkalamaaOften
import Derived.Maps.Views
import Derived.Maps.OwnSet
import Derived.DeepKeys4
namespace Go.Proofs.Ytoonbiifkalamaa.PAll
open Go.RowKit Go.Maps Go.Proofs.YtoonbiifkalamaaW.PrintWords Go.Proofs.YtoonbiifkalamaaW.PrintLast Go.Proofs.YtoonbiifkalamaaW.PrintMore

instance : DecidableEq S41 := fun a b =>
  if h0 : a.f0 = b.f0 then
    if h1 : a.f1 = b.f1 then isTrue (by cases a; cases b; simp_all)
    else isFalse (fun h => h1 (by rw [h]))
  else isFalse (fun h => h0 (by rw [h]))
/-! ### lines as keys -/
theorem laidOutL : laidOutB Try.prog = true := by kernel_rfl
theorem wideL : (match Try.prog.underlying 41 with | some (.array _ _) | some (.struct _) => true | _ => false) = true := by kernel_rfl
theorem rowL : (41 : TypeId) < Try.prog.types.size := of_decide_eq_true (by kernel_rfl)
theorem lawL : Keyed Try.prog 41 := Keyed.of_law (deep_law_laid laidOutL (m := 2) (by omega) rowL (by kernel_rfl) wideL)
theorem cellsL : Try.prog.cellsOf 41 = 2 := by kernel_rfl
theorem keyTypeL : Try.prog.keyType 41 = true := by kernel_rfl
/-- A line as a key. -/
def keyL (x : S41) : Lit := .string (keyBytes [.string x.f0.data.toList, .bool x.f1])
theorem keyL_key (x : S41) : WideAt.IsKeyLit (keyL x) := by unfold keyL; exact trivial
theorem keyOfL (x : S41) (h : x.f0.size ≤ maxLen) : keyOf Try.prog 41 (.agg #[.string x.f0, .bool x.f1]) = some (keyL x) := by
  have hu := Try.underlying41
  have hcs : (Try.prog.cellsOf 1) = 1 := by kernel_rfl
  have hf : (Value.agg #[.string x.f0, .bool x.f1]).formed Try.prog 41 = true := by simp [Value.formed, hu, cellsL]
  have hk : ∃ m, Try.prog.types.size = m + 1 := Nat.exists_eq_add_one_of_ne_zero (Nat.ne_of_gt (Nat.lt_of_le_of_lt (Nat.zero_le _) rowL))
  obtain ⟨m, hm⟩ := hk
  unfold keyOf
  rw [hu]
  simp only [keyTypeL, hf, hm]
  have e0 : Try.prog.keyLits (m + 1) 9 [.string x.f0] = some [.string x.f0.data.toList] := by
    unfold Program.keyLits
    rw [Try.underlying9]
    simp [h]
  have e1 : Try.prog.keyLits (m + 1) 4 [.bool x.f1] = some [.bool x.f1] := by
    unfold Program.keyLits
    rw [Try.underlying4]
  have c0 : Try.prog.cellsOf 9 = 1 := by kernel_rfl
  have c1 : Try.prog.cellsOf 4 = 1 := by kernel_rfl
  have eL : Try.prog.keyLits (m + 1 + 1) 41 [.string x.f0, .bool x.f1] = some [.string x.f0.data.toList, .bool x.f1] := by
    unfold Program.keyLits
    rw [hu]
    simp [cellsL, c0, c1, e0, e1]
  simp [Value.cells, eL, keyL]
theorem bytesLE_length : ∀ (n k : Nat), (bytesLE n k).length = n := by
  intro n
  induction n with
  | zero => intro k; rfl
  | succ n ih => intro k; simp [bytesLE, ih]
theorem bytesBE_length (n k : Nat) : (bytesBE n k).length = n := by simp [bytesBE, bytesLE_length]
theorem keyL_inj {x y : S41} (h : keyL x = keyL y) : x = y := by
  unfold keyL keyBytes at h
  injection h with h
  simp only [List.flatMap_cons, List.flatMap_nil, Lit.keyBytes, List.append_nil, List.append_assoc] at h
  have hl := congrArg List.length h
  simp only [List.length_append, bytesBE_length, List.length_cons, List.length_nil] at hl
  have h1 := List.append_inj h (by simp [bytesBE_length])
  have h2 := List.append_inj h1.2 (by omega)
  have h3 := h2.2
  cases x with | mk a b => cases y with | mk c d =>
  simp only at h2 h3 ⊢
  have e1 : a = c := by
    have := h2.1
    have e : a.data = c.data := by rw [← Array.toList_inj]; exact this
    cases a; cases c; simp_all
  have e2 : b = d := by cases b <;> cases d <;> simp at h3 ⊢
  rw [e1, e2]

/-- What is known once a line more has been seen. -/
def known1 (kn : List S41) (x : S41) : List S41 := if x ∈ kn then kn else kn ++ [x]
def knownL (kn l : List S41) : List S41 := l.foldl known1 kn
/-- A row's numbers: where each line stands among what is known ahead of it. -/
def numRow : List S41 → List S41 → List Int
  | _, [] => []
  | kn, x :: l => (kn.idxOf x : Int) :: numRow (known1 kn x) l
def numsOf : List S41 → List (List S41) → List (List Int)
  | _, [] => []
  | kn, l :: ls => numRow kn l :: numsOf (knownL kn l) ls
theorem numRow_snoc (l : List S41) (x : S41) : ∀ kn, numRow kn (l ++ [x]) = numRow kn l ++ [((knownL kn l).idxOf x : Int)] := by
  induction l with
  | nil => intro kn; rfl
  | cons y l ih => intro kn; simp only [List.cons_append, numRow, ih, knownL, List.foldl_cons]
theorem numRow_length (l : List S41) : ∀ kn, (numRow kn l).length = l.length := by
  induction l with
  | nil => intro kn; rfl
  | cons y l ih => intro kn; simp only [numRow, List.length_cons, ih]
theorem knownL_snoc (kn l : List S41) (x : S41) : knownL kn (l ++ [x]) = known1 (knownL kn l) x := by simp [knownL]
def knownLs (ls : List (List S41)) : List S41 := ls.foldl knownL []
theorem knownLs_snoc (ls : List (List S41)) (l : List S41) : knownLs (ls ++ [l]) = knownL (knownLs ls) l := by simp [knownLs]
theorem numsOf_snoc (ls : List (List S41)) (l : List S41) : numsOf [] (ls ++ [l]) = numsOf [] ls ++ [numRow (knownLs ls) l] := by
  have key : ∀ ls kn, numsOf kn (ls ++ [l]) = numsOf kn ls ++ [numRow (ls.foldl knownL kn) l] := by
    intro ls
    induction ls with
    | nil => intro kn; rfl
    | cons a ls ih => intro kn; simp only [List.cons_append, numsOf, ih, List.foldl_cons]
  exact key ls []
theorem numsOf_length (ls : List (List S41)) : ∀ kn, (numsOf kn ls).length = ls.length := by
  induction ls with
  | nil => intro kn; rfl
  | cons a ls ih => intro kn; simp only [numsOf, List.length_cons, ih]

/-- The map of what is known. -/
structure KnownD (D : DataW Unit) (kn : List S41) : Prop where
  tidy : Tidy D
  mem : ∀ y, has D (keyL y) = decide (y ∈ kn)
  at_ : ∀ y, y ∈ kn → ∀ z, D.atKey (keyL y) z = .lit (.int .i64 (kn.idxOf y))
  size : Maps.size D = kn.length
theorem KnownD.start : KnownD (.map []) [] := ⟨tidy_empty, fun y => rfl, fun y h => (List.not_mem_nil h).elim, rfl⟩
theorem KnownD.step {D : DataW Unit} {kn : List S41} (h : KnownD D kn) {x : S41} (hx : x ∉ kn) : KnownD (D.put (keyL x) (.lit (.int .i64 kn.length))) (known1 kn x) := by
  unfold known1
  rw [if_neg hx]
  refine ⟨h.tidy.put (keyL_key x) _, fun y => ?_, fun y hy z => ?_, ?_⟩
  · by_cases e : y = x
    · subst e
      rw [has_put_same h.tidy.isMap (keyL_key _)]
      simp
    · rw [has_put_other (fun e' => e (keyL_inj e')), h.mem]
      simp [e]
  · by_cases e : y = x
    · subst e
      rw [atKey_put_same h.tidy.isMap (keyL_key _)]
      simp [List.idxOf_append, hx]
    · rw [atKey_put_other (fun e' => e (keyL_inj e'))]
      have hk : y ∈ kn := by simpa [e] using hy
      rw [h.at_ y hk]
      simp [List.idxOf_append, hk]
  · rw [size_put h.tidy, h.mem, h.size]
    simp [hx]
theorem known1_le (kn : List S41) (x : S41) : (known1 kn x).length ≤ kn.length + 1 := by
  unfold known1; split <;> simp
theorem known1_in {kn : List S41} {x : S41} (h : x ∈ kn) : known1 kn x = kn := by unfold known1; rw [if_pos h]

def intern_Numbers.f (l0 : List (List (S41))) : Option ((List (List Int))) :=
  if l0.length ≤ 5 ∧ (∀ l ∈ l0, l.length ≤ 1000 ∧ ∀ x ∈ l, x.f0.size ≤ maxLen) then some (numsOf [] l0) else none
end Go.Proofs.Ytoonbiifkalamaa.PAll
