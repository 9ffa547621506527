/- Labels as a map's keys; a map that counts: what the entry of a key is, and what it is behind 'm[k]++'. -/
import Derived.Test.YtceidmhniofapaaPAllx0
import Derived.Test.YtceidmhniofapaaRows
import Derived.Maps.OwnOps
import Derived.Maps.Views
import Derived.Maps.OwnSet
import Derived.DeepKeys4
import Derived.WideKeyEntry
import Derived.OpenShut
namespace Go.Proofs.Ytceidmhniofapaa.PAll
open Go.RowKit Go.ChangeShapes Go.Maps Go.Proofs.YtceidmhniofapaaW.PrintWords Go.Proofs.YtceidmhniofapaaW.PrintLast Go.Proofs.YtceidmhniofapaaW.PrintMore

instance : DecidableEq S25 := fun a b =>
  if h0 : a.f0 = b.f0 then
    if h1 : a.f1 = b.f1 then isTrue (by cases a; cases b; simp_all)
    else isFalse (fun h => h1 (by rw [h]))
  else isFalse (fun h => h0 (by rw [h]))
theorem laidOutL : laidOutB Try.prog = true := by kernel_rfl
theorem wideL : (match Try.prog.underlying 25 with | some (.array _ _) | some (.struct _) => true | _ => false) = true := by kernel_rfl
theorem rowL : (25 : TypeId) < Try.prog.types.size := of_decide_eq_true (by kernel_rfl)
theorem klawL : WideMaps.KeyLaw Try.prog 25 := deep_law_laid laidOutL (m := 2) (by omega) rowL (by kernel_rfl) wideL
theorem lawL : Keyed Try.prog 25 := Keyed.of_law klawL
theorem cellsL : Try.prog.cellsOf 25 = 2 := by kernel_rfl
theorem keyTypeL : Try.prog.keyType 25 = true := by kernel_rfl
theorem zeroI (w : World) : (zeroValue 3).run Try.prog w = .ok (.int .i64 0) w := by kernel_rfl
/-- A label whose numbers are of their kinds. -/
def wfL (x : S25) : Prop := (Lit.int .i64 x.f0).wf = true ∧ (Lit.int .u64 x.f1).wf = true
/-- A label as a key. -/
def keyL (x : S25) : Lit := .string (keyBytes [.int .i64 x.f0, .int .u64 x.f1])
theorem keyL_key (x : S25) : WideAt.IsKeyLit (keyL x) := by unfold keyL; exact trivial
theorem keyOfL (x : S25) (h : wfL x) : keyOf Try.prog 25 (.agg #[.int .i64 x.f0, .int .u64 x.f1]) = some (keyL x) := by
  have hu := Try.underlying25
  have hf : (Value.agg #[.int .i64 x.f0, .int .u64 x.f1]).formed Try.prog 25 = true := by simp [Value.formed, hu, cellsL]
  have hk : ∃ m, Try.prog.types.size = m + 1 := Nat.exists_eq_add_one_of_ne_zero (Nat.ne_of_gt (Nat.lt_of_le_of_lt (Nat.zero_le _) rowL))
  obtain ⟨m, hm⟩ := hk
  unfold keyOf
  rw [hu]
  simp only [keyTypeL, hf, hm]
  have e0 : Try.prog.keyLits (m + 1) 3 [.int .i64 x.f0] = some [.int .i64 x.f0] := by
    unfold Program.keyLits
    rw [Try.underlying3]
    simp [h.1]
  have e1 : Try.prog.keyLits (m + 1) 23 [.int .u64 x.f1] = some [.int .u64 x.f1] := by
    unfold Program.keyLits
    rw [Try.underlying23]
    simp [h.2]
  have c0 : Try.prog.cellsOf 3 = 1 := by kernel_rfl
  have c1 : Try.prog.cellsOf 23 = 1 := by kernel_rfl
  have eL : Try.prog.keyLits (m + 1 + 1) 25 [.int .i64 x.f0, .int .u64 x.f1] = some [.int .i64 x.f0, .int .u64 x.f1] := by
    unfold Program.keyLits
    rw [hu]
    simp [cellsL, c0, c1, e0, e1]
  simp [Value.cells, eL, keyL]
theorem bytesLE_length : ∀ (n k : Nat), (bytesLE n k).length = n := by
  intro n
  induction n with
  | zero => intro k; rfl
  | succ n ih => intro k; simp [bytesLE, ih]
theorem bytesLE_inj : ∀ (n a b : Nat), a < 256 ^ n → b < 256 ^ n → bytesLE n a = bytesLE n b → a = b := by
  intro n
  induction n with
  | zero => intro a b ha hb _; simp at ha hb; omega
  | succ n ih =>
    intro a b ha hb h
    simp only [bytesLE, List.cons.injEq] at h
    have h1 : a / 256 = b / 256 := ih _ _ (by rw [Nat.pow_succ] at ha; omega) (by rw [Nat.pow_succ] at hb; omega) h.2
    have h2 : a % 256 = b % 256 := by
      have := congrArg UInt8.toNat h.1
      simpa using this
    omega
theorem bytesBE_length (n k : Nat) : (bytesBE n k).length = n := by simp [bytesBE, bytesLE_length]
theorem bytesBE_inj {n a b : Nat} (ha : a < 256 ^ n) (hb : b < 256 ^ n) (h : bytesBE n a = bytesBE n b) : a = b := by
  unfold bytesBE at h
  exact bytesLE_inj n a b ha hb (List.reverse_inj.1 h)
theorem keyL_inj {x y : S25} (hx : wfL x) (hy : wfL y) (h : keyL x = keyL y) : x = y := by
  unfold keyL keyBytes at h
  injection h with h
  simp only [List.flatMap_cons, List.flatMap_nil, Lit.keyBytes, List.append_nil] at h
  have h1 := List.append_inj h (by simp [bytesBE_length])
  have b0 := bounds_i64 hx.1
  have b1 := bounds_i64 hy.1
  have b2 := bounds_u64 hx.2
  have b3 := bounds_u64 hy.2
  have e1 := bytesBE_inj (by simp [IntKind.bits]; omega) (by simp [IntKind.bits]; omega) h1.1
  have e2 := bytesBE_inj (by simp [IntKind.bits]; omega) (by simp [IntKind.bits]; omega) h1.2
  simp [IntKind.bits] at e1 e2
  cases x; cases y
  simp only at *
  congr <;> omega
end Go.Proofs.Ytceidmhniofapaa.PAll

namespace Go.Proofs.Ytceidmhniofapaa
open Go.RowKit Go.ChangeShapes Go.WideShapes Go.MapKept Go.ChangeMaps Go.Maps Go.WideElems
open Go.WideMaps (KeyLaw)
theorem set_set {α : Type} (xs : Array α) (b : Nat) (o1 o2 : α) : (xs.setIfInBounds b o1).setIfInBounds b o2 = xs.setIfInBounds b o2 := by
  apply Array.ext_getElem?
  intro i
  by_cases hi : b = i
  · subst hi
    by_cases hb : b < xs.size
    · rw [Array.getElem?_setIfInBounds_self_of_lt (by simpa using hb), Array.getElem?_setIfInBounds_self_of_lt hb]
    · rw [Array.getElem?_eq_none (by simp; omega), Array.getElem?_eq_none (by simp; omega)]
  · rw [Array.getElem?_setIfInBounds_ne hi, Array.getElem?_setIfInBounds_ne hi, Array.getElem?_setIfInBounds_ne hi]
theorem set_self' {α : Type} (xs : Array α) (b : Nat) (o : α) (h : xs[b]? = some o) : xs.setIfInBounds b o = xs := by
  apply Array.ext_getElem?
  intro i
  by_cases hi : b = i
  · subst hi
    rw [Array.getElem?_setIfInBounds_self_of_lt (Array.getElem?_eq_some_iff.1 h).1, h]
  · rw [Array.getElem?_setIfInBounds_ne hi]
theorem setBlock_setBlock {w : World} {b : Nat} {o1 o2 : Obj} : setBlock (setBlock w b o1) b o2 = setBlock w b o2 := by
  unfold setBlock
  rw [set_set]
theorem setBlock_self {w : World} {b : Nat} {o : Obj} (hb : w.heap[b]? = some o) : setBlock w b o = w := by
  unfold setBlock
  rw [set_self' _ _ _ hb]
/-- 'm[k]++', operation by operation, in whatever order: what each of them runs to. -/
theorem entry_incr {H : Type} {w : World} {t k e b n : Nat} {D : DataW H} (K : KeyLaw Try.prog k) (ht : Try.prog.underlying t = some (.map k e)) (he : Try.prog.underlying e = some (.int .i64)) (hz : ∀ u : World, (zeroValue e).run Try.prog u = .ok (.int .i64 0) u)
    (hown : w.ownsMap Try.prog k (plainElem Try.prog e) b n D) (hn : n < maxLen) {key : Value} {kl : Lit} (hkl : WideAt.IsKeyLit kl) (hkey : keyOf Try.prog k key = some kl) {c : Int} (hc : D.atKey kl (.lit (.int .i64 0)) = .lit (.int .i64 c)) :
    ∃ (v0 : Value) (st : Nat) (w2 w4 : World), (Instr.lookup t (.map (some b)) key false).run Try.prog w = .ok (.int .i64 c) w ∧ (Instr.mapEntry t (.map (some b)) key).run Try.prog w = .ok (.tuple #[v0, .int .i64 st]) w2 ∧
      (Instr.lookup t (.map (some b)) key false).run Try.prog w2 = .ok (.int .i64 c) w2 ∧ (Instr.entryStore t (.map (some b)) (.int .i64 st) (.int .i64 (wrap64 (c + 1)))).run Try.prog w2 = .ok () w4 ∧
      w4.ownsMap Try.prog k (plainElem Try.prog e) b (n + 1) (D.put kl (.lit (.int .i64 (wrap64 (c + 1))))) ∧ w.grownBy w4 (some b) ∧ (∀ q, q ≠ b → w2.heap[q]? = w.heap[q]?) ∧ w2.heap.size = w.heap.size ∧ w2.tape = w.tape ∧ w2.drawn = w.drawn ∧ w2.os = w.os ∧ w2.output = w.output := by
  have KD := Keyed.of_law K
  obtain ⟨c1, hl1, hc1, _⟩ := hown.lookup_int KD ht he (hz w) hkey
  rw [hc] at hc1
  obtain rfl : c = c1 := by injection hc1 with h; injection h
  have hlt := hown.lt
  obtain ⟨w', hmu', hown', hgr'⟩ := hown.update KD ht hn hkey (plainElem_int (H := H) he (wrap64_wf (c + 1)))
  obtain ⟨w0', hmu0, hown0, hgr0⟩ := hown.update KD ht hn hkey (plainElem_int (H := H) he (show (Lit.int .i64 0).wf = true by decide))
  obtain ⟨es, clock, hb, F, hs, hD⟩ := id hown
  obtain ⟨v0, st, es1, clock1, hme, hv0, hst⟩ := entry_then_store K ht hz hb F hkey
  obtain ⟨es', clock', hes, hmu⟩ := hst (setBlock w b (.map es1 clock1)) (.int .i64 (wrap64 (c + 1))) (heap_setBlock_same hb _)
  rw [hmu] at hmu'
  obtain rfl : setBlock w b (.map es' clock') = w' := by injection hmu'
  rw [setBlock_setBlock] at hes
  refine ⟨v0, st, setBlock w b (.map es1 clock1), _, hl1, hme, ?_, hes, hown', hgr', fun q hq => heap_setBlock_other hb _ hq, by simp [setBlock], rfl, rfl, rfl, rfl⟩
  rcases K.find w hkey es.toList F.keys with ⟨h1, h2⟩ | ⟨j, e0, h1, h2, h3⟩
  · have m1 : (Instr.mapEntry t (.map (some b)) key).run Try.prog w = .ok (.tuple #[.int .i64 0, goInt clock]) (setBlock w b (.map (es.push ⟨key, .int .i64 0, clock⟩) (clock + 1))) := by
      simp [Instr.mapEntry, run_underlying ht, MapKept.run_getObj_map hb, K.check w false hkey, h1, hz, MapKept.run_setObj_map _ hb, Result.andThen, setBlock]
    have m2 : (Instr.mapUpdate t (.map (some b)) key (.int .i64 0)).run Try.prog w = .ok () (setBlock w b (.map (es.push ⟨key, .int .i64 0, clock⟩) (clock + 1))) := by
      simp [Instr.mapUpdate, run_underlying ht, MapKept.run_getObj_map hb, K.check w false hkey, h1, MapKept.run_setObj_map _ hb, Result.andThen, setBlock]
    rw [m1] at hme
    rw [m2] at hmu0
    obtain rfl : setBlock w b (.map (es.push ⟨key, .int .i64 0, clock⟩) (clock + 1)) = w0' := by injection hmu0
    have e2 : setBlock w b (.map (es.push ⟨key, .int .i64 0, clock⟩) (clock + 1)) = setBlock w b (.map es1 clock1) := by injection hme
    rw [← e2]
    obtain ⟨c2, hl2, hc2, _⟩ := hown0.lookup_int KD ht he (hz _) hkey
    rw [atKey_put_same hown.isMap hkl] at hc2
    obtain rfl : 0 = c2 := by injection hc2 with h; injection h
    have hc0 : c = 0 := by
      have hl1' : (Instr.lookup t (.map (some b)) key false).run Try.prog w = .ok (.int .i64 0) w := by
        rcases Maps.fit_look false KD ht (hz w) hb F hkey with ⟨hrun, _, _⟩ | ⟨e0, y, hm, hk, _⟩
        · exact hrun
        · exact absurd hk (h2 e0 hm)
      rw [hl1'] at hl1
      injection hl1 with h1
      injection h1 with _ h1
      exact h1.symm
    rw [hc0]
    exact hl2
  · have hj : es[j]? = some e0 := by simpa using h2
    have hsame : es.modify j (fun e => { e with key := key }) = es := by
      apply Array.ext'
      rw [Array.toList_modify, modify_eq_set _ _ _ _ h2]
      have : ({ e0 with key := key } : MapEntry) = e0 := by rw [← h3]
      rw [this]
      exact set_self _ _ _ h2
    have m1 : (Instr.mapEntry t (.map (some b)) key).run Try.prog w = .ok (.tuple #[e0.val, goInt e0.born]) (setBlock w b (.map es clock)) := by
      simp [Instr.mapEntry, run_underlying ht, MapKept.run_getObj_map hb, K.check w false hkey, h1, hj, h3, K.stays w hkey, hsame, MapKept.run_setObj_map _ hb, Result.andThen, setBlock]
    rw [m1] at hme
    have e2 : setBlock w b (.map es clock) = setBlock w b (.map es1 clock1) := by injection hme
    rw [← e2, setBlock_self hb]
    exact hl1
end Go.Proofs.Ytceidmhniofapaa
