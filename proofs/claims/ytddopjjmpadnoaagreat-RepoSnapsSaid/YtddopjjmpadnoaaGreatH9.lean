/- What a law's row asks; numbers and rows of numbers that are handed in. -/
import Derived.Test.YtddopjjmpadnoaaGreatH4
import Derived.ProofKit
import Derived.OpenShut
import Derived.Carry
import Derived.Deep.Slices
namespace Go.V
set_option linter.unusedVariables false
set_option linter.unusedSectionVars false
set_option linter.unusedSimpArgs false
open Go.RowKit Go.ChangeShapes Go.WideShapes Go.Deep
section
variable {H : Type} {enc : TypeId × Value → H} {P : Program} {w : World}
theorem Kept.kit {w w' : World} (h : Kept w w') : Go.RowKit.Below w.heap.size w w' := ⟨h.os, h.tape, h.output, h.size, h.block⟩
theorem trodAll_len {base : Nat} {sp : Nat → Bool} {held : Bool} : ∀ (ts : List TypeId) (vs : List Value) (ds : List (DataW H)) (ps : List MemPlace), DataW.TrodAll enc P w base sp held ts vs ds ps → ds.length = ts.length
  | [], [], [], _, _ => rfl
  | t :: ts, v :: vs, d :: ds, ps, h => by
    obtain ⟨p, q, _, h2, _⟩ := h
    simp [trodAll_len ts vs ds q h2]
  | [], _ :: _, _, _, h => h.elim
  | [], [], _ :: _, _, h => h.elim
  | _ :: _, [], _, _, h => h.elim
  | _ :: _, _ :: _, [], _, h => h.elim
theorem trodAll_kept {w' : World} (hl : laidOutB P = true) (hb : Kept w w') : ∀ (ts : List TypeId) (vs : List Value) (ds : List (DataW H)) (ps : List MemPlace), (ts.all fun t => P.readableRec t && decide (t < P.types.size)) = true →
    DataW.TrodAll enc P w 0 (fun _ => true) true ts vs ds ps → (∀ x ∈ ps, x.block < w.heap.size) → DataW.TrodAll enc P w' 0 (fun b => decide (b < w.heap.size)) true ts vs ds ps
  | [], [], [], _, _, h, _ => h
  | t :: ts, v :: vs, d :: ds, ps, hts, h, hlt => by
    obtain ⟨p, q, h1, h2, rfl⟩ := h
    simp only [List.all_cons, Bool.and_eq_true, decide_eq_true_eq] at hts
    exact ⟨p, q, RowKit.Below.trod hl hts.1.1 hts.1.2 h1 hb.kit (fun x hx => hlt x (by simp [hx])), trodAll_kept hl hb ts vs ds q hts.2 h2 (fun x hx => hlt x (by simp [hx])), rfl⟩
  | [], _ :: _, _, _, _, h, _ => h.elim
  | [], [], _ :: _, _, _, h, _ => h.elim
  | _ :: _, [], _, _, _, h, _ => h.elim
  | _ :: _, _ :: _, [], _, _, h, _ => h.elim
theorem law_calls {f : Func} {F : FuncId} {s : ChangeSpec} {tb : TypeId} {k : Nat} (hl : laidOutB P = true) (hts : (f.params.toList.all fun t => P.readableRec t && decide (t < P.types.size)) = true) (hk : f.params.toList.length = k) (hrt : f.resultTypes = #[tb]) (htb : P.underlying tb = some .bool)
    (hvars : s.vars = []) (hfn : ∀ ds : List (DataW H), ds.length = k → (s.fn H ds).results = [.lit (.bool true)] ∧ (s.fn H ds).args = ds ∧ (s.fn H ds).vars = [])
    (W : World) (base : Nat) (args : Array Value) (ds gs : List (DataW H)) (before : List MemPlace)
    (hcore : ∀ p, DataW.TrodAll enc P W 0 (fun _ => true) true f.params.toList args.toList ds p → Calls P F args W (retOnly' fun v w' => v = .bool true ∧ Kept W w'))
    (hW : DataW.Whole enc P f.params.toList s.vars false W args.toList ds gs before) :
    Calls P F args W fun e W' => ∃ v, e = .returned v ∧ s.post enc P f false true false false W args v W' := by
  have hW' := hW
  obtain ⟨p, q, hA, hV, rfl, hfz, hnd⟩ := hW
  rw [hvars] at hV
  obtain ⟨rfl, rfl⟩ := trodVars_none hV
  refine Calls.mono (hcore p hA) fun e W' hq => ?_
  cases e with
  | returned v =>
    obtain ⟨rfl, hb⟩ := hq
    obtain ⟨h1, h2, h3⟩ := hfn (ds ++ []) (by rw [List.append_nil, trodAll_len _ _ _ _ hA, hk])
    refine ⟨_, rfl, ds, [], _, [], p, [], hW', ?_, ?_, ?_, hb.kit.frame _, fun h => by cases h⟩
    · rw [h1, hrt]
      exact trodAll_cons_mk (shut_bool htb _) trodAll_mk0
    · rw [h2, List.append_nil]
      exact trodAll_kept hl hb _ _ _ _ hts hA (fun x hx => hW'.lt x (by simpa using hx))
    · rw [h3, hvars]; rfl
  | _ => exact hq.elim
theorem int_cell {T : TypeId} (ht : P.underlying T = some (.int .i64)) {fuel : Nat} {cs : List Value} {x : DataW H × List MemPlace} (h : DataW.trod enc P w 0 (fun _ => true) true fuel T cs = some x) : ∃ n, cs = [.int .i64 n] ∧ -9223372036854775808 ≤ n ∧ n ≤ 9223372036854775807 := by
  have : ∃ n, cs = [.int .i64 n] ∧ (Lit.int .i64 n).wf = true := by
    cases fuel with
    | zero => simp [DataW.trod] at h
    | succ m =>
      unfold DataW.trod at h
      rw [ht] at h
      split at h <;> simp_all
  obtain ⟨n, rfl, hw⟩ := this
  exact ⟨n, rfl, by simpa [Lit.wf, IntKind.min, IntKind.max, IntKind.signed, IntKind.bits] using hw⟩
theorem int_arg {base : Nat} {T : TypeId} {v : Value} {d : DataW H} {ps : List MemPlace} (ht : P.underlying T = some (.int .i64)) (hval : Value.okWide P w .any base T v) (h : DataW.Trod enc P w 0 (fun _ => true) true T v d ps) : ∃ n : Int, v = .int .i64 n ∧ -9223372036854775808 ≤ n ∧ n ≤ 9223372036854775807 := by
  obtain ⟨n, rfl⟩ := okWide_int ht hval
  obtain ⟨fuel, hf⟩ := h
  obtain ⟨m, e, hm⟩ := int_cell ht hf
  have e' : [Value.int .i64 n] = [Value.int .i64 m] := e
  injection e' with e1 _
  injection e1 with _ e2
  subst e2
  exact ⟨n, rfl, hm⟩
theorem ints_arg {base : Nat} {T ti : TypeId} {fs : Array Field} {v : Value} {d : DataW H} {ps : List MemPlace} (ht : P.underlying T = some (.struct fs)) (hi : P.underlying ti = some (.int .i64)) (hs : P.cellsOf ti = 1) (hn : P.cellsOf T = fs.size) (hb : (fs.toList.zipIdx.all fun q => Nat.beq q.1.type ti && Nat.beq q.1.offset q.2) = true)
    (hval : Value.okWide P w .any base T v) (h : DataW.Trod enc P w 0 (fun _ => true) true T v d ps) : ∃ l : List Int, l.length = fs.size ∧ v = .agg (l.map (Value.int .i64)).toArray := by
  have hf : ∀ (i : Nat) (f : Field), fs[i]? = some f → f.type = ti ∧ f.offset = i := fun i f hi => by
    have h1 : (f, i) ∈ fs.toList.zipIdx := List.mk_mem_zipIdx_iff_getElem?.2 (by simpa using hi)
    have h2 := List.all_eq_true.1 hb _ h1
    simp only [Bool.and_eq_true] at h2
    exact ⟨Nat.eq_of_beq_eq_true h2.1, Nat.eq_of_beq_eq_true h2.2⟩
  obtain ⟨cs, rfl, hcs⟩ := okWide_struct ht hval
  obtain ⟨fuel, hq⟩ := h
  obtain ⟨xs, m, _, _, hl, hlen, hx⟩ := DataW.trod_struct ht hq
  have hc : (Value.agg cs).cells.toList = cs.toList := by simp [Value.cells]
  rw [hc] at hl hx
  have each : ∀ i, i < fs.size → ∃ n, cs.toList[i]? = some (Value.int .i64 n) := fun i hi' => by
    obtain ⟨h1, h2⟩ := hf i fs[i] (Array.getElem?_eq_getElem hi')
    have h3 := hx i fs[i] (Array.getElem?_eq_getElem hi')
    rw [h1, h2, hs, List.getElem?_eq_getElem (by omega)] at h3
    obtain ⟨n, e, _⟩ := int_cell hi h3
    refine ⟨n, ?_⟩
    have : ((cs.toList.drop i).take 1)[0]? = cs.toList[i]? := by simp
    rw [← this, e]; rfl
  have hlen2 : cs.toList.length = fs.size := by simp [hcs, hn]
  have all : ∀ (l : List Value), (∀ i, i < l.length → ∃ n, l[i]? = some (Value.int .i64 n)) → ∃ ns : List Int, ns.length = l.length ∧ l = ns.map (Value.int .i64) := by
    intro l
    induction l with
    | nil => intro _; exact ⟨[], rfl, rfl⟩
    | cons a l ih =>
      intro h
      obtain ⟨n, hn0⟩ := h 0 (by simp)
      obtain ⟨ns, h1, h2⟩ := ih fun i hi' => by simpa using h (i + 1) (by simpa using hi')
      refine ⟨n :: ns, by simp [h1], ?_⟩
      simp at hn0
      rw [List.map_cons, ← h2, hn0]
  obtain ⟨ns, h1, h2⟩ := all cs.toList fun i hi' => each i (by omega)
  refine ⟨ns, by omega, ?_⟩
  rw [← h2]
end
theorem wrap_u64 (a : Int) : 0 ≤ IntKind.u64.wrap a ∧ IntKind.u64.wrap a < 18446744073709551616 := by
  simp only [IntKind.wrap, IntKind.bits, IntKind.signed]
  simp
  omega
theorem wrap_i64 {a : Int} (h0 : 0 ≤ a) (h1 : a < 9223372036854775808) : IntKind.i64.wrap a = a := by
  simp only [IntKind.wrap, IntKind.bits, IntKind.signed]
  simp
  omega
def rem64 (m : Int) (a : Int) : Int := IntKind.i64.wrap (Int.tmod (IntKind.u64.wrap a) m)
def sm (m c : Int) (a : Int) : Int := IntKind.i64.wrap (c + rem64 m a)
theorem rem64_eq {m : Int} (h0 : 0 < m) (h1 : m ≤ 3000) (a : Int) : 0 ≤ rem64 m a ∧ rem64 m a < m := by
  obtain ⟨h2, h3⟩ := wrap_u64 a
  unfold rem64
  have h4 := Int.tmod_nonneg m h2
  have h5 := Int.tmod_lt_of_pos (IntKind.u64.wrap a) h0
  rw [wrap_i64 h4 (by omega)]
  exact ⟨h4, h5⟩
theorem sm_eq {m c : Int} (h0 : 0 < m) (h1 : m ≤ 3000) (h2 : 0 ≤ c) (h3 : c ≤ 3000) (a : Int) : sm m c a = c + rem64 m a := by
  obtain ⟨h4, h5⟩ := rem64_eq h0 h1 a
  exact wrap_i64 (by omega) (by omega)
end Go.V
