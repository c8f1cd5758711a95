/- A law's arguments, opened by types: what is handed in is frozen memory that the relations tell. -/
import Derived.Test.YtoanecpanckkeaaPure
import Derived.Test.YtoanecpanckkeaaArg
namespace Go.Wk
open Go.RowKit Go.ChangeShapes Go.WideShapes Go.Deep
set_option linter.unusedVariables false

section
variable {H : Type} {enc : TypeId × Value → H} {P : Program} {w : World}
/-- whatever is read at a type is related to a plain value -/
def Opn {H : Type} (enc : TypeId × Value → H) (P : Program) (w : World) (T : TypeId) {α : Type} (t : Tr α) (ok : α → Prop) : Prop :=
  ∀ fuel cs x, DataW.trod enc P w 0 (fun _ => true) true fuel T cs = some x → ∃ a, t.rel (now w) cs a ∧ ok a
def okI (n : Int) : Prop := -9223372036854775808 ≤ n ∧ n ≤ 9223372036854775807
def okL {α : Type} (ok : α → Prop) (xs : List α) : Prop := xs.length ≤ maxLen ∧ ∀ x ∈ xs, ok x
def okT {α : Type} (_ : α) : Prop := True

theorem trod_int_form {T : TypeId} {k : IntKind} {fuel : Nat} {cs : List Value} {x : DataW H × List MemPlace} (ht : P.underlying T = some (.int k)) (h : DataW.trod enc P w 0 (fun _ => true) true fuel T cs = some x) : ∃ n, cs = [.int k n] ∧ (Lit.int k n).wf = true := by
  cases fuel with
  | zero => simp [DataW.trod] at h
  | succ m =>
    unfold DataW.trod at h
    rw [ht] at h
    split at h <;> simp_all
theorem trod_bool_form {T : TypeId} {fuel : Nat} {cs : List Value} {x : DataW H × List MemPlace} (ht : P.underlying T = some .bool) (h : DataW.trod enc P w 0 (fun _ => true) true fuel T cs = some x) : ∃ b, cs = [.bool b] := by
  cases fuel with
  | zero => simp [DataW.trod] at h
  | succ m =>
    unfold DataW.trod at h
    rw [ht] at h
    split at h <;> simp_all
theorem trod_str_form {T : TypeId} {fuel : Nat} {cs : List Value} {x : DataW H × List MemPlace} (ht : P.underlying T = some .string) (h : DataW.trod enc P w 0 (fun _ => true) true fuel T cs = some x) : ∃ s : ByteArray, cs = [.string s] ∧ s.size ≤ maxLen := by
  cases fuel with
  | zero => simp [DataW.trod] at h
  | succ m =>
    unfold DataW.trod at h
    rw [ht] at h
    split at h <;> simp_all
theorem opn_int {T : TypeId} (ht : P.underlying T = some (.int .i64)) : Opn enc P w T tI okI := by
  intro fuel cs x h
  obtain ⟨n, rfl, hw⟩ := trod_int_form ht h
  exact ⟨n, rfl, by simpa [okI, Lit.wf, IntKind.min, IntKind.max, IntKind.signed, IntKind.bits] using hw⟩
theorem opn_u8 {T : TypeId} (ht : P.underlying T = some (.int .u8)) : Opn enc P w T tB okT := by
  intro fuel cs x h
  obtain ⟨n, rfl, hw⟩ := trod_int_form ht h
  exact ⟨toB n, by rw [toB_int hw]; rfl, trivial⟩
theorem opn_bool {T : TypeId} (ht : P.underlying T = some .bool) : Opn enc P w T tBool okT := by
  intro fuel cs x h
  obtain ⟨b, rfl⟩ := trod_bool_form ht h
  exact ⟨b, rfl, trivial⟩
theorem opn_str {T : TypeId} (ht : P.underlying T = some .string) : Opn enc P w T tS (fun s => s.length ≤ maxLen) := by
  intro fuel cs x h
  obtain ⟨s, rfl, hs⟩ := trod_str_form ht h
  exact ⟨s.data.toList, rfl, hs⟩
theorem opn_slice {T e : TypeId} {α : Type} {t : Tr α} {ok : α → Prop} (ht : P.underlying T = some (.slice e)) (hc : P.cellsOf e = t.size) (he : Opn enc P w e t ok) : Opn enc P w T (tSl t) (okL ok) := by
  intro fuel cs x h
  rcases open_slice ht h with ⟨rfl, _⟩ | ⟨a, len, cap, m, n, D, Pl, rfl, _, hl, hm, hmm, _, hx⟩
  · exact ⟨[], ⟨_, rfl, SlF.nil _⟩, by simp [okL]⟩
  · rw [if_pos rfl] at hmm
    rw [hc] at hx
    by_cases hlen0 : len = 0
    · subst hlen0
      exact ⟨[], ⟨_, rfl, [], ⟨rfl, fun i d x h _ => by simp at h⟩, some a, cap, rfl, by simp, hm, (fun e => by cases e), fun ad had i d j u h _ => by simp at h⟩, by simp [okL]⟩
    have hinh : Nonempty α := by
      obtain ⟨cs', h1, h2⟩ := hx 0 (by omega)
      obtain ⟨x', _, _⟩ := he _ _ _ h2
      exact ⟨x'⟩
    haveI : Inhabited α := ⟨Classical.choice hinh⟩
    obtain ⟨q, hq⟩ := choose_lt (α := α × List Value) (n := len) (p := fun i q => t.rel (now w) q.2 q.1 ∧ ok q.1 ∧ q.2.length = t.size ∧ ∀ j, j < t.size → w.cell? ((a.add (i * t.size)).add j) = q.2[j]?) (fun i hi => by
      obtain ⟨cs', h1, h2⟩ := hx i (by omega)
      obtain ⟨x', h3, h4⟩ := he _ _ _ h2
      obtain ⟨_, h5, h6⟩ := World.cells?_some h1
      exact ⟨(x', cs'), h3, h4, h5, h6⟩)
    have hlen : ∀ i, i < len → (q i).2.length = t.size := fun i hi => (hq i hi).2.2.1
    let css : List (Cl t.size) := (List.range len).attach.map fun i => ⟨(q i.1).2, hlen i.1 (List.mem_range.1 i.2)⟩
    have hcl : css.length = len := by simp [css]
    refine ⟨(List.range len).map fun i => (q i).1, ⟨_, rfl, css, ⟨by simp [hcl], fun i d y hi hy => ?_⟩, some a, cap, by rw [hcl], by rw [hcl]; exact hl, hm, (fun e => by cases e), fun ad had i d j u hi hj => ?_⟩, by simp [Nat.le_trans hl hm], fun y hy => ?_⟩
    · have hil : i < len := by have := (List.getElem?_eq_some_iff.1 hi).1; rwa [hcl] at this
      simp [css, hil] at hi
      simp [hil] at hy
      subst hi; subst hy
      exact (hq i hil).1
    · obtain rfl := Option.some.inj had
      have hil : i < len := by have := (List.getElem?_eq_some_iff.1 hi).1; rwa [hcl] at this
      simp [css, hil] at hi
      subst hi
      have hjl : j < t.size := by have := (List.getElem?_eq_some_iff.1 hj).1; rwa [hlen i hil] at this
      have := (hq i hil).2.2.2 j hjl
      rw [addr_add_add, cell_hc] at this
      show Wk.hc w.heap _ = _
      rw [this]; exact hj
    · obtain ⟨i, hi, rfl⟩ := List.mem_map.1 hy
      exact (hq i (List.mem_range.1 hi)).2.1
theorem opn_id {T e : TypeId} (ht : P.underlying T = some (.array 32 e)) (he : P.underlying e = some (.int .u8)) (hc : P.cellsOf e = 1) (hT : P.cellsOf T = 32) : Opn enc P w T tId (fun x => x.length = 32) := by
  intro fuel cs x h
  obtain ⟨xs, m, _, rfl, hl, hlen, hx⟩ := DataW.trod_array ht h
  rw [hT] at hl
  have key : ∀ i, i < 32 → ∃ b : UInt8, cs[i]? = some (.int .u8 (b.toNat : Int)) := by
    intro i hi
    have h1 := hx i hi
    rw [hc, Nat.mul_one] at h1
    have hxi : i < xs.length := by omega
    rw [List.getElem?_eq_getElem hxi] at h1
    obtain ⟨b, hb, _⟩ := opn_u8 (w := w) (enc := enc) he _ _ _ h1
    refine ⟨b, ?_⟩
    have hb' : (cs.drop i).take 1 = [.int .u8 (b.toNat : Int)] := hb
    have : ((cs.drop i).take 1)[0]? = cs[i]? := by simp
    rw [← this, hb']; rfl
  obtain ⟨b, hb⟩ := choose_lt (α := UInt8) (n := 32) (p := fun i b => cs[i]? = some (.int .u8 (b.toNat : Int))) key
  refine ⟨(List.range 32).map b, ⟨?_, by simp⟩, by simp⟩
  apply List.ext_getElem?
  intro i
  by_cases hi : i < 32
  · rw [hb i hi]; simp [idCells, hi]
  · rw [List.getElem?_eq_none (by omega), List.getElem?_eq_none (by simp [idCells]; omega)]
theorem take_join {cs : List Value} {o s : Nat} : cs.drop o = (cs.drop o).take s ++ cs.drop (o + s) := by rw [← List.drop_drop]; exact (List.take_append_drop s _).symm

/- arguments -/
theorem arg_opn {base : Nat} {T : TypeId} {α : Type} {t : Tr α} {ok : α → Prop} {v : Value} {d : DataW H} {ps : List MemPlace} (ho : Opn enc P w T t ok) (h : DataW.Trod enc P w 0 (fun _ => true) true T v d ps) : ∃ a, t.rel (now w) v.cells.toList a ∧ ok a := by
  obtain ⟨fuel, hf⟩ := h
  exact ho _ _ _ hf
theorem arg_slice {base : Nat} {T e : TypeId} {α : Type} {t : Tr α} {ok : List α → Prop} {v : Value} {d : DataW H} {ps : List MemPlace} (ht : P.underlying T = some (.slice e)) (hval : Value.okWide P w .any base T v) (ho : Opn enc P w T (tSl t) ok) (h : DataW.Trod enc P w 0 (fun _ => true) true T v d ps) : ∃ xs, SlF t (now w) v xs ∧ ok xs := by
  obtain ⟨a, len, cap, hv⟩ := okWide_slice ht hval
  obtain ⟨xs, ⟨u, hu, hs⟩, hok⟩ := arg_opn (base := base) ho h
  rw [cells_one hv] at hu
  injection hu with hu
  subst hu
  exact ⟨xs, hs, hok⟩
theorem arg_str {base : Nat} {T : TypeId} {v : Value} {d : DataW H} {ps : List MemPlace} (ht : P.underlying T = some .string) (hval : Value.okWide P w .any base T v) (h : DataW.Trod enc P w 0 (fun _ => true) true T v d ps) : ∃ s : List UInt8, v = strV s ∧ s.length ≤ maxLen := by
  obtain ⟨s, rfl⟩ := okWide_string ht hval
  obtain ⟨s', hs, hl⟩ := arg_opn (base := base) (opn_str ht) h
  refine ⟨s', ?_, hl⟩
  simpa [Value.cells, tS] using hs
theorem arg_u8 {base : Nat} {T : TypeId} {v : Value} {d : DataW H} {ps : List MemPlace} (ht : P.underlying T = some (.int .u8)) (hval : Value.okWide P w .any base T v) (h : DataW.Trod enc P w 0 (fun _ => true) true T v d ps) : ∃ b : UInt8, v = .int .u8 (b.toNat : Int) ∧ okT b := by
  obtain ⟨n, rfl⟩ := okWide_int ht hval
  obtain ⟨b, hb, hl⟩ := arg_opn (base := base) (opn_u8 ht) h
  refine ⟨b, ?_, hl⟩
  simpa [Value.cells, tB] using hb
theorem arg_struct {base : Nat} {T : TypeId} {fs : Array Field} {α : Type} {t : Tr α} {ok : α → Prop} {v : Value} {d : DataW H} {ps : List MemPlace} (ht : P.underlying T = some (.struct fs)) (hval : Value.okWide P w .any base T v) (ho : Opn enc P w T t ok) (h : DataW.Trod enc P w 0 (fun _ => true) true T v d ps) : ∃ cs x, v = .agg cs.toArray ∧ t.rel (now w) cs x ∧ ok x := by
  obtain ⟨cs, rfl, _⟩ := okWide_struct ht hval
  obtain ⟨x, hx, hk⟩ := arg_opn (base := base) ho h
  exact ⟨cs.toList, x, by simp, by simpa [Value.cells] using hx, hk⟩
end
/-- a law's walk, out of what is lifted -/
theorem law_ret {P : Program} {f : Nat} {args : Array Value} {w : World} {F : Frz} (h : Ret P f args w fun v w' => ∃ F' : Frz, v = .bool true ∧ St [] w F F' [] w') : Ret P f args w fun v w' => v = .bool true ∧ Below w.heap.size w w' :=
  Ret.mono h fun v w' hq => by obtain ⟨F', rfl, hT⟩ := hq; exact ⟨rfl, hT.below0⟩
end Go.Wk
