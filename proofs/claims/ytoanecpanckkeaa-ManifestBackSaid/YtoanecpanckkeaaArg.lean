/- A law's row: its arguments as slices of bytes, as rows of them, as numbers; what the row asks behind the call. -/
import Derived.Test.YtoanecpanckkeaaArr
import Derived.WalkKit
import Derived.ProofKit
import Derived.OpenShut
import Derived.Carry
import Derived.Deep.Slices
namespace Go.Wk
open Go.RowKit Go.ChangeShapes Go.WideShapes Go.Deep
set_option linter.unusedVariables false

def toB (n : Int) : UInt8 := UInt8.ofNat n.toNat
theorem toB_int {n : Int} (h : (Lit.int .u8 n).wf = true) : Value.int .u8 n = cB (toB n) := by
  have hx : 0 ≤ n ∧ n ≤ 255 := by simpa [Lit.wf, IntKind.min, IntKind.max, IntKind.signed, IntKind.bits] using h
  simp only [cB, toB, UInt8.toNat_ofNat']
  congr 1
  omega

section
variable {H : Type} {enc : TypeId × Value → H} {P : Program} {w : World}

theorem sl_of_ints {a : Addr} {len cap : Nat} {zs : List Int} (hl : len ≤ cap) (hm : cap ≤ maxLen) (hz : zs.length = cap) (hcell : ∀ i, i < zs.length → w.cell? (a.add i) = some (.int .u8 (zs.getD i 0))) (hw : ∀ n ∈ zs, (Lit.int .u8 n).wf = true) :
    Sl 0 w.heap.size w.heap 1 encB (.slice (some a) len cap) ((zs.take len).map toB) := by
  have hlen : ((zs.take len).map toB).length = len := by simp; omega
  refine ⟨fun _ => rfl, some a, cap, by rw [hlen], by omega, hm, (fun e => by cases e), fun ad had => ?_⟩
  obtain rfl := Option.some.inj had
  have hkey : ∀ i, i < len → hc w.heap (a.add i) = some (cB (toB (zs.getD i 0))) := by
    intro i hi
    have h1 := hcell i (by omega)
    rw [cell_hc] at h1
    rw [h1, toB_int]
    apply hw
    have : i < zs.length := by omega
    simp [this]
  refine ⟨fun i d j u hi hj => ?_, fun hne => ⟨Nat.zero_le _, ?_⟩⟩
  · have hil : i < len := by have := (List.getElem?_eq_some_iff.1 hi).1; omega
    have hj0 : j = 0 := by have := (List.getElem?_eq_some_iff.1 hj).1; simp [encB] at this; omega
    subst hj0
    simp [encB] at hj
    subst hj
    rw [Nat.mul_one, Nat.add_zero, hkey i hil]
    have hz' : i < zs.length := by omega
    simp [List.getElem?_take_of_lt hil, hz'] at hi
    simp [hz', ← hi, cB]
  · have h0 : 0 < len := by
      cases len with
      | zero => simp at hne
      | succ n => omega
    have := hc_lt (hkey 0 h0)
    rwa [Addr.block_add] at this

theorem sl_of_trod {sp : Nat → Bool} {held : Bool} {t e : TypeId} {fuel : Nat} {v : Value} {x : DataW H × List MemPlace} (hsp : ∀ b, sp b = true) (ht : P.underlying t = some (.slice e)) (he : P.underlying e = some (.int .u8)) (hc1 : P.cellsOf e = 1)
    (h : DataW.trod enc P w 0 sp held fuel t [v] = some x) : ∃ bs, Sl 0 w.heap.size w.heap 1 encB v bs := by
  rcases open_ints ht he hc1 h with ⟨hcs, _⟩ | ⟨a, len, cap, zs, hcs, _, hl, hm, hz, _, hcell, hw⟩
  · obtain rfl := List.head_eq_of_cons_eq hcs
    exact ⟨[], sl_nil _ _ _ _ _ (fun _ => rfl)⟩
  · obtain rfl := List.head_eq_of_cons_eq hcs
    rw [hsp, if_pos rfl] at hz
    exact ⟨_, sl_of_ints hl hm hz hcell hw⟩
theorem cells_one {v : Value} {a : Option Addr} {len cap : Nat} (h : v = .slice a len cap) : v.cells.toList = [v] := by subst h; rfl

theorem arg_bytes {base : Nat} {t e : TypeId} {v : Value} {d : DataW H} {ps : List MemPlace} (ht : P.underlying t = some (.slice e)) (he : P.underlying e = some (.int .u8)) (hc1 : P.cellsOf e = 1)
    (hval : Value.okWide P w .any base t v) (h : DataW.Trod enc P w 0 (fun _ => true) true t v d ps) : ∃ bs, Sl 0 w.heap.size w.heap 1 encB v bs := by
  obtain ⟨a, len, cap, hv⟩ := okWide_slice ht hval
  obtain ⟨fuel, hf⟩ := h
  rw [cells_one hv] at hf
  exact sl_of_trod (fun _ => rfl) ht he hc1 hf
theorem arg_rows {base : Nat} {t e q : TypeId} {v : Value} {d : DataW H} {ps : List MemPlace} (ht : P.underlying t = some (.slice e)) (he : P.underlying e = some (.slice q)) (hq : P.underlying q = some (.int .u8)) (ce : P.cellsOf e = 1) (cq : P.cellsOf q = 1)
    (hval : Value.okWide P w .any base t v) (h : DataW.Trod enc P w 0 (fun _ => true) true t v d ps) : ∃ bss vs, Rw 0 w.heap.size w.heap v vs bss := by
  obtain ⟨a, len, cap, hv⟩ := okWide_slice ht hval
  obtain ⟨fuel, hf⟩ := h
  rw [cells_one hv] at hf
  rcases open_slice1 ht ce hf with ⟨hcs, _⟩ | ⟨a, len, cap, m, n, V, D, Pl, hcs, _, hl, hm, hmm, _, hx⟩
  · obtain rfl := List.head_eq_of_cons_eq hcs
    exact ⟨[], [], rw_nil _ _ _⟩
  · obtain rfl := List.head_eq_of_cons_eq hcs
    rw [if_pos rfl] at hmm
    obtain ⟨B, hB⟩ := choose_lt (α := List UInt8) (n := len) (p := fun i bs => Sl 0 w.heap.size w.heap 1 encB (V i) bs) (fun i hi => sl_of_trod (fun _ => rfl) he hq cq (hx i (by omega)).2)
    refine ⟨(List.range len).map B, (List.range len).map V, ⟨⟨fun _ => rfl, some a, cap, by simp, by simpa using hl, hm, (fun e => by cases e), fun ad had => ?_⟩, by simp, fun i u b h1 h2 => ?_⟩⟩
    · obtain rfl := Option.some.inj had
      refine ⟨fun i d j u hi hj => ?_, fun hne => ⟨Nat.zero_le _, ?_⟩⟩
      · have hil : i < len := by have := (List.getElem?_eq_some_iff.1 hi).1; simpa using this
        have hj0 : j = 0 := by have := (List.getElem?_eq_some_iff.1 hj).1; simp [encV] at this; omega
        subst hj0
        simp [encV] at hj
        subst hj
        rw [Nat.mul_one, Nat.add_zero, ← cell_hc, (hx i (by omega)).1]
        simp [hil] at hi
        rw [hi]
      · have h0 : 0 < len := by
          cases len with
          | zero => simp at hne
          | succ n => omega
        have := (hx 0 (by omega)).1
        rw [cell_hc] at this
        have := hc_lt this
        rwa [Addr.block_add] at this
    · have hil : i < len := by have := (List.getElem?_eq_some_iff.1 h1).1; simpa using this
      simp [hil] at h1 h2
      subst h1; subst h2
      exact hB i hil
theorem arg_int {base : Nat} {t : TypeId} {k : IntKind} {v : Value} {d : DataW H} {ps : List MemPlace} (ht : P.underlying t = some (.int k)) (hval : Value.okWide P w .any base t v) (h : DataW.Trod enc P w 0 (fun _ => true) true t v d ps) : ∃ n, v = .int k n ∧ (Lit.int k n).wf = true := by
  obtain ⟨n, h1, _, _, h2⟩ := open_int ht hval h
  exact ⟨n, h1, h2⟩

theorem trodAll_len {base : Nat} {sp : Nat → Bool} {held : Bool} : ∀ (ts : List TypeId) (vs : List Value) (ds : List (DataW H)) (ps : List MemPlace), DataW.TrodAll enc P w base sp held ts vs ds ps → ds.length = ts.length
  | [], [], [], _, _ => rfl
  | t :: ts, v :: vs, d :: ds, ps, h => by
    obtain ⟨p, q, _, h2, _⟩ := h
    simp [trodAll_len ts vs ds q h2]
  | [], _ :: _, _, _, h => h.elim
  | [], [], _ :: _, _, h => h.elim
  | _ :: _, [], _, _, h => h.elim
  | _ :: _, _ :: _, [], _, h => h.elim

theorem trodAll_below {w' : World} (hl : laidOutB P = true) (hb : Below w.heap.size w w') : ∀ (ts : List TypeId) (vs : List Value) (ds : List (DataW H)) (ps : List MemPlace), (ts.all fun t => P.readableRec t && decide (t < P.types.size)) = true →
    DataW.TrodAll enc P w 0 (fun _ => true) true ts vs ds ps → (∀ x ∈ ps, x.block < w.heap.size) → DataW.TrodAll enc P w' 0 (fun b => decide (b < w.heap.size)) true ts vs ds ps
  | [], [], [], _, _, h, _ => h
  | t :: ts, v :: vs, d :: ds, ps, hts, h, hlt => by
    obtain ⟨p, q, h1, h2, rfl⟩ := h
    simp only [List.all_cons, Bool.and_eq_true, decide_eq_true_eq] at hts
    exact ⟨p, q, RowKit.Below.trod hl hts.1.1 hts.1.2 h1 hb.kit (fun x hx => hlt x (by simp [hx])), trodAll_below hl hb ts vs ds q hts.2 h2 (fun x hx => hlt x (by simp [hx])), rfl⟩
  | [], _ :: _, _, _, _, h, _ => h.elim
  | [], [], _ :: _, _, _, h, _ => h.elim
  | _ :: _, [], _, _, _, h, _ => h.elim
  | _ :: _, _ :: _, [], _, _, h, _ => h.elim

/-- a law's contract, of its walk over opened arguments -/
theorem law_calls {f : Func} {F : FuncId} {s : ChangeSpec} {tb : TypeId} {k : Nat} (hl : laidOutB P = true) (hts : (f.params.toList.all fun t => P.readableRec t && decide (t < P.types.size)) = true) (hk : f.params.toList.length = k) (hrt : f.resultTypes = #[tb]) (htb : P.underlying tb = some .bool)
    (hvars : s.vars = []) (hfn : ∀ ds : List (DataW H), ds.length = k → (s.fn H ds).results = [.lit (.bool true)] ∧ (s.fn H ds).args = ds ∧ (s.fn H ds).vars = [])
    (W : World) (base : Nat) (args : Array Value) (ds gs : List (DataW H)) (before : List MemPlace)
    (hcore : ∀ p, DataW.TrodAll enc P W 0 (fun _ => true) true f.params.toList args.toList ds p → Ret P F args W fun v w' => v = .bool true ∧ Below W.heap.size W w')
    (hW : DataW.Whole enc P f.params.toList s.vars false W args.toList ds gs before) :
    Calls P F args W fun e W' => ∃ v, e = .returned v ∧ s.post enc P f false true false false W args v W' := by
  have hW' := hW
  obtain ⟨p, q, hA, hV, rfl, hfz, hnd⟩ := hW
  rw [hvars] at hV
  obtain ⟨rfl, rfl⟩ := trodVars_none hV
  refine Calls.mono (hcore p hA) fun e W' hq => ?_
  cases e with
  | returned v =>
    obtain ⟨rfl, hb⟩ := hq
    obtain ⟨h1, h2, h3⟩ := hfn (ds ++ []) (by rw [List.append_nil, trodAll_len _ _ _ _ hA, hk])
    refine ⟨_, rfl, ds, [], _, [], p, [], hW', ?_, ?_, ?_, hb.kit.frame _, fun h => by cases h⟩
    · rw [h1, hrt]
      exact trodAll_cons_mk (shut_bool htb _) trodAll_mk0
    · rw [h2, List.append_nil]
      exact trodAll_below hl hb _ _ _ _ hts hA (fun x hx => hW'.lt x (by simpa using hx))
    · rw [h3, hvars]; rfl
  | _ => exact hq.elim
end
end Go.Wk
