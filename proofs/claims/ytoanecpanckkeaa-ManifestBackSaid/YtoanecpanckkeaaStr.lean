/- Structs: fields, boxes, elements of several cells, rows of them built. -/
import Derived.Test.YtoanecpanckkeaaArr
import Derived.Laws.StructEq
namespace Go.Wk
open Go.RowKit

/-- where a field lies, if it has cells -/
def fieldOff (P : Program) (s f : Nat) : Option Nat :=
  match P.underlying s with
  | some (.struct fs) => match fs[f]? with
    | some fd => match P.info? fd.type with
      | some i => if i.size = 0 then none else some fd.offset
      | none => none
    | none => none
  | _ => none
theorem fieldOff_spec {P : Program} {s f off : Nat} (h : fieldOff P s f = some off) : ∃ fs fd i, P.underlying s = some (.struct fs) ∧ fs[f]? = some fd ∧ P.info? fd.type = some i ∧ i.size ≠ 0 ∧ fd.offset = off := by
  unfold fieldOff at h
  split at h
  · rename_i fs hs
    split at h
    · rename_i fd hf
      split at h
      · rename_i i hi
        split at h
        · cases h
        · rename_i h0; exact ⟨fs, fd, i, hs, hf, hi, h0, Option.some.inj h⟩
      · cases h
    · cases h
  · cases h
def aggType : Option TypeDesc → Bool
  | some (.struct _) | some (.array _ _) => true
  | _ => false

theorem run_fieldAt {P : Program} {w : World} {s f off : Nat} (h : fieldOff P s f = some off) (a : Addr) : (Instr.fieldAt s (.pointer (some a)) f).run P w = .ok (.pointer (some (a.add off))) w := by
  obtain ⟨fs, fd, i, h1, h2, h3, h4, h5⟩ := fieldOff_spec h
  simp [Instr.fieldAt, run_underlying h1, h2, Instr.sureAddr, fieldPlace, sizeOf, typeInfo, h3, h4, h5]
theorem run_loadVar_agg {P : Program} {w : World} {t : TypeId} {a : Addr} {cs : List Value} (ht : aggType (P.underlying t) = true) (hi : (P.info? t).map (·.size) = some cs.length) (hc : ∀ j u, cs[j]? = some u → w.cell? (a.add j) = some u) : (loadVar t a).run P w = .ok (.agg cs.toArray) w := by
  cases hd : P.underlying t with
  | none => simp [hd, aggType] at ht
  | some dd =>
    have hagg : (isAgg t).run P w = .ok true w := by
      simp only [isAgg, Sem.run_bind, run_underlying hd, Result.andThen_ok]
      rw [hd] at ht
      cases dd <;> simp_all [aggType]
    obtain ⟨i, hi1, hi2⟩ := Option.map_eq_some_iff.1 hi
    have hl := run_loadCells_list (P := P) w a cs hc
    simp [loadVar, hagg, sizeOf, typeInfo, hi1, hi2, hl]

theorem fold_set : ∀ (cs pre old : List Value) (off j : Nat), pre.length = off + j → cs.length ≤ old.length →
    (cs.zipIdx j).foldl (fun (a : Array Value) (x : Value × Nat) => a.setIfInBounds (off + x.2) x.1) (pre ++ old).toArray = (pre ++ cs ++ old.drop cs.length).toArray := by
  intro cs
  induction cs with
  | nil => intro pre old off j _ _; simp
  | cons c cs ih =>
    intro pre old off j h1 h2
    cases old with
    | nil => simp at h2
    | cons o old =>
      simp only [List.zipIdx_cons, List.foldl_cons]
      have e : (pre ++ o :: old).toArray.setIfInBounds (off + j) c = ((pre ++ [c]) ++ old).toArray := by
        rw [← h1]; simp
      rw [e, ih (pre ++ [c]) old off (j + 1) (by simp [h1]; omega) (by simpa using h2)]
      simp

theorem fill_s (s : Nat) : ∀ (vs : List Value) (i : Nat) (pre old : List Value), (∀ v ∈ vs, v.cells.size = s) → pre.length = i * s → old.length = vs.length * s →
    Instr.fill (fun i => some (i * s, s)) (pre ++ old).toArray ((List.range' i vs.length).zip vs) = some (pre ++ vs.flatMap fun v => v.cells.toList).toArray := by
  intro vs
  induction vs with
  | nil => intro i pre old _ _ h; simp at h; simp [Instr.fill, h]
  | cons v vs ih =>
    intro i pre old h1 h2 h3
    have hv := h1 v (by simp)
    simp only [List.length_cons, Nat.add_mul, Nat.one_mul] at h3
    have hz : v.cells.zipIdx = (v.cells.toList.zipIdx 0).toArray := by
      apply Array.ext
      · simp
      · intro j h1 h2; simp
    have hf := fold_set v.cells.toList pre old (i * s) 0 (by omega) (by simp [hv]; omega)
    simp only [List.length_cons, List.range'_succ, List.zip_cons_cons, Instr.fill, hv, hz]
    rw [if_neg (by simp; omega)]
    simp only [List.foldl_toArray']
    rw [hf]
    have := ih (i + 1) (pre ++ v.cells.toList) (old.drop v.cells.toList.length) (fun u hu => h1 u (by simp [hu])) (by simp [hv, h2, Nat.add_mul]) (by simp [hv]; omega)
    rw [this]; simp

section
variable {P : Program} {fn : Func} {k : Kont} {l : Env} {w : World} {ops : Array Oper} {rest : List Oper} {d : Nat} {ty : TypeId} {pos : String} {after : Array Edge}

theorem W_field_pl {s f : Nat} {x : Operand} {g o : Nat} (off : Nat) (hlt : Nat.blt d fn.ntmps = true) (hf : fieldOff P s f = some off) (hx : ev l x = some (pl g o)) (h : W P fn k ops rest ((d, pl g (o + off)) :: l) w) :
    W P fn k ops (⟨some d, .fieldAddr s x f, ty, pos, after, none⟩ :: rest) l w :=
  W_val rfl rfl hlt (fun a ha => by simp [execOp, ha.eval hx, pl, run_fieldAt hf, Addr.add_lit]) h
theorem slice_form {α : Type} {lo hi : Nat} {h : Array Obj} {s : Nat} {enc : α → List Value} {v : Value} {ds : List α} (hs : Sl lo hi h s enc v ds) : ∃ ao n c, v = .slice ao n c := by
  obtain ⟨_, ao, c, hv, _⟩ := hs
  exact ⟨ao, _, c, hv⟩
theorem elp_some {α : Type} {lo hi : Nat} {h : Array Obj} {s : Nat} {enc : α → List Value} {v : Value} {ds : List α} (hs : Sl lo hi h s enc v ds) (hne : 0 < ds.length) : ∃ ad : Addr, ∀ o, elp v o = .pointer (some (ad.add o)) := by
  obtain ⟨_, ao, c, rfl, h2, h3, h4, h5⟩ := hs
  cases ao with
  | none => exfalso; have := h4 rfl; omega
  | some ad => exact ⟨ad, fun o => rfl⟩
theorem W_field_elp {α : Type} {lo hi sz : Nat} {enc : α → List Value} {v : Value} {ds : List α} {s f : Nat} {x : Operand} {o : Nat} (off : Nat) (hlt : Nat.blt d fn.ntmps = true) (hf : fieldOff P s f = some off) (hx : ev l x = some (elp v o)) (hs : Sl lo hi w.heap sz enc v ds) (hne : 0 < ds.length)
    (h : W P fn k ops rest ((d, elp v (o + off)) :: l) w) : W P fn k ops (⟨some d, .fieldAddr s x f, ty, pos, after, none⟩ :: rest) l w := by
  obtain ⟨ad, had⟩ := elp_some hs hne
  refine W_val rfl rfl hlt (fun a ha => ?_) h
  rw [had] at hx ⊢
  simp [execOp, ha.eval hx, run_fieldAt hf, addr_add_add]
/-- an element, or a part of one, as a whole -/
theorem W_load_elem {α : Type} {lo hi : Nat} {s : Nat} {enc : α → List Value} {ds : List α} {t : TypeId} {x : Operand} {v : Value} {o : Nat} {dd : α} {cs : List Value} (j f : Nat) (hlt : Nat.blt d fn.ntmps = true) (ht : aggType (P.underlying t) = true) (hi' : (P.info? t).map (·.size) = some cs.length)
    (hx : ev l x = some (elp v o)) (hs : Sl lo hi w.heap s enc v ds) (ho : o = j * s + f) (hj : ds[j]? = some dd) (hcs : ∀ (q : Nat) (u : Value), cs[q]? = some u → (enc dd)[f + q]? = some u) (h : W P fn k ops rest ((d, .agg cs.toArray) :: l) w) :
    W P fn k ops (⟨some d, .load t x, ty, pos, after, none⟩ :: rest) l w :=
  W_val rfl rfl hlt (fun a ha => by
    obtain ⟨_, ao, c, rfl, h2, h3, h4, h5⟩ := hs
    cases ao with
    | none => exfalso; have := h4 rfl; have := (List.getElem?_eq_some_iff.1 hj).1; omega
    | some ad =>
      have hr := run_loadVar_agg (P := P) (w := w) (a := ad.add o) ht hi' (fun q u hq => by
        rw [addr_add_add, cell_hc]
        have := (h5 ad rfl).1 j dd (f + q) u hj (hcs q u hq)
        rw [ho, Nat.add_assoc]; exact this)
      simp [execOp, ha.eval hx, elp, Instr.loadAt, Instr.sureAddr, hr]) h
/-- a part of an own block, as a whole -/
theorem W_load_part {B : Nat} {w0 : World} {L : List Own} {t e : TypeId} {x : Operand} {g o : Nat} {cs cs' : List Value} (i : Nat) (hlt : Nat.blt d fn.ntmps = true) (ht : aggType (P.underlying t) = true) (hi' : (P.info? t).map (·.size) = some cs'.length)
    (hx : ev l x = some (pl g o)) (hL : Led B w0 w L) (hi : L[i]? = some (g, e, cs)) (hcs : ∀ (q : Nat) (u : Value), cs'[q]? = some u → cs[o + q]? = some u) (h : W P fn k ops rest ((d, .agg cs'.toArray) :: l) w) :
    W P fn k ops (⟨some d, .load t x, ty, pos, after, none⟩ :: rest) l w :=
  W_val rfl rfl hlt (fun a ha => by
    have hb := (hL.own i _ hi).2.2
    have hr := run_loadVar_agg (P := P) (w := w) (a := ⟨g, o, none⟩) ht hi' (fun q u hq => by
      rw [Addr.add_lit, cell_hc]
      simp [hc, hb, hcs q u hq])
    simp [execOp, ha.eval hx, pl, Instr.loadAt, Instr.sureAddr, hr]) h
theorem W_box {t : TypeId} {x : Operand} {v : Value} {cs : List Value} (hlt : Nat.blt d fn.ntmps = true) (hx : ev l x = some v) (hcs : v.cells.toList = cs)
    (h : ∀ g w', g = w.heap.size → w'.heap.size = w.heap.size + 1 → Below w.heap.size w w' → w'.heap[g]? = some (.cells cs.toArray t (0, 0)) → W P fn k ops rest ((d, pl g 0) :: l) w') : W P fn k ops (⟨some d, .box t x, ty, pos, after, none⟩ :: rest) l w := by
  subst hcs
  refine W_val rfl rfl hlt (v := pl w.heap.size 0) (w' := w.alloc (.cells v.cells t)) (fun a ha => ?_) (h _ _ rfl (by simp) (alloc_below _ _) (by simpa using heap_alloc_new w (.cells v.cells t)))
  simp [execOp, ha.eval hx, Instr.box, newVar, newRow, pl]
theorem W_nil_pl {x : Operand} {g o : Nat} (hlt : Nat.blt d fn.ntmps = true) (hx : ev l x = some (pl g o)) (h : W P fn k ops rest ((d, pl g o) :: l) w) : W P fn k ops (⟨some d, .nilCheck x, ty, pos, after, none⟩ :: rest) l w :=
  W_val rfl rfl hlt (fun a ha => by simp [execOp, ha.eval hx, pl]) h
theorem W_extract {x : Operand} {vs : List Value} {u : Value} {i : Nat} (hlt : Nat.blt d fn.ntmps = true) (hx : ev l x = some (.tuple vs.toArray)) (hi : vs[i]? = some u) (h : W P fn k ops rest ((d, u) :: l) w) : W P fn k ops (⟨some d, .extract x i, ty, pos, after, none⟩ :: rest) l w :=
  W_val rfl rfl hlt (fun a ha => by simp [execOp, ha.eval hx, Instr.extract, hi]) h

theorem W_eql_agg {t t2 : TypeId} {x y : Operand} {xs ys : Array Value} {b : Bool} (hlt : Nat.blt d fn.ntmps = true) (hgt : P.eqGuardType P.depth t = false) (hx : ev l x = some (.agg xs)) (hy : ev l y = some (.agg ys)) (hr : (Op.equal t (.agg xs) (.agg ys)).run P w = .ok b w) (h : W P fn k ops rest ((d, .bool b) :: l) w) :
    W P fn k ops (⟨some d, .binOp .eql t x y t2, ty, pos, after, none⟩ :: rest) l w :=
  W_val rfl rfl hlt (fun a ha => by simp [execOp, ha.eval hx, ha.eval hy, run_eqGuard_agg w .eql t x y _ _ hgt, binOp, hr]) h
theorem W_neq_agg {t t2 : TypeId} {x y : Operand} {xs ys : Array Value} {b : Bool} (hlt : Nat.blt d fn.ntmps = true) (hgt : P.eqGuardType P.depth t = false) (hx : ev l x = some (.agg xs)) (hy : ev l y = some (.agg ys)) (hr : (Op.equal t (.agg xs) (.agg ys)).run P w = .ok b w) (h : W P fn k ops rest ((d, .bool (!b)) :: l) w) :
    W P fn k ops (⟨some d, .binOp .neq t x y t2, ty, pos, after, none⟩ :: rest) l w :=
  W_val rfl rfl hlt (fun a ha => by simp [execOp, ha.eval hx, ha.eval hy, run_eqGuard_agg w .neq t x y _ _ hgt, binOp, hr]) h
theorem W_eqlb {t t2 : TypeId} {x y : Operand} {p q : Bool} (hlt : Nat.blt d fn.ntmps = true) (ht : P.underlying t = some .bool) (hx : ev l x = some (.bool p)) (hy : ev l y = some (.bool q)) (h : W P fn k ops rest ((d, .bool (p == q)) :: l) w) : W P fn k ops (⟨some d, .binOp .eql t x y t2, ty, pos, after, none⟩ :: rest) l w :=
  W_val rfl rfl hlt (fun a ha => by
    have e1 : eqGuard .eql t x y (.bool p) (.bool q) = pure () := rfl
    simp [execOp, ha.eval hx, ha.eval hy, e1, binOp, Op.equal, Op.maxDepth, run_equalIn_bool' w 9999 t p q ht]) h
theorem W_neqb {t t2 : TypeId} {x y : Operand} {p q : Bool} (hlt : Nat.blt d fn.ntmps = true) (ht : P.underlying t = some .bool) (hx : ev l x = some (.bool p)) (hy : ev l y = some (.bool q)) (h : W P fn k ops rest ((d, .bool (p != q)) :: l) w) : W P fn k ops (⟨some d, .binOp .neq t x y t2, ty, pos, after, none⟩ :: rest) l w :=
  W_val rfl rfl hlt (fun a ha => by
    have e1 : eqGuard .neq t x y (.bool p) (.bool q) = pure () := rfl
    simp [execOp, ha.eval hx, ha.eval hy, e1, binOp, Op.equal, Op.maxDepth, run_equalIn_bool' w 9999 t p q ht, bne]) h
theorem Led.at_ {B : Nat} {w : World} (h : B ≤ w.heap.size) : Led B w w [] := ⟨h, Below.refl _ _, fun i x hx => by simp at hx, fun i j x y hx => by simp at hx⟩
theorem Led.callB {B b : Nat} {w0 w w' : World} {L : List Own} (h : Led B w0 w L) (hb : Below b w w') (h1 : B ≤ b) (h2 : ∀ (i : Nat) (x : Own), L[i]? = some x → x.1 < b) : Led B w0 w' L := by
  refine ⟨Nat.le_trans h.le hb.size, h.below.trans (hb.mono h1), fun i x hx => ?_, h.apart⟩
  obtain ⟨a1, a2, a3⟩ := h.own i x hx
  exact ⟨a1, Nat.lt_of_lt_of_le a2 hb.size, (hb.block _ (h2 i x hx)).trans a3⟩
theorem Led.callB0 {B b : Nat} {w0 w w' : World} (h : Led B w0 w []) (hb : Below b w w') (h1 : B ≤ b) : Led B w0 w' [] := h.callB hb h1 fun i x hx => by simp at hx

theorem run_buildSlice_s {t e : TypeId} {z : Value} {s : Nat} (ht : P.underlying t = some (.slice e)) (hs : P.cellsOf e = s) (_hs0 : 0 < s) (hs1 : s ≤ 1000) (hz : (P.info? e).bind (·.zero) = some z) (vs : List Value) (hn : vs.length ≤ 1000) (h1 : ∀ v ∈ vs, v.cells.size = s) :
    (Instr.buildSlice t vs.length ((List.range' 0 vs.length).zip vs).toArray).run P w = .ok (.slice (some ⟨w.heap.size, 0, none⟩) vs.length vs.length) (w.alloc (.cells (vs.flatMap fun v => v.cells.toList).toArray e)) := by
  obtain ⟨i, hi, hz'⟩ := Option.bind_eq_some_iff.1 hz
  have hsz : i.size = s := by simpa [Program.cellsOf, hi] using hs
  have h24 : ¬ (2 ^ 24 < vs.length * s) := by
    have := Nat.mul_le_mul hn hs1
    omega
  have hkey : ∀ old : Array Value, old.size = vs.length * s → Instr.fill (fun i => some (i * s, s)) old ((List.range' 0 vs.length).zip vs) = some (vs.flatMap fun v => v.cells.toList).toArray := by
    intro old ho
    have := fill_s s vs 0 [] old.toList h1 (by simp) (by simpa using ho)
    simpa using this
  have hzv : (zeroValue e).run P w = .ok z w := by simp [zeroValue, typeInfo, hi, hz']
  by_cases hv : vs.length * s = 0
  · simp only [Instr.buildSlice, Sem.run_bind, run_underlying ht, Result.andThen_ok, sizeOf, typeInfo, run_program, hi, Sem.run_pure, hsz, gt_iff_lt, hv, if_true, newRow, if_neg (show ¬ (2 ^ 24 < 0) by decide)]
    rw [hkey _ (by simp [hv])]
    simp only [Sem.run_bind, run_newObj, Result.andThen_ok, Sem.run_pure]
    rfl
  · simp only [Instr.buildSlice, Sem.run_bind, run_underlying ht, Result.andThen_ok, sizeOf, typeInfo, run_program, hi, Sem.run_pure, hsz, gt_iff_lt, if_neg h24, hv, if_false, hzv, newRow]
    rw [hkey _ (by simp)]
    simp only [Sem.run_bind, run_newObj, Result.andThen_ok, Sem.run_pure]
    rfl
theorem W_bslice_s {α : Type} {t e : TypeId} {n s : Nat} {parts : List (Nat × Operand)} {z : Value} {vs : List Value} (enc : α → List Value) (ds : List α) (hlt : Nat.blt d fn.ntmps = true) (ht : P.underlying t = some (.slice e)) (hs : P.cellsOf e = s) (hs0 : Nat.blt 0 s = true) (hs1 : Nat.ble s 1000 = true) (hz : (P.info? e).bind (·.zero) = some z)
    (hp : evp l parts 0 = some vs) (hds : (vs.map fun v => v.cells.toList) = ds.map enc) (he : ∀ x, (enc x).length = s) (hn : n = ds.length) (hle : Nat.ble ds.length 1000 = true)
    (h : ∀ v w', w'.heap.size = w.heap.size + 1 → Below w.heap.size w w' → Ow w' w.heap.size e s enc v ds → W P fn k ops rest ((d, v) :: l) w') :
    W P fn k ops (⟨some d, .buildSlice t n parts.toArray, ty, pos, after, none⟩ :: rest) l w := by
  have hlen : vs.length = ds.length := by have := congrArg List.length hds; simpa using this
  have hcells : ∀ v ∈ vs, v.cells.size = s := by
    intro v hv
    have : v.cells.toList ∈ ds.map enc := by rw [← hds]; exact List.mem_map_of_mem hv
    obtain ⟨y, _, hy⟩ := List.mem_map.1 this
    have := he y
    rw [hy] at this; simpa using this
  have hflat : (vs.flatMap fun v => v.cells.toList) = ds.flatMap enc := by
    rw [List.flatMap_def, List.flatMap_def, hds]
  have hle' := Nat.le_of_ble_eq_true hle
  have hr := run_buildSlice_s (P := P) (w := w) ht hs (by simpa using hs0) (Nat.le_of_ble_eq_true hs1) hz vs (by omega) hcells
  rw [hflat, hlen] at hr
  refine W_val rfl rfl hlt (v := .slice (some ⟨w.heap.size, 0, none⟩) ds.length ds.length) (w' := w.alloc (.cells (ds.flatMap enc).toArray e)) (fun a ha => ?_) (h _ _ (by simp) (alloc_below _ _) ?_)
  · have e' : (parts.toArray.map fun (i, x) => (i, a.eval x)) = ((List.range' 0 vs.length).zip vs).toArray := by
      apply Array.ext'
      rw [Array.toList_map]
      exact evp_eval ha _ _ _ hp
    rw [hlen] at e'
    simp [execOp, e', hn, hr]
  · exact ow_of_block (heap_alloc_new w (.cells (ds.flatMap enc).toArray e)) he rfl (by simp [maxLen]; omega) (Nat.le_refl _)
end
end Go.Wk
