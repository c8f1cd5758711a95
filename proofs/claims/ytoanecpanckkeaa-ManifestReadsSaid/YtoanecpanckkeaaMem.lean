/- Memory: blocks of the call's own, arrays, slices that are made and grown. -/
import Derived.Test.YtoanecpanckkeaaDraw
import Derived.ChangeKeysEq
namespace Go.Wk
open Go.RowKit

def cW (x : UInt32) : Value := .int .u32 (x.toNat : Int)
def cB (x : UInt8) : Value := .int .u8 (x.toNat : Int)
def cI (n : Int) : Value := .int .i64 n
theorem encB_one (es : List UInt8) : ∀ y ∈ es, ∀ u ∈ encB y, u.oneCell' = true := by intro y _ u hu; simp [encB] at hu; subst hu; rfl
theorem encI_one (es : List Int) : ∀ y ∈ es, ∀ u ∈ encI y, u.oneCell' = true := by intro y _ u hu; simp [encI] at hu; subst hu; rfl
theorem encW_one (es : List UInt32) : ∀ y ∈ es, ∀ u ∈ encW y, u.oneCell' = true := by intro y _ u hu; simp [encW] at hu; subst hu; rfl
theorem nat_tmod (a b : Nat) (n : Int) (hn : n = (b : Int)) : (a : Int).tmod n = ((a % b : Nat) : Int) := by subst hn; exact (Int.ofNat_tmod a b).symm
theorem nat_tdiv (a b : Nat) (n : Int) (hn : n = (b : Int)) (ha : a ≤ 9223372036854775807) : IntKind.i64.wrap ((a : Int).tdiv n) = ((a / b : Nat) : Int) := by
  subst hn
  rw [← Int.ofNat_tdiv]
  have h := Nat.div_le_self a b
  have h2 : 0 ≤ ((a / b : Nat) : Int) := Int.natCast_nonneg _
  have h3 : ((a / b : Nat) : Int) ≤ (a : Int) := Int.ofNat_le.2 h
  exact i64_id (by omega) (by omega)
/-- of w nothing has turned but block g -/
structure Upd (w w' : World) (g : Nat) : Prop where
  os : w'.os = w.os
  tape : w'.tape = w.tape
  output : w'.output = w.output
  size : w'.heap.size = w.heap.size
  block : ∀ k, k ≠ g → w'.heap[k]? = w.heap[k]?
  drawn : w.drawn ≤ w'.drawn

theorem Upd.below {w0 w w' : World} {B g : Nat} (h : Upd w w' g) (hb : Below B w0 w) (hg : B ≤ g) : Below B w0 w' :=
  ⟨h.os.trans hb.os, h.tape.trans hb.tape, h.output.trans hb.output, by rw [h.size]; exact hb.size, fun k hk => (h.block k (by omega)).trans (hb.block k hk), Nat.le_trans hb.drawn h.drawn⟩
theorem Sl.upd {α : Type} {lo hi g : Nat} {w w' : World} {s : Nat} {enc : α → List Value} {v : Value} {ds : List α} (hs : Sl lo hi w.heap s enc v ds) (hu : Upd w w' g) (h : g < lo ∨ hi ≤ g) : Sl lo hi w'.heap s enc v ds :=
  hs.keep fun b h1 h2 => hu.block b (by omega)
/-- where all that is there stays, what is read stays -/
theorem Sl.ext {α : Type} {lo hi : Nat} {w w' : World} {s : Nat} {enc : α → List Value} {v : Value} {ds : List α} (hs : Sl lo hi w.heap s enc v ds) (hb : Below w.heap.size w w') : Sl lo hi w'.heap s enc v ds := by
  obtain ⟨he, ao, c, e1, e2, e3, e4, e5⟩ := hs
  refine ⟨he, ao, c, e1, e2, e3, e4, fun ad had => ⟨fun i d j u hi hj => ?_, (e5 ad had).2⟩⟩
  have h1 := (e5 ad had).1 i d j u hi hj
  rw [← h1]
  exact hc_of_block (hb.block _ (hc_lt h1))
theorem stable_sl {α : Type} {lo : Nat} {s : Nat} {enc : α → List Value} {ds : List α} : Stable (fun v w => Sl lo w.heap.size w.heap s enc v ds) :=
  fun _ _ _ hb h => (h.ext hb).widen (Nat.le_refl _) hb.size
theorem stable_sl' {α : Type} {lo hi : Nat} {s : Nat} {enc : α → List Value} {ds : List α} : Stable (fun v w => Sl lo hi w.heap s enc v ds) :=
  fun _ _ _ hb h => h.ext hb

/-- a block of the call's own: its number, its elements' type, its cells -/
abbrev Own := Nat × TypeId × List Value
structure Led (B : Nat) (w0 w : World) (L : List Own) : Prop where
  le : B ≤ w.heap.size
  below : Below B w0 w
  own : ∀ (i : Nat) (x : Own), L[i]? = some x → B ≤ x.1 ∧ x.1 < w.heap.size ∧ w.heap[x.1]? = some (.cells x.2.2.toArray x.2.1 (0, 0))
  apart : ∀ (i j : Nat) (x y : Own), L[i]? = some x → L[j]? = some y → x.1 = y.1 → i = j

theorem Led.nil (w : World) : Led w.heap.size w w [] := ⟨Nat.le_refl _, Below.refl _ _, fun i x h => by simp at h, fun i j x y h => by simp at h⟩
theorem Led.drew {B : Nat} {w0 w : World} {L : List Own} (h : Led B w0 w L) : Led B w0 w.drew L := ⟨h.le, h.below.drew, h.own, h.apart⟩
theorem Led.call {B : Nat} {w0 w w' : World} {L : List Own} (h : Led B w0 w L) (hb : Below w.heap.size w w') : Led B w0 w' L := by
  refine ⟨Nat.le_trans h.le hb.size, h.below.trans (hb.mono h.le), fun i x hx => ?_, h.apart⟩
  obtain ⟨h1, h2, h3⟩ := h.own i x hx
  exact ⟨h1, Nat.lt_of_lt_of_le h2 hb.size, (hb.block _ h2).trans h3⟩
theorem Led.drop {B : Nat} {w0 w : World} {x : Own} {L : List Own} (h : Led B w0 w (x :: L)) : Led B w0 w L :=
  ⟨h.le, h.below, fun i y hy => h.own (i + 1) y (by simpa using hy), fun i j y z hy hz e => by have := h.apart (i + 1) (j + 1) y z (by simpa using hy) (by simpa using hz) e; omega⟩
theorem Led.swap {B : Nat} {w0 w : World} {x y : Own} {L : List Own} (h : Led B w0 w (x :: y :: L)) : Led B w0 w (y :: x :: L) := by
  have perm : ∀ i z, (y :: x :: L)[i]? = some z → (x :: y :: L)[if i = 0 then 1 else if i = 1 then 0 else i]? = some z := by
    intro i z hz
    match i with
    | 0 => simpa using hz
    | 1 => simpa using hz
    | i + 2 => simpa using hz
  refine ⟨h.le, h.below, fun i z hz => h.own _ z (perm i z hz), fun i j a b ha hb e => ?_⟩
  have := h.apart _ _ a b (perm i a ha) (perm j b hb) e
  split at this <;> split at this <;> (try split at this) <;> (try split at this) <;> omega
theorem Led.cons {B : Nat} {w0 w w' : World} {L : List Own} (h : Led B w0 w L) (hb : Below w.heap.size w w') {g : Nat} {t : TypeId} {cs : List Value} (h1 : w.heap.size ≤ g) (h2 : g < w'.heap.size) (h3 : w'.heap[g]? = some (.cells cs.toArray t (0, 0))) : Led B w0 w' ((g, t, cs) :: L) := by
  have hc := h.call hb
  refine ⟨hc.le, hc.below, fun i x hx => ?_, fun i j x y hx hy e => ?_⟩
  · match i with
    | 0 => simp at hx; subst hx; exact ⟨Nat.le_trans h.le h1, h2, h3⟩
    | i + 1 => exact hc.own i x (by simpa using hx)
  · match i, j with
    | 0, 0 => rfl
    | 0, j + 1 => simp at hx hy; subst hx; have := (h.own j y hy).2.1; simp at e; omega
    | i + 1, 0 => simp at hx hy; subst hy; have := (h.own i x hx).2.1; simp at e; omega
    | i + 1, j + 1 => have := h.apart i j x y (by simpa using hx) (by simpa using hy) e; omega

def setL : List Own → Nat → List Value → List Own
  | [], _, _ => []
  | x :: L, 0, cs => (x.1, x.2.1, cs) :: L
  | x :: L, i + 1, cs => x :: setL L i cs
theorem setL_at : ∀ (L : List Own) (i : Nat) (cs : List Value) (j : Nat) (x : Own), (setL L i cs)[j]? = some x → ∃ y, L[j]? = some y ∧ x.1 = y.1 ∧ x.2.1 = y.2.1 ∧ (if j = i then x.2.2 = cs else x.2.2 = y.2.2) := by
  intro L
  induction L with
  | nil => intro i cs j x h; simp [setL] at h
  | cons a L ih =>
    intro i cs j x h
    cases i with
    | zero =>
      cases j with
      | zero => simp [setL] at h; subst h; exact ⟨a, by simp, rfl, rfl, by simp⟩
      | succ j => exact ⟨x, by simpa [setL] using h, rfl, rfl, by simp⟩
    | succ i =>
      cases j with
      | zero => simp [setL] at h; subst h; exact ⟨_, by simp, rfl, rfl, by simp⟩
      | succ j =>
        obtain ⟨y, h1, h2, h3, h4⟩ := ih i cs j x (by simpa [setL] using h)
        exact ⟨y, by simpa using h1, h2, h3, by simpa using h4⟩
theorem Led.store {B : Nat} {w0 w w' : World} {L : List Own} (h : Led B w0 w L) {i g : Nat} {t : TypeId} {cs cs' : List Value} (hi : L[i]? = some (g, t, cs)) (hu : Upd w w' g) (hg : w'.heap[g]? = some (.cells cs'.toArray t (0, 0))) : Led B w0 w' (setL L i cs') := by
  obtain ⟨g1, g2, g3⟩ := h.own i _ hi
  refine ⟨by rw [hu.size]; exact h.le, hu.below h.below g1, fun j x hx => ?_, fun a b x y hx hy e => ?_⟩
  · obtain ⟨y, h1, h2, h3, h4⟩ := setL_at L i cs' j x hx
    obtain ⟨k1, k2, k3⟩ := h.own j y h1
    refine ⟨by rw [h2]; exact k1, by rw [h2, hu.size]; exact k2, ?_⟩
    by_cases hji : j = i
    · rw [if_pos hji] at h4
      subst hji
      have : y = (g, t, cs) := Option.some.inj (h1.symm.trans hi)
      subst this
      rw [h2, h3, h4]; exact hg
    · rw [if_neg hji] at h4
      rw [h2, h3, h4, hu.block y.1 (fun e => hji (h.apart j i y _ h1 hi e))]
      exact k3
  · obtain ⟨x', hx1, hx2, _⟩ := setL_at L i cs' a x hx
    obtain ⟨y', hy1, hy2, _⟩ := setL_at L i cs' b y hy
    exact h.apart a b x' y' hx1 hy1 (by rw [← hx2, ← hy2]; exact e)

def oneCells : List Value → Bool
  | [] => true
  | v :: vs => (match v with | .agg _ | .tuple _ => false | _ => true) && oneCells vs
theorem oneCells_spec : ∀ (vs : List Value), oneCells vs = true → ∀ v ∈ vs, v.cells = #[v] ∧ v.oneCell' = true := by
  intro vs
  induction vs with
  | nil => intro _ v hv; cases hv
  | cons u us ih =>
    intro h v hv
    simp only [oneCells, Bool.and_eq_true] at h
    rcases List.mem_cons.1 hv with rfl | hv
    · cases v <;> simp_all [Value.cells, Value.oneCell']
    · exact ih h.2 v hv

/-- a place of a block -/
def pl (g o : Nat) : Value := .pointer (some ⟨g, o, none⟩)

theorem alloc_below (w : World) (o : Obj) : Below w.heap.size w (w.alloc o) := (Below.refl _ _).alloc (Nat.le_refl _) o

section
variable {P : Program} {fn : Func} {k : Kont} {l : Env} {w : World} {ops : Array Oper} {rest : List Oper} {d : Nat} {ty : TypeId} {pos : String} {after : Array Edge}

/-- any operation whose run is one equation -/
theorem W_run {o : Oper} {v : Value} {w' : World} (hg : o.guard = none) (hd : o.dst = some d) (hlt : Nat.blt d fn.ntmps = true) (hrun : ∀ a, Slots l fn.ntmps a → (execOp a.eval o).run P w = .ok (.value v) w') (h : W P fn k ops rest ((d, v) :: l) w') : W P fn k ops (o :: rest) l w := W_val hg hd hlt hrun h

theorem W_alloc {t : TypeId} {z : Value} (hlt : Nat.blt d fn.ntmps = true) (hz : (P.info? t).bind (·.zero) = some z)
    (h : ∀ g w', g = w.heap.size → w'.heap.size = w.heap.size + 1 → Below w.heap.size w w' → w'.heap[g]? = some (.cells z.cells.toList.toArray t (0, 0)) → W P fn k ops rest ((d, pl g 0) :: l) w') : W P fn k ops (⟨some d, .alloc t, ty, pos, after, none⟩ :: rest) l w := by
  obtain ⟨i, hi, hz'⟩ := Option.bind_eq_some_iff.1 hz
  refine W_val rfl rfl hlt (v := pl w.heap.size 0) (w' := w.alloc (.cells z.cells t)) (fun a ha => ?_) (h _ _ rfl (by simp) (alloc_below _ _) (by simpa using heap_alloc_new w (.cells z.cells t)))
  simp [execOp, Instr.alloc, zeroValue, typeInfo, hi, hz', newVar, newRow, pl]

theorem W_load_cell {B : Nat} {w0 : World} {L : List Own} {t e : TypeId} {x : Operand} {g o : Nat} {cs : List Value} {u : Value} (i : Nat) (hlt : Nat.blt d fn.ntmps = true) (ht : cellType (P.underlying t) = true) (hx : ev l x = some (pl g o)) (hL : Led B w0 w L) (hi : L[i]? = some (g, e, cs))
    (hu : cs[o]? = some u) (h : W P fn k ops rest ((d, u) :: l) w) : W P fn k ops (⟨some d, .load t x, ty, pos, after, none⟩ :: rest) l w :=
  W_val rfl rfl hlt (fun a ha => by
    have hb := (hL.own i _ hi).2.2
    have hcell : hc w.heap ⟨g, o, none⟩ = some u := by simp [hc, hb, hu]
    simp [execOp, ha.eval hx, pl, Instr.loadAt, Instr.sureAddr, run_loadVar_cell ht hcell]) h

/-- a whole variable of the call's own -/
theorem W_load_all {B : Nat} {w0 : World} {L : List Own} {t e : TypeId} {x : Operand} {g : Nat} {cs : List Value} {dd : TypeDesc} (i : Nat) (hlt : Nat.blt d fn.ntmps = true) (ht : P.underlying t = some dd) (hd : (match dd with | .struct _ | .array _ _ => true | _ => false) = true)
    (hx : ev l x = some (pl g 0)) (hL : Led B w0 w L) (hi : L[i]? = some (g, e, cs)) (hsz : (P.info? t).map (·.size) = some cs.length)
    (h : W P fn k ops rest ((d, .agg cs.toArray) :: l) w) : W P fn k ops (⟨some d, .load t x, ty, pos, after, none⟩ :: rest) l w :=
  W_val rfl rfl hlt (fun a ha => by
    have hb := (hL.own i _ hi).2.2
    simp [execOp, ha.eval hx, pl, Instr.loadAt, Instr.sureAddr, run_loadVar_row (P := P) w g e t cs.toArray (0, 0) dd hb ht hd (by simpa using hsz)]) h

theorem setRow_upd (w : World) (g : Nat) (cs : Array Value) : Upd w (w.setRow g cs) g :=
  ⟨rfl, rfl, rfl, size_setRow w g cs, fun k hk => setRow_other w g k cs (by omega), Nat.le_refl _⟩

/-- a store into a variable of the call's own: the cells from o on -/
theorem run_storeAt_own {t e : TypeId} {v : Value} {g o : Nat} {cs : List Value} (hg : w.heap[g]? = some (.cells cs.toArray e (0, 0))) (hsz : (P.info? t).map (·.size) = some v.cells.size) (h1 : ∀ u ∈ v.cells.toList, u.oneCell' = true) (hfit : o + v.cells.size ≤ cs.length) :
    ∃ w', (Instr.storeAt t (pl g o) v).run P w = .ok () w' ∧ Upd w w' g ∧ w'.heap[g]? = some (.cells (cs.take o ++ v.cells.toList ++ cs.drop (o + v.cells.size)).toArray e (0, 0)) := by
  have hst := run_storeCells_at P g o e v.cells.toList 0 cs.toArray w hg (by simpa using hfit) h1
  obtain ⟨i, hi, hs⟩ := Option.map_eq_some_iff.1 hsz
  refine ⟨_, ?_, setRow_upd w g _, setRow_heap w g cs.toArray _ e _ hg⟩
  simp only [Nat.add_zero] at hst
  have hst' := hst
  simp only [Array.length_toList] at hst'
  simp only [pl, Instr.storeAt, Instr.sureAddr, Sem.run_bind, Sem.run_pure, Result.andThen_ok, storeVar, sizeOf, typeInfo, run_program, hi, hs, ne_eq, not_true_eq_false, if_false, hst']

theorem W_store {B : Nat} {w0 : World} {L : List Own} {t e : TypeId} {x y : Operand} {g o : Nat} {cs : List Value} {v : Value} (i : Nat) (hx : ev l x = some (pl g o)) (hy : ev l y = some v) (hL : Led B w0 w L) (hi : L[i]? = some (g, e, cs))
    (hsz : (P.info? t).map (·.size) = some v.cells.size) (h1 : ∀ u ∈ v.cells.toList, u.oneCell' = true) (hfit : o + v.cells.size ≤ cs.length)
    (h : ∀ w', Upd w w' g → Led B w0 w' (setL L i (cs.take o ++ v.cells.toList ++ cs.drop (o + v.cells.size))) → W P fn k ops rest l w') : W P fn k ops (⟨none, .store t x y, ty, pos, after, none⟩ :: rest) l w := by
  obtain ⟨w', hrun, hu, hb⟩ := run_storeAt_own (P := P) (hL.own i _ hi).2.2 hsz h1 hfit
  exact W_unit rfl rfl (fun a ha => by simp [execOp, ha.eval hx, ha.eval hy, hrun]) (h w' hu (hL.store hi hu hb))

/-- one cell -/
theorem take_set_drop (cs : List Value) (o : Nat) (u : Value) (h : o < cs.length) : cs.take o ++ [u] ++ cs.drop (o + 1) = cs.set o u := by
  rw [List.set_eq_take_append_cons_drop, if_pos h]; simp
theorem W_store_cell {B : Nat} {w0 : World} {L : List Own} {t e : TypeId} {x y : Operand} {g o : Nat} {cs : List Value} {v : Value} (i : Nat) (hx : ev l x = some (pl g o)) (hy : ev l y = some v) (hL : Led B w0 w L) (hi : L[i]? = some (g, e, cs))
    (hsz : P.cellsOf t = 1) (hsz' : (P.info? t).isSome = true) (hv : v.cells = #[v]) (h1 : v.oneCell' = true) (hfit : o < cs.length)
    (h : ∀ w', Upd w w' g → Led B w0 w' (setL L i (cs.set o v)) → W P fn k ops rest l w') : W P fn k ops (⟨none, .store t x y, ty, pos, after, none⟩ :: rest) l w := by
  obtain ⟨inf, hinf⟩ := Option.isSome_iff_exists.1 hsz'
  refine W_store i hx hy hL hi (by rw [hv]; simpa [Program.cellsOf, hinf] using hsz) (by rw [hv]; simpa using h1) (by rw [hv]; exact hfit) fun w' hu hl => h w' hu ?_
  rw [hv] at hl
  have e1 : cs.take o ++ (#[v] : Array Value).toList ++ cs.drop (o + (#[v] : Array Value).size) = cs.set o v := take_set_drop cs o v hfit
  rwa [e1] at hl
/-- a whole variable -/
theorem W_store_all {B : Nat} {w0 : World} {L : List Own} {t e : TypeId} {x y : Operand} {g : Nat} {cs cs' : List Value} (i : Nat) (hx : ev l x = some (pl g 0)) (hy : ev l y = some (.agg cs'.toArray)) (hL : Led B w0 w L) (hi : L[i]? = some (g, e, cs))
    (hsz : (P.info? t).map (·.size) = some cs'.length) (h1 : ∀ u ∈ cs', u.oneCell' = true) (hlen : cs'.length = cs.length)
    (h : ∀ w', Upd w w' g → Led B w0 w' (setL L i cs') → W P fn k ops rest l w') : W P fn k ops (⟨none, .store t x y, ty, pos, after, none⟩ :: rest) l w := by
  refine W_store i hx hy hL hi (by simpa [Value.cells] using hsz) (by simpa [Value.cells] using h1) (by simp [Value.cells, hlen]) fun w' hu hl => h w' hu ?_
  simpa [Value.cells, hlen] using hl

theorem W_index_arr {t : TypeId} {x y : Operand} {g o : Nat} {e : TypeId} {kk : IntKind} {n : Int} {len s : Nat} (j : Nat) (hlt : Nat.blt d fn.ntmps = true) (ht : P.underlying t = some (.array len e)) (hsz : P.cellsOf e = s) (hi' : (P.info? e).isSome = true)
    (hx : ev l x = some (pl g o)) (hy : ev l y = some (.int kk n)) (hn : n = (j : Int)) (hj : j < len) (h : W P fn k ops rest ((d, pl g (o + j * s)) :: l) w) : W P fn k ops (⟨some d, .indexAddr t x y, ty, pos, after, none⟩ :: rest) l w :=
  W_val rfl rfl hlt (fun a ha => by
    obtain ⟨i, hinfo⟩ := Option.isSome_iff_exists.1 hi'
    have hsz' : i.size = s := by simpa [Program.cellsOf, hinfo] using hsz
    subst hn
    simp [execOp, ha.eval hx, ha.eval hy, pl, Instr.indexAt, run_underlying ht, asIntOf, hj, sizeOf, typeInfo, hinfo, hsz', Instr.sureAddr, Addr.add_lit]) h

/-- the parts' values, where the parts come in order -/
def evp (l : Env) : List (Nat × Operand) → Nat → Option (List Value)
  | [], _ => some []
  | (j, x) :: r, i => match Nat.beq j i, ev l x, evp l r (i + 1) with
    | true, some v, some vs => some (v :: vs)
    | _, _, _ => none
theorem evp_eval {a : Act} (ha : Slots l fn.ntmps a) : ∀ (ps : List (Nat × Operand)) (i : Nat) (vs : List Value), evp l ps i = some vs → ps.map (fun p => (p.1, a.eval p.2)) = (List.range' i vs.length).zip vs := by
  intro ps
  induction ps with
  | nil => intro i vs h; simp [evp] at h; subst h; rfl
  | cons p ps ih =>
    intro i vs h
    obtain ⟨j, x⟩ := p
    simp only [evp] at h
    cases hb : Nat.beq j i with
    | false => simp [hb] at h
    | true =>
      cases hx : ev l x with
      | none => simp [hb, hx] at h
      | some v =>
        cases hr : evp l ps (i + 1) with
        | none => simp [hb, hx, hr] at h
        | some us =>
          simp [hb, hx, hr] at h
          subst h
          have : j = i := Nat.eq_of_beq_eq_true hb
          subst this
          simp [ha.eval hx, ih _ _ hr, List.range'_succ]
def evq (l : Env) : List (Nat × Operand) → Option (List (Nat × Value))
  | [] => some []
  | (j, x) :: r => match ev l x, evq l r with
    | some v, some vs => some ((j, v) :: vs)
    | _, _ => none
theorem evq_eval {a : Act} (ha : Slots l fn.ntmps a) : ∀ (ps : List (Nat × Operand)) (vs : List (Nat × Value)), evq l ps = some vs → ps.map (fun p => (p.1, a.eval p.2)) = vs := by
  intro ps
  induction ps with
  | nil => intro vs h; simp [evq] at h; simp [h]
  | cons p ps ih =>
    intro vs h
    obtain ⟨j, x⟩ := p
    simp only [evq] at h
    cases hx : ev l x with
    | none => simp [hx] at h
    | some v =>
      cases hr : evq l ps with
      | none => simp [hx, hr] at h
      | some us =>
        simp [hx, hr] at h
        subst h
        simp [ha.eval hx, ih _ hr]
theorem W_index_arr0 {t : TypeId} {x y : Operand} {g : Nat} {e : TypeId} {kk : IntKind} {n : Int} {len : Nat} (j : Nat) (hlt : Nat.blt d fn.ntmps = true) (ht : P.underlying t = some (.array len e)) (hsz : P.cellsOf e = 1) (hi' : (P.info? e).isSome = true)
    (hx : ev l x = some (pl g 0)) (hy : ev l y = some (.int kk n)) (hn : n = (j : Int)) (hj : j < len) (h : W P fn k ops rest ((d, pl g j) :: l) w) : W P fn k ops (⟨some d, .indexAddr t x y, ty, pos, after, none⟩ :: rest) l w := by
  refine W_index_arr j hlt ht hsz hi' hx hy hn hj ?_
  rw [Nat.zero_add, Nat.mul_one]; exact h
/-- a result that lies in a variable of the call's own -/
theorem C_ret_cell {B : Nat} {w0 : World} {L : List Own} {p g : Nat} {t e : TypeId} {cs : List Value} {dd : TypeDesc} (i : Nat) (hrs : fn.results = #[.cell p t]) (hl : look l p = some (pl g 0)) (hL : Led B w0 w L) (hi : L[i]? = some (g, e, cs)) (ht : P.underlying t = some dd) (hd : (match dd with | .struct _ | .array _ _ => true | _ => false) = true)
    (hsz : (P.info? t).map (·.size) = some cs.length) (hR : k.final (.agg cs.toArray) w) : C P fn k .ret l w :=
  C_ret_run (fun a ha => results_cell_row hrs a.tmps w g e cs.toArray (0, 0) dd (ha.at_ p _ hl) (hL.own i _ hi).2.2 ht hd (by simpa using hsz)) hR
theorem mapW_get {xs : List UInt32} {o : Nat} (h : o < xs.length) : (xs.map cW)[o]? = some (cW (xs.getD o 0)) := by
  simp [h]
theorem getD_some {α : Type} {xs : List α} (z : α) {o : Nat} (h : o < xs.length) : xs[o]? = some (xs.getD o z) := by simp [h]
theorem oneW (xs : List UInt32) : ∀ u ∈ xs.map cW, u.oneCell' = true := by
  intro u hu; obtain ⟨x, _, rfl⟩ := List.mem_map.1 hu; rfl
theorem oneB (xs : List UInt8) : ∀ u ∈ xs.map cB, u.oneCell' = true := by
  intro u hu; obtain ⟨x, _, rfl⟩ := List.mem_map.1 hu; rfl
/-- a struct or an array, built -/
theorem W_build {t : TypeId} {parts : List (Nat × Operand)} {v : Value} {vs : List (Nat × Value)} (hlt : Nat.blt d fn.ntmps = true) (hp : evq l parts = some vs) (hrun : ∀ w, (Instr.build t vs.toArray).run P w = .ok v w)
    (h : W P fn k ops rest ((d, v) :: l) w) : W P fn k ops (⟨some d, .build t parts.toArray, ty, pos, after, none⟩ :: rest) l w :=
  W_val rfl rfl hlt (fun a ha => by
    have e : (parts.toArray.map fun (i, x) => (i, a.eval x)) = vs.toArray := by
      apply Array.ext'
      rw [Array.toList_map]
      exact evq_eval ha _ _ hp
    simp [execOp, e, hrun]) h

/-- a slice, built of one-cell elements -/
theorem fill_one (z : Value) : ∀ (vs : List Value) (i : Nat) (pre : List Value), (∀ v ∈ vs, v.cells = #[v]) → pre.length = i →
    Instr.fill (fun i => some (i * 1, 1)) (pre ++ List.replicate vs.length z).toArray ((List.range' i vs.length).zip vs) = some (pre ++ vs).toArray := by
  intro vs
  induction vs with
  | nil => intro i pre _ _; simp [Instr.fill]
  | cons v vs ih =>
    intro i pre h1 h2
    have hv := h1 v (by simp)
    simp only [List.length_cons, List.range'_succ, List.zip_cons_cons, Instr.fill, hv]
    have e : ((#[v] : Array Value).zipIdx.foldl (fun cs (x : Value × Nat) => cs.setIfInBounds (i * 1 + x.2) x.1) (pre ++ List.replicate (vs.length + 1) z).toArray) = ((pre ++ [v]) ++ List.replicate vs.length z).toArray := by
      have hz : (#[v] : Array Value).zipIdx = #[(v, 0)] := rfl
      rw [hz]
      simp only [List.foldl_toArray', List.foldl_cons, List.foldl_nil, Nat.mul_one, Nat.add_zero, List.setIfInBounds_toArray]
      subst h2
      simp [List.replicate_succ]
    rw [if_neg (by simp [h2])]
    have := ih (i + 1) (pre ++ [v]) (fun u hu => h1 u (by simp [hu])) (by simp [h2])
    rw [e, this]; simp

theorem fill_over (pl : Nat → Option (Nat × Nat)) (hpl : ∀ i, pl i = some (i, 1)) : ∀ (vs : List Value) (i : Nat) (pre old : List Value), (∀ v ∈ vs, v.cells = #[v]) → pre.length = i → old.length = vs.length →
    Instr.fill pl (pre ++ old).toArray ((List.range' i vs.length).zip vs) = some (pre ++ vs).toArray := by
  intro vs
  induction vs with
  | nil => intro i pre old _ _ h; simp at h; subst h; simp [Instr.fill]
  | cons v vs ih =>
    intro i pre old h1 h2 h3
    have hv := h1 v (by simp)
    cases old with
    | nil => simp at h3
    | cons o old =>
      simp only [List.length_cons, List.range'_succ, List.zip_cons_cons, Instr.fill, hpl, hv]
      have e : ((#[v] : Array Value).zipIdx.foldl (fun cs (x : Value × Nat) => cs.setIfInBounds (i + x.2) x.1) (pre ++ o :: old).toArray) = ((pre ++ [v]) ++ old).toArray := by
        have hz : (#[v] : Array Value).zipIdx = #[(v, 0)] := rfl
        rw [hz]
        simp only [List.foldl_toArray', List.foldl_cons, List.foldl_nil, Nat.add_zero, List.setIfInBounds_toArray]
        subst h2
        simp
      rw [if_neg (by simp [h2])]
      have := ih (i + 1) (pre ++ [v]) old (fun u hu => h1 u (by simp [hu])) (by simp [h2]) (by simpa using h3)
      rw [e, this]; simp
theorem W_build_arr {t e : TypeId} {n : Nat} {z : Value} {parts : List (Nat × Operand)} {vs : List Value} (hlt : Nat.blt d fn.ntmps = true) (ht : P.underlying t = some (.array n e)) (hs : P.cellsOf e = 1) (hse : (P.info? e).isSome = true) (hz : (P.info? t).bind (·.zero) = some z) (hzn : z.cells.toList.length = n)
    (hp : evp l parts 0 = some vs) (hn : vs.length = n) (h1 : oneCells vs = true)
    (h : W P fn k ops rest ((d, .agg vs.toArray) :: l) w) : W P fn k ops (⟨some d, .build t parts.toArray, ty, pos, after, none⟩ :: rest) l w := by
  obtain ⟨i, hi, hz'⟩ := Option.bind_eq_some_iff.1 hz
  obtain ⟨ie, hie⟩ := Option.isSome_iff_exists.1 hse
  have hsz : ie.size = 1 := by simpa [Program.cellsOf, hie] using hs
  refine W_val rfl rfl hlt (w' := w) (fun a ha => ?_) h
  have e' : (parts.toArray.map fun (i, x) => (i, a.eval x)) = ((List.range' 0 vs.length).zip vs).toArray := by
    apply Array.ext'
    rw [Array.toList_map]
    exact evp_eval ha _ _ _ hp
  have hzv : (zeroValue t).run P w = .ok z w := by simp [zeroValue, typeInfo, hi, hz']
  have hf := fill_over (fun i => some (i * 1, 1)) (fun i => by simp) vs 0 [] z.cells.toList (fun v hv => (oneCells_spec vs h1 v hv).1) rfl (by rw [hzn, hn])
  simp only [List.nil_append, Array.toArray_toList] at hf
  simp only [execOp, e', Instr.build, Sem.run_bind, hzv, Result.andThen_ok, run_underlying ht, sizeOf, typeInfo, run_program, hie, Sem.run_pure, hsz, List.toList_toArray]
  rw [hf]
  rfl
theorem run_buildSlice_one {t e : TypeId} {z : Value} (ht : P.underlying t = some (.slice e)) (hs : P.cellsOf e = 1) (hz : (P.info? e).bind (·.zero) = some z) (hzc : z.cells = #[z]) (vs : List Value) (hn : vs.length ≤ 1000) (h1 : ∀ v ∈ vs, v.cells = #[v]) :
    (Instr.buildSlice t vs.length ((List.range' 0 vs.length).zip vs).toArray).run P w = .ok (.slice (some ⟨w.heap.size, 0, none⟩) vs.length vs.length) (w.alloc (.cells vs.toArray e)) := by
  obtain ⟨i, hi, hz'⟩ := Option.bind_eq_some_iff.1 hz
  have hsz : i.size = 1 := by simpa [Program.cellsOf, hi] using hs
  have hf := fill_one z vs 0 [] h1 rfl
  simp only [List.nil_append] at hf
  have h24 : ¬ (vs.length * 1 > 2 ^ 24) := by simp; omega
  have hrep : ∀ n : Nat, (Array.map (fun x => z.cells[x % z.cells.size]!) (Array.range n)) = (List.replicate n z).toArray := by
    intro n
    rw [hzc]
    apply Array.ext
    · simp
    · intro j h1 h2; simp [Nat.mod_one]
  have hrep0 : (Array.map (fun x => (#[] : Array Value)[x % (#[] : Array Value).size]!) (Array.range 0)) = #[] := by apply Array.ext <;> simp
  by_cases hv : vs = []
  · subst hv
    simp only [Instr.buildSlice, Sem.run_bind, run_underlying ht, Result.andThen_ok, sizeOf, typeInfo, run_program, hi, Sem.run_pure, hsz, List.length_nil, Nat.zero_mul, gt_iff_lt, if_neg (show ¬ (2 ^ 24 < 0) by decide), if_true, hrep0, List.range'_zero, List.zip_nil_left, Instr.fill, newRow, run_newObj]
    rfl
  · have hne : vs.length ≠ 0 := by simpa using hv
    have hzv : (zeroValue e).run P w = .ok z w := by simp [zeroValue, typeInfo, hi, hz']
    simp only [Nat.mul_one] at hf h24
    simp only [Instr.buildSlice, Sem.run_bind, run_underlying ht, Result.andThen_ok, sizeOf, typeInfo, run_program, hi, Sem.run_pure, hsz, hne, Nat.mul_one, if_false, newRow]
    rw [if_neg h24]
    simp only [Sem.run_bind, Sem.run_pure, Result.andThen_ok, hzv, hrep]
    rw [hf]
    rfl

theorem one_nil : oneCells [] = true := rfl
theorem one_cons {v : Value} {vs : List Value} (h : oneCells [v] = true) (hs : oneCells vs = true) : oneCells (v :: vs) = true := by
  simp only [oneCells, Bool.and_true] at h
  simp only [oneCells, h, hs, Bool.and_true]
theorem Sl.one {α : Type} {lo hi : Nat} {h : Array Obj} {s : Nat} {enc : α → List Value} {v : Value} {ds : List α} (hs : Sl lo hi h s enc v ds) : oneCells [v] = true := by
  obtain ⟨_, ao, c, rfl, _⟩ := hs; rfl
theorem encV_one {es : List Value} (h : oneCells es = true) : ∀ y ∈ es, ∀ u ∈ encV y, u.oneCell' = true := by
  intro y hy u hu
  simp only [encV, List.mem_singleton] at hu
  subst hu
  exact (oneCells_spec es h u hy).2
theorem u8_eq {a b : UInt8} (h : (a.toNat : Int) = (b.toNat : Int)) : a = b := UInt8.toNat.inj (by omega)
theorem W_bslice {t e : TypeId} {n : Nat} {parts : List (Nat × Operand)} {z : Value} {vs : List Value} (hlt : Nat.blt d fn.ntmps = true) (ht : P.underlying t = some (.slice e)) (hs : P.cellsOf e = 1) (hz : (P.info? e).bind (·.zero) = some z) (hzc : z.cells = #[z])
    (hp : evp l parts 0 = some vs) (hn : n = vs.length) (hle : Nat.ble vs.length 1000 = true) (h1 : oneCells vs = true)
    (h : ∀ g w', g = w.heap.size → w'.heap.size = w.heap.size + 1 → Below w.heap.size w w' → w'.heap[g]? = some (.cells vs.toArray e (0, 0)) → W P fn k ops rest ((d, .slice (some ⟨g, 0, none⟩) vs.length vs.length) :: l) w') :
    W P fn k ops (⟨some d, .buildSlice t n parts.toArray, ty, pos, after, none⟩ :: rest) l w := by
  refine W_val rfl rfl hlt (v := .slice (some ⟨w.heap.size, 0, none⟩) vs.length vs.length) (w' := w.alloc (.cells vs.toArray e)) (fun a ha => ?_) (h _ _ rfl (by simp) (alloc_below _ _) (heap_alloc_new w (.cells vs.toArray e)))
  have e' : (parts.toArray.map fun (i, x) => (i, a.eval x)) = ((List.range' 0 vs.length).zip vs).toArray := by
    apply Array.ext'
    rw [Array.toList_map]
    exact evp_eval ha _ _ _ hp
  simp [execOp, e', hn, run_buildSlice_one ht hs hz hzc vs (Nat.le_of_ble_eq_true hle) (fun v hv => (oneCells_spec vs h1 v hv).1)]

/-- a block's cells, as a slice -/
theorem sl_of_block {α : Type} {w : World} {g : Nat} {e : TypeId} {cs : List Value} {fr : Nat × Nat} {enc : α → List Value} {ds : List α} (hg : w.heap[g]? = some (.cells cs.toArray e fr)) (s : Nat) (he : ∀ x, (enc x).length = s) (hcs : cs = ds.flatMap enc) (cap : Nat) (hcap : ds.length ≤ cap) (hmax : cap ≤ maxLen) {lo hi : Nat} (h1 : lo ≤ g) (h2 : g < hi) :
    Sl lo hi w.heap s enc (.slice (some ⟨g, 0, none⟩) ds.length cap) ds := by
  refine ⟨he, _, cap, rfl, hcap, hmax, (fun e => by cases e), fun ad had => ?_⟩
  obtain rfl := Option.some.inj had
  refine ⟨fun i dd j u hi hj => ?_, fun _ => ⟨h1, h2⟩⟩
  rw [Addr.add_lit]
  simp only [hc, hg, Nat.zero_add]
  have key : ∀ (ds : List α) (i : Nat), ds[i]? = some dd → (ds.flatMap enc)[i * s + j]? = some u := by
    intro ds
    induction ds with
    | nil => intro i h; simp at h
    | cons x xs ih =>
      intro i h
      have hjs : j < s := by have := (List.getElem?_eq_some_iff.1 hj).1; rw [he] at this; exact this
      cases i with
      | zero =>
        simp at h; subst h
        rw [List.flatMap_cons, Nat.zero_mul, Nat.zero_add, List.getElem?_append_left (by rw [he]; exact hjs)]; exact hj
      | succ i =>
        rw [List.flatMap_cons, List.getElem?_append_right (by rw [he, Nat.add_mul]; omega), he]
        rw [show (i + 1) * s + j - s = i * s + j from by rw [Nat.add_mul]; omega]
        exact ih i (by simpa using h)
  subst hcs
  simpa using key ds i hi

theorem flat_cells {α : Type} {enc : α → List Value} {s : Nat} (he : ∀ x, (enc x).length = s) : ∀ (ds : List α) (q : Nat) (u : Value), (ds.flatMap enc)[q]? = some u → ∃ i d j, ds[i]? = some d ∧ (enc d)[j]? = some u ∧ q = i * s + j := by
  intro ds
  induction ds with
  | nil => intro q u h; simp at h
  | cons x xs ih =>
    intro q u h
    rw [List.flatMap_cons] at h
    by_cases hq : q < s
    · rw [List.getElem?_append_left (by rw [he]; exact hq)] at h
      exact ⟨0, x, q, by simp, h, by simp⟩
    · rw [List.getElem?_append_right (by rw [he]; omega), he] at h
      obtain ⟨i, d, j, h1, h2, h3⟩ := ih _ _ h
      exact ⟨i + 1, d, j, by simpa using h1, h2, by rw [Nat.add_mul]; omega⟩
theorem flat_length {α : Type} {enc : α → List Value} {s : Nat} (he : ∀ x, (enc x).length = s) (ds : List α) : (ds.flatMap enc).length = ds.length * s := by
  induction ds with
  | nil => simp
  | cons x xs ih => rw [List.flatMap_cons, List.length_append, ih, he, List.length_cons, Nat.add_mul]; omega

theorem W_bslice_sl {α : Type} {t e : TypeId} {n : Nat} {parts : List (Nat × Operand)} {z : Value} {vs : List Value} (enc : α → List Value) (ds : List α) (hlt : Nat.blt d fn.ntmps = true) (ht : P.underlying t = some (.slice e)) (hs : P.cellsOf e = 1) (hz : (P.info? e).bind (·.zero) = some z) (hzc : z.cells = #[z])
    (hp : evp l parts 0 = some vs) (hds : vs = ds.flatMap enc) (he : ∀ x, (enc x).length = 1) (hn : n = ds.length) (hle : Nat.ble ds.length 1000 = true) (h1 : oneCells vs = true)
    (h : ∀ v w', w'.heap.size = w.heap.size + 1 → Below w.heap.size w w' → Sl w.heap.size w'.heap.size w'.heap 1 enc v ds → W P fn k ops rest ((d, v) :: l) w') :
    W P fn k ops (⟨some d, .buildSlice t n parts.toArray, ty, pos, after, none⟩ :: rest) l w := by
  have hlen : vs.length = ds.length := by
    rw [hds, flat_length he]; omega
  refine W_bslice hlt ht hs hz hzc hp (by omega) (by rw [hlen]; exact hle) h1 fun g w' hg hsz hb hblk => ?_
  rw [hlen]
  exact h _ w' hsz hb (sl_of_block hblk 1 he hds ds.length (Nat.le_refl _) (by have := Nat.le_of_ble_eq_true hle; simp [maxLen]; omega) (by omega) (by omega))

/-- a slice that the call owns, and appends to -/
def Ow {α : Type} (w : World) (base : Nat) (e : TypeId) (s : Nat) (enc : α → List Value) (v : Value) (ds : List α) : Prop := (∀ x, (enc x).length = s) ∧ w.ownsRow base e s v ds.length (ds.flatMap enc)

theorem Ow.nil {α : Type} (w : World) (base : Nat) (e : TypeId) (s : Nat) (enc : α → List Value) (he : ∀ x, (enc x).length = s) : Ow w base e s enc (.slice none 0 0) ([] : List α) := ⟨he, World.ownsRow_nil w base e s⟩
theorem Ow.one {α : Type} {w : World} {base : Nat} {e : TypeId} {s : Nat} {enc : α → List Value} {v : Value} {ds : List α} (h : Ow w base e s enc v ds) : oneCells [v] = true := by
  rcases h.2.2 with ⟨rfl, _⟩ | ⟨g, cap, cur, rfl, _⟩ <;> rfl
theorem Ow.sl {α : Type} {w : World} {base : Nat} {e : TypeId} {s : Nat} {enc : α → List Value} {v : Value} {ds : List α} (h : Ow w base e s enc v ds) : Sl base w.heap.size w.heap s enc v ds := by
  obtain ⟨he, hlen, h2⟩ := h
  rcases h2 with ⟨rfl, h0⟩ | ⟨g, cap, cur, rfl, hb, hg, hn, hm, hs, htake⟩
  · have : ds = [] := List.eq_nil_of_length_eq_zero h0
    subst this
    exact ⟨he, none, 0, rfl, by simp, by simp [maxLen], fun _ => rfl, fun ad had => by cases had⟩
  · refine ⟨he, _, cap, rfl, hn, hm, (fun e => by cases e), fun ad had => ?_⟩
    obtain rfl := Option.some.inj had
    refine ⟨fun i dd j u hi hj => ?_, fun _ => ⟨hb, (Array.getElem?_eq_some_iff.1 hg).1⟩⟩
    rw [Addr.add_lit]
    simp only [hc, hg, Nat.zero_add]
    have hx := sl_of_block (w := { w with heap := #[.cells (ds.flatMap enc).toArray e (0,0)] }) (g := 0) (e := e) (fr := (0, 0)) rfl s he rfl ds.length (Nat.le_refl _) (Nat.le_trans hn hm) (lo := 0) (hi := 1) (Nat.le_refl _) (Nat.lt_succ_self _)
    obtain ⟨_, ao, c, e1, _, _, _, e5⟩ := hx
    simp only [Value.slice.injEq] at e1
    obtain ⟨e1, _, _⟩ := e1
    have hj' := (e5 ⟨0, 0, none⟩ e1.symm).1 i dd j u hi hj
    rw [Addr.add_lit] at hj'
    simp only [hc, Nat.zero_add] at hj'
    have hj2 : (ds.flatMap enc)[i * s + j]? = some u := by simpa using hj'
    rw [← htake, List.getElem?_take] at hj2
    split at hj2
    · simpa using hj2
    · cases hj2
theorem Ow.call {α : Type} {w w' : World} {base : Nat} {e : TypeId} {s : Nat} {enc : α → List Value} {v : Value} {ds : List α} (h : Ow w base e s enc v ds) (hb : Below w.heap.size w w') : Ow w' base e s enc v ds := by
  refine ⟨h.1, h.2.1, ?_⟩
  rcases h.2.2 with h2 | ⟨g, cap, cur, hv, hbg, hg, r⟩
  · exact .inl h2
  · exact .inr ⟨g, cap, cur, hv, hbg, by rw [hb.block g (Array.getElem?_eq_some_iff.1 hg).1]; exact hg, r⟩
theorem Ow.upd {α : Type} {w w' : World} {base g : Nat} {e : TypeId} {s : Nat} {enc : α → List Value} {v : Value} {ds : List α} (h : Ow w base e s enc v ds) (hu : Upd w w' g) (hne : v.ownBlock ≠ some g) : Ow w' base e s enc v ds := by
  refine ⟨h.1, h.2.1, ?_⟩
  rcases h.2.2 with h2 | ⟨g', cap, cur, hv, hbg, hg, r⟩
  · exact .inl h2
  · refine .inr ⟨g', cap, cur, hv, hbg, ?_, r⟩
    rw [hu.block g' (by intro e; subst e; subst hv; simp [Value.ownBlock] at hne)]; exact hg

theorem ow_of_block {α : Type} {w : World} {g : Nat} {e : TypeId} {cs : List Value} {enc : α → List Value} {ds : List α} {base s : Nat} (hg : w.heap[g]? = some (.cells cs.toArray e (0, 0))) (he : ∀ x, (enc x).length = s) (hcs : cs = ds.flatMap enc) (hmax : ds.length ≤ maxLen) (h1 : base ≤ g) : Ow w base e s enc (.slice (some ⟨g, 0, none⟩) ds.length ds.length) ds := by
  refine ⟨he, flat_length he ds, .inr ⟨g, ds.length, cs.toArray, rfl, h1, hg, Nat.le_refl _, hmax, ?_, ?_⟩⟩
  · subst hcs; simp only [List.size_toArray]; exact flat_length he ds
  · subst hcs; rw [← flat_length he ds]; exact List.take_length
theorem W_bslice_ow {α : Type} {t e : TypeId} {n : Nat} {parts : List (Nat × Operand)} {z : Value} {vs : List Value} (enc : α → List Value) (ds : List α) (hlt : Nat.blt d fn.ntmps = true) (ht : P.underlying t = some (.slice e)) (hs : P.cellsOf e = 1) (hz : (P.info? e).bind (·.zero) = some z) (hzc : z.cells = #[z])
    (hp : evp l parts 0 = some vs) (hds : vs = ds.flatMap enc) (he : ∀ x, (enc x).length = 1) (hn : n = ds.length) (hle : Nat.ble ds.length 1000 = true) (h1 : oneCells vs = true)
    (h : ∀ v w', w'.heap.size = w.heap.size + 1 → Below w.heap.size w w' → Ow w' w.heap.size e 1 enc v ds → W P fn k ops rest ((d, v) :: l) w') :
    W P fn k ops (⟨some d, .buildSlice t n parts.toArray, ty, pos, after, none⟩ :: rest) l w := by
  have hlen : vs.length = ds.length := by rw [hds, flat_length he]; omega
  refine W_bslice hlt ht hs hz hzc hp (by omega) (by rw [hlen]; exact hle) h1 fun g w' hg hsz hb hblk => ?_
  rw [hlen]
  exact h _ w' hsz hb (ow_of_block hblk he hds (by have := Nat.le_of_ble_eq_true hle; simp [maxLen]; omega) (by omega))

/-- the row behind an append: the old block, or a new one -/
def NewOr (w : World) (v v' : Value) : Prop := v'.ownBlock = v.ownBlock ∨ ∃ g, w.heap.size ≤ g ∧ v'.ownBlock = some g
theorem append_more {base : Nat} {t ty e : TypeId} {i : TypeInfo} {z : Value} {size bytes : Nat} (ht : P.underlying t = some (.slice e)) (hi : P.info? e = some i) (hz : i.zero = some z) (hsize : i.size = size) (hby : i.bytes = bytes) (hzs : z.cells.size = size) (hsz : 0 < size)
    {v v' : Value} {w' : World} {n : Nat} {xs : List Value} (hown : w.ownsRow base e size v n xs) {a : Addr} {m c : Nat} {news : List Value} (hl : news.length = m * size) (hnews : ∀ j u, news[j]? = some u → w.cell? (a.add j) = some u) (h1 : ∀ u ∈ news, u.oneCell' = true)
    (h63 : n + m ≤ maxLen) (hbytes : (n + m) * bytes ≤ 140737488355328) (hr : (Builtin.append_ #[t, t] ty #[v, .slice (some a) m c]).run P w = .ok v' w') : w.drawn ≤ w'.drawn ∧ NewOr w v v' := by
  subst hsize
  subst hby
  have hsmall : n + m ≤ 9223372036854775807 := by simp only [maxLen] at h63; omega
  have fin : ∀ {u : Value} {x : World}, (Builtin.append_ #[t, t] ty #[v, .slice (some a) m c]).run P w = .ok u x → w.drawn ≤ x.drawn ∧ NewOr w v u → w.drawn ≤ w'.drawn ∧ NewOr w v v' := by
    intro u x h1 h2
    rw [h1] at hr
    injection hr with e1 e2
    subst e1; subst e2; exact h2
  rcases hown.2 with ⟨rfl, rfl⟩ | ⟨g, cap, cur, rfl, hbg, hg, hnc, hcm, hcs, htake⟩
  · by_cases hm : m = 0
    · subst hm
      refine fin (u := .slice none 0 0) (x := w) ?_ ⟨Nat.le_refl _, .inl rfl⟩
      simp [Builtin.append_, run_underlying ht, sizeOf, typeInfo, hi, Builtin.lenOf, Builtin.firstCells, loadCells, loadCellsFrom]
    · exact fin (run_append_nil (P := P) w t ty e i z ht hi hz a m c news hl hnews (by omega) (by omega) (by have hb := hbytes; simp only [Nat.zero_add] at hb; omega)) ⟨Nat.le_succ _, .inr ⟨w.heap.size, Nat.le_refl _, rfl⟩⟩
  · by_cases hroom : n + m ≤ cap
    · have hfit : n * i.size + news.length ≤ cur.size := by rw [hl, hcs, ← Nat.add_mul]; exact Nat.mul_le_mul_right _ hroom
      exact fin (run_append_room (P := P) w t ty e i ht hi g n cap cur hg a m c news hl hnews h1 hroom hfit) ⟨Nat.le_refl _, .inl rfl⟩
    · have holds : ∀ j u, xs[j]? = some u → w.cell? ((⟨g, 0, none⟩ : Addr).add j) = some u := hown.cells (g := g) rfl
      exact fin (run_append_grow (P := P) w t ty e i z ht hi hz ⟨g, 0, none⟩ n cap xs hown.1 holds a m c news hl hnews (by omega) (by omega) (growslice_fits (by omega) hbytes)) ⟨Nat.le_succ _, .inr ⟨w.heap.size, Nat.le_refl _, rfl⟩⟩

theorem run_append_ow {α : Type} {base lo hi : Nat} {t ty e : TypeId} {s bytes : Nat} {z : Value} {enc : α → List Value} {v x : Value} {ds es : List α} (ht : P.underlying t = some (.slice e)) (hrow : (P.info? e).map (fun i => (i.zero, i.size, i.bytes)) = some (some z, s, bytes)) (hzs : z.cells.size = s) (hsp : 0 < s)
    (hown : Ow w base e s enc v ds) (hx : Sl lo hi w.heap s enc x es) (h1 : ∀ y ∈ es, ∀ u ∈ enc y, u.oneCell' = true) (h63 : ds.length + es.length ≤ maxLen) (hbytes : (ds.length + es.length) * bytes ≤ 140737488355328) (hbase : base ≤ w.heap.size) :
    ∃ v' w', (Builtin.append_ #[t, t] ty #[v, x]).run P w = .ok v' w' ∧ Ow w' base e s enc v' (ds ++ es) ∧ Gb w w' v.ownBlock ∧ NewOr w v v' := by
  obtain ⟨i, hi, hz0, hz1, hz2⟩ := info_parts hrow
  obtain ⟨he, ao, c, rfl, hc1, hc2, hc3, hc4⟩ := hx
  have h2 : ∀ u ∈ es.flatMap enc, u.oneCell' = true := by
    intro u hu
    obtain ⟨y, hy, hyu⟩ := List.mem_flatMap.1 hu
    exact h1 y hy u hyu
  cases ao with
  | none =>
    have h0 : es = [] := List.eq_nil_of_length_eq_zero (by have := hc3 rfl; omega)
    subst h0
    have h00 : c = 0 := hc3 rfl
    subst h00
    have hr := run_append_owned_none (P := P) w base t ty e i s ht hi v ds.length (ds.flatMap enc) hown.2
    exact ⟨v, w, hr, by simpa using hown, ⟨rfl, rfl, rfl, Nat.le_refl _, fun _ _ _ => rfl, Nat.le_refl _⟩, .inl rfl⟩
  | some ad =>
    obtain ⟨v', w', hr, h3, h4, _⟩ := run_append_own (P := P) w base t ty e i z s bytes ht hi hz0 hz1 hz2 hzs hsp v ds.length (ds.flatMap enc) hown.2 ad es.length c (es.flatMap enc) (flat_length he es) (fun q u hq => by
      obtain ⟨i', d', j', a1, a2, a3⟩ := flat_cells he es q u hq
      subst a3
      exact (hc4 ad rfl).1 i' d' j' u a1 a2) h2 h63 hbytes hbase
    obtain ⟨hdr, hob⟩ := append_more ht hi hz0 hz1 hz2 hzs hsp hown.2 (flat_length he es) (fun q u hq => by
      obtain ⟨i', d', j', a1, a2, a3⟩ := flat_cells he es q u hq
      subst a3
      exact (hc4 ad rfl).1 i' d' j' u a1 a2) h2 h63 hbytes hr
    exact ⟨v', w', hr, ⟨hown.1, by simpa using h3⟩, ⟨h4.os, h4.tape, h4.output, h4.size, h4.block, hdr⟩, hob⟩

theorem grown_keep {w w' : World} {v : Value} {lo hi : Nat} (hg : Gb w w' v.ownBlock) (hh : hi ≤ w.heap.size) (h : ∀ b, v.ownBlock = some b → b < lo ∨ hi ≤ b) : Keep lo hi w.heap w'.heap := fun b h1 h2 =>
  hg.block b (by omega) (fun e => by have := h b e.symm; omega)

theorem Ow.lt {α : Type} {w : World} {base : Nat} {e : TypeId} {s : Nat} {enc : α → List Value} {v : Value} {ds : List α} (h : Ow w base e s enc v ds) : ∀ b, v.ownBlock = some b → base ≤ b ∧ b < w.heap.size := h.2.lt
theorem Sl.grown {α β : Type} {lo hi base : Nat} {w w' : World} {s s2 : Nat} {enc : α → List Value} {enc2 : β → List Value} {v u : Value} {ds : List α} {es : List β} {e : TypeId} (hs : Sl lo hi w.heap s enc v ds) (hG : Gb w w' u.ownBlock) (ho : Ow w base e s2 enc2 u es) (h : hi ≤ base ∧ base ≤ w.heap.size) : Sl lo hi w'.heap s enc v ds :=
  hs.keep (grown_keep hG (by omega) fun b hb => by have := (ho.lt b hb).1; omega)
theorem Led.grown {β : Type} {B base : Nat} {w0 w w' : World} {L : List Own} {s2 : Nat} {enc2 : β → List Value} {u : Value} {es : List β} {e : TypeId} (h : Led B w0 w L) (hG : Gb w w' u.ownBlock) (ho : Ow w base e s2 enc2 u es) (hb : B ≤ base) (hne : ∀ (i : Nat) (x : Own), L[i]? = some x → x.1 < base) : Led B w0 w' L := by
  refine ⟨Nat.le_trans h.le hG.size, h.below.grown hG h.le (fun k hk => by have := (ho.lt k hk).1; omega), fun i x hx => ?_, h.apart⟩
  obtain ⟨h1, h2, h3⟩ := h.own i x hx
  exact ⟨h1, Nat.lt_of_lt_of_le h2 hG.size, (hG.block _ h2 (fun e => by have := (ho.lt _ e.symm).1; have := hne i x hx; omega)).trans h3⟩
theorem Led.grown0 {β : Type} {B base : Nat} {w0 w w' : World} {s2 : Nat} {enc2 : β → List Value} {u : Value} {es : List β} {e : TypeId} (h : Led B w0 w []) (hG : Gb w w' u.ownBlock) (ho : Ow w base e s2 enc2 u es) (hb : B ≤ base) : Led B w0 w' [] := h.grown hG ho hb (fun i x hx => by simp at hx)
theorem Led.upd0 {B : Nat} {w0 w w' : World} {L : List Own} (h : Led B w0 w L) (hb : Below w.heap.size w w') : Led B w0 w' L := h.call hb

theorem W_append {α : Type} {base lo hi : Nat} {t e : TypeId} {s bytes : Nat} {z : Value} {enc : α → List Value} {v x : Value} {ds es : List α} {sx xx : Operand} (hlt : Nat.blt d fn.ntmps = true) (ht : P.underlying t = some (.slice e)) (hrow : (P.info? e).map (fun i => (i.zero, i.size, i.bytes)) = some (some z, s, bytes)) (hzs : z.cells.size = s) (hsp : 0 < s)
    (hs : ev l sx = some v) (hxx : ev l xx = some x) (hown : Ow w base e s enc v ds) (hx : Sl lo hi w.heap s enc x es) (h1 : ∀ y ∈ es, ∀ u ∈ enc y, u.oneCell' = true) (h63 : ds.length + es.length ≤ maxLen) (hbytes : (ds.length + es.length) * bytes ≤ 140737488355328) (hbase : base ≤ w.heap.size)
    (h : ∀ v' w', Ow w' base e s enc v' (ds ++ es) → Gb w w' v.ownBlock → NewOr w v v' → W P fn k ops rest ((d, v') :: l) w') :
    W P fn k ops (⟨some d, .call { callee := .builtin .append, args := #[sx, xx], argTypes := #[t, t] }, ty, pos, after, none⟩ :: rest) l w := by
  obtain ⟨v', w', hr, h3, h4, h5⟩ := run_append_ow (P := P) (ty := ty) ht hrow hzs hsp hown hx h1 h63 hbytes hbase
  exact W_val rfl rfl hlt (fun a ha => by simp [execOp, resolve, invoke, builtin, ha.eval hs, ha.eval hxx, hr]) (h v' w' h3 h4 h5)

theorem addr_add_add (a : Addr) (m n : Nat) : (a.add m).add n = a.add (m + n) := by
  unfold Addr.add
  by_cases h1 : m = 0
  · subst h1; simp
  · by_cases h2 : n = 0
    · subst h2; simp
    · simp [h1, h2, Nat.add_assoc]
/-- a piece of a slice -/
theorem sl_piece {α : Type} {lo hi : Nat} {h : Array Obj} {s : Nat} {enc : α → List Value} {v : Value} {ds : List α} (hs : Sl lo hi h s enc v ds) {a b : Nat} (hab : a ≤ b) (hb : b ≤ ds.length) : ∃ ao c, v = .slice ao ds.length c ∧ ds.length ≤ c ∧
    (∀ m, m ≤ c → b ≤ m → Sl lo hi h s enc (.slice (if m = a then ao else ao.map (·.add (a * s))) (b - a) (m - a)) ((ds.take b).drop a)) := by
  obtain ⟨he, ao, c, rfl, h2, h3, h4, h5⟩ := hs
  refine ⟨ao, c, rfl, h2, fun m hm hbm => ?_⟩
  have hlen : ((ds.take b).drop a).length = b - a := by simp; omega
  refine ⟨he, if m = a then ao else ao.map (·.add (a * s)), m - a, by rw [hlen], by rw [hlen]; omega, by omega, ?_, ?_⟩
  · intro hn
    split at hn
    · omega
    · simp at hn; have := h4 hn; omega
  · intro ad had
    refine ⟨fun i d j u hi hj => ?_, fun hne => ?_⟩
    · have hi' : ds[a + i]? = some d := by
        rw [List.getElem?_drop, List.getElem?_take] at hi
        split at hi
        · exact hi
        · cases hi
      have hlt : a + i < b := by
        rw [List.getElem?_drop, List.getElem?_take] at hi
        split at hi
        · assumption
        · cases hi
      split at had
      · omega
      · cases hao : ao with
        | none => subst hao; simp at had
        | some ad0 =>
          subst hao
          simp at had
          subst had
          have := (h5 ad0 rfl).1 (a + i) d j u hi' hj
          rw [← this]
          rw [addr_add_add, show a * s + (i * s + j) = (a + i) * s + j from by rw [Nat.add_mul]; omega]
    · cases hao : ao with
      | none => subst hao; split at had <;> simp at had
      | some ad0 =>
        subst hao
        have hds : ds ≠ [] := by intro e; subst e; simp at hne
        have := (h5 ad0 rfl).2 hds
        split at had
        · obtain rfl := Option.some.inj had; exact this
        · simp at had; subst had; rw [Addr.block_add]; exact this

/-- x[a:b]; x[a:]; x[:b]; x[:] -/
theorem W_slice {α : Type} {lo hi : Nat} {t e : TypeId} {s : Nat} {enc : α → List Value} {v : Value} {ds : List α} {x : Operand} {ol oh : Option Operand} (a b : Nat) (hlt : Nat.blt d fn.ntmps = true) (ht : P.underlying t = some (.slice e)) (hsz : P.cellsOf e = s) (hi' : (P.info? e).isSome = true)
    (hx : ev l x = some v) (hl : match ol with | none => a = 0 | some y => ∃ kk, ev l y = some (.int kk (a : Int))) (hh : match oh with | none => b = ds.length | some y => ∃ kk, ev l y = some (.int kk (b : Int))) (hs : Sl lo hi w.heap s enc v ds) (hab : a ≤ b) (hb : b ≤ ds.length)
    (h : ∀ v', Sl lo hi w.heap s enc v' ((ds.take b).drop a) → W P fn k ops rest ((d, v') :: l) w) : W P fn k ops (⟨some d, .slice t x ol oh none, ty, pos, after, none⟩ :: rest) l w := by
  obtain ⟨ao, c, rfl, hc, hp⟩ := sl_piece hs hab hb
  obtain ⟨i, hinfo⟩ := Option.isSome_iff_exists.1 hi'
  have hsz' : i.size = s := by simpa [Program.cellsOf, hinfo] using hsz
  refine W_val rfl rfl hlt (w' := w) (fun aa ha => ?_) (h _ (hp c (Nat.le_refl _) (Nat.le_trans hb hc)))
  have hbc : b ≤ c := Nat.le_trans hb hc
  cases ol with
  | none =>
    simp only at hl
    subst hl
    cases oh with
    | none =>
      simp only at hh; subst hh
      simp [execOp, ha.eval hx, Instr.sliceAt, Instr.slice, run_underlying ht, Instr.sliceBounds, sizeOf, typeInfo, hinfo]
    | some y =>
      obtain ⟨kk, hy⟩ := hh
      simp [execOp, ha.eval hx, ha.eval hy, Instr.sliceAt, Instr.slice, run_underlying ht, Instr.sliceBounds, Instr.sliceBound, asIntOf, sizeOf, typeInfo, hinfo, hbc]
  | some y1 =>
    obtain ⟨kk1, hy1⟩ := hl
    cases oh with
    | none =>
      simp only at hh; subst hh
      simp [execOp, ha.eval hx, ha.eval hy1, Instr.sliceAt, Instr.slice, run_underlying ht, Instr.sliceBounds, Instr.sliceBound, asIntOf, sizeOf, typeInfo, hinfo, hsz', hab]
    | some y =>
      obtain ⟨kk, hy⟩ := hh
      simp [execOp, ha.eval hx, ha.eval hy1, ha.eval hy, Instr.sliceAt, Instr.slice, run_underlying ht, Instr.sliceBounds, Instr.sliceBound, asIntOf, sizeOf, typeInfo, hinfo, hsz', hbc, hab]
end
end Go.Wk
