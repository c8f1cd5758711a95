/- Rules for single operations, in the form of the core. -/
import Derived.Test.YtoanecpanckkeaaCore
namespace Go.Wk
open Go.RowKit

def hc (h : Array Obj) (a : Addr) : Option Value :=
  match h[a.block]? with
  | some (.cells c _ _) => if a.spot.isSome then none else c[a.off]?
  | _ => none
theorem cell_hc (w : World) (a : Addr) : w.cell? a = hc w.heap a := rfl

theorem hc_of_block {h h' : Array Obj} {a : Addr} (e : h'[a.block]? = h[a.block]?) : hc h' a = hc h a := by simp [hc, e]
theorem hc_lt {h : Array Obj} {a : Addr} {u : Value} (e : hc h a = some u) : a.block < h.size := by
  unfold hc at e
  rcases Nat.lt_or_ge a.block h.size with h' | h'
  · exact h'
  · simp [Array.getElem?_eq_none h'] at e

/-- A slice value, whose elements are known: its places lie in blocks from lo up to hi. -/
structure Sl {α : Type} (lo hi : Nat) (h : Array Obj) (s : Nat) (enc : α → List Value) (v : Value) (ds : List α) : Prop where
  encl : ∀ d, (enc d).length = s
  shape : ∃ ao c, v = .slice ao ds.length c ∧ ds.length ≤ c ∧ c ≤ maxLen ∧ (ao = none → c = 0) ∧ ∀ ad, ao = some ad →
    (∀ i d j u, ds[i]? = some d → (enc d)[j]? = some u → hc h (ad.add (i * s + j)) = some u) ∧ (ds ≠ [] → lo ≤ ad.block ∧ ad.block < hi)

/-- of h nothing from lo up to hi has turned -/
def Keep (lo hi : Nat) (h h' : Array Obj) : Prop := ∀ b, lo ≤ b → b < hi → h'[b]? = h[b]?

theorem Addr.block_add (a : Addr) (n : Nat) : (a.add n).block = a.block := by unfold Addr.add; split <;> rfl

theorem Sl.keep {α : Type} {lo hi : Nat} {h h' : Array Obj} {s : Nat} {enc : α → List Value} {v : Value} {ds : List α} (hs : Sl lo hi h s enc v ds) (hk : Keep lo hi h h') : Sl lo hi h' s enc v ds := by
  obtain ⟨he, ao, c, e1, e2, e3, e4, e5⟩ := hs
  refine ⟨he, ao, c, e1, e2, e3, e4, fun ad had => ⟨fun i d j u hi hj => ?_, (e5 ad had).2⟩⟩
  rw [← (e5 ad had).1 i d j u hi hj]
  refine hc_of_block ?_
  rw [Addr.block_add]
  have hne : ds ≠ [] := by intro e; subst e; simp at hi
  exact hk _ ((e5 ad had).2 hne).1 ((e5 ad had).2 hne).2

theorem Sl.widen {α : Type} {lo hi lo' hi' : Nat} {h : Array Obj} {s : Nat} {enc : α → List Value} {v : Value} {ds : List α} (hs : Sl lo hi h s enc v ds) (h1 : lo' ≤ lo) (h2 : hi ≤ hi') : Sl lo' hi' h s enc v ds := by
  obtain ⟨he, ao, c, e1, e2, e3, e4, e5⟩ := hs
  exact ⟨he, ao, c, e1, e2, e3, e4, fun ad had => ⟨(e5 ad had).1, fun hne => by have := (e5 ad had).2 hne; omega⟩⟩

/-- below B the world w' is as w was; draws are never taken back -/
structure Below (B : Nat) (w w' : World) : Prop where
  os : w'.os = w.os
  tape : w'.tape = w.tape
  output : w'.output = w.output
  size : w.heap.size ≤ w'.heap.size
  block : ∀ k, k < B → w'.heap[k]? = w.heap[k]?
  drawn : w.drawn ≤ w'.drawn
theorem Below.refl (B : Nat) (w : World) : Below B w w := ⟨rfl, rfl, rfl, Nat.le_refl _, fun _ _ => rfl, Nat.le_refl _⟩
theorem Below.trans {B : Nat} {a b c : World} (h : Below B a b) (k : Below B b c) : Below B a c :=
  ⟨k.os.trans h.os, k.tape.trans h.tape, k.output.trans h.output, Nat.le_trans h.size k.size, fun i hi => (k.block i hi).trans (h.block i hi), Nat.le_trans h.drawn k.drawn⟩
theorem Below.mono {B B' : Nat} {w w' : World} (h : Below B w w') (hB : B' ≤ B) : Below B' w w' := ⟨h.os, h.tape, h.output, h.size, fun k hk => h.block k (Nat.lt_of_lt_of_le hk hB), h.drawn⟩
theorem Below.drew {B : Nat} {a w : World} (h : Below B a w) : Below B a w.drew := ⟨h.os, h.tape, h.output, h.size, h.block, Nat.le_trans h.drawn (Nat.le_succ _)⟩
theorem Below.alloc {B : Nat} {a w : World} (h : Below B a w) (hB : B ≤ w.heap.size) (o : Obj) : Below B a (w.alloc o) :=
  h.trans ⟨rfl, rfl, rfl, by simp, fun k hk => by
    show (w.heap.push o)[k]? = _
    rw [Array.getElem?_push, if_neg (by omega)], Nat.le_refl _⟩
theorem Below.kit {B : Nat} {w w' : World} (h : Below B w w') : Go.RowKit.Below B w w' := ⟨h.os, h.tape, h.output, h.size, h.block⟩
/-- one row may have been written; new blocks; draws -/
structure Gb (w w' : World) (row : Option Nat) : Prop where
  os : w'.os = w.os
  tape : w'.tape = w.tape
  output : w'.output = w.output
  size : w.heap.size ≤ w'.heap.size
  block : ∀ k, k < w.heap.size → some k ≠ row → w'.heap[k]? = w.heap[k]?
  drawn : w.drawn ≤ w'.drawn
theorem Below.grown {B : Nat} {a w w' : World} {row : Option Nat} (h : Below B a w) (hg : Gb w w' row) (hB : B ≤ w.heap.size) (hr : ∀ k, row = some k → B ≤ k) : Below B a w' :=
  h.trans ⟨hg.os, hg.tape, hg.output, hg.size, fun k hk => hg.block k (by omega) (fun e => by have := hr k e.symm; omega), hg.drawn⟩

theorem Below.keep {B : Nat} {w w' : World} (hb : Below B w w') {lo hi : Nat} (h : hi ≤ B) : Keep lo hi w.heap w'.heap := fun b _ h2 => hb.block b (by omega)

theorem Sl.below {α : Type} {lo hi B : Nat} {w w' : World} {s : Nat} {enc : α → List Value} {v : Value} {ds : List α} (hs : Sl lo hi w.heap s enc v ds) (hb : Below B w w') (h : hi ≤ B) : Sl lo hi w'.heap s enc v ds := hs.keep (Below.keep hb h)

/-- the pointer to a place of a slice -/
def elp (v : Value) (o : Nat) : Value :=
  match v with
  | .slice (some ad) _ _ => .pointer (some (ad.add o))
  | _ => undef

section
variable {P : Program} {fn : Func} {k : Kont} {l : Env} {w : World} {ops : Array Oper} {rest : List Oper} {d : Nat} {ty : TypeId} {pos : String} {after : Array Edge}

theorem W_move {x : Operand} {v : Value} (hlt : Nat.blt d fn.ntmps = true) (hx : ev l x = some v) (h : W P fn k ops rest ((d, v) :: l) w) : W P fn k ops (⟨some d, .move x, ty, pos, after, none⟩ :: rest) l w :=
  W_val rfl rfl hlt (fun a ha => by simp [execOp, ha.eval hx]) h
theorem W_assign {x : Operand} {v : Value} (hlt : Nat.blt d fn.ntmps = true) (hx : ev l x = some v) (h : W P fn k ops rest ((d, v) :: l) w) : W P fn k ops (⟨some d, .assign x, ty, pos, after, none⟩ :: rest) l w :=
  W_val rfl rfl hlt (fun a ha => by simp [execOp, ha.eval hx]) h
theorem W_pick {c x y : Operand} {b : Bool} {u v : Value} (hlt : Nat.blt d fn.ntmps = true) (hc : ev l c = some (.bool b)) (hx : ev l x = some u) (hy : ev l y = some v) (h : W P fn k ops rest ((d, if b then u else v) :: l) w) : W P fn k ops (⟨some d, .pick c x y, ty, pos, after, none⟩ :: rest) l w :=
  W_val rfl rfl hlt (fun a ha => by simp [execOp, ha.eval hc, ha.eval hx, ha.eval hy, asBool]) h
theorem W_pick_t {c x y : Operand} {u : Value} (hlt : Nat.blt d fn.ntmps = true) (hc : ev l c = some (.bool true)) (hx : ev l x = some u) (h : W P fn k ops rest ((d, u) :: l) w) : W P fn k ops (⟨some d, .pick c x y, ty, pos, after, none⟩ :: rest) l w :=
  W_val rfl rfl hlt (fun a ha => by simp [execOp, ha.eval hc, ha.eval hx, asBool]) h
theorem W_pick_f {c x y : Operand} {v : Value} (hlt : Nat.blt d fn.ntmps = true) (hc : ev l c = some (.bool false)) (hy : ev l y = some v) (h : W P fn k ops rest ((d, v) :: l) w) : W P fn k ops (⟨some d, .pick c x y, ty, pos, after, none⟩ :: rest) l w :=
  W_val rfl rfl hlt (fun a ha => by simp [execOp, ha.eval hc, ha.eval hy, asBool]) h

/-- any operation whose run is one equation over the operands' values -/
theorem W_binop {op : BinOp} {t t2 : TypeId} {x y : Operand} {u v r : Value} (hlt : Nat.blt d fn.ntmps = true) (hx : ev l x = some u) (hy : ev l y = some v) (hg : eqGuard op t x y u v = pure ()) (hr : (binOp op t u v).run P w = .ok r w)
    (h : W P fn k ops rest ((d, r) :: l) w) : W P fn k ops (⟨some d, .binOp op t x y t2, ty, pos, after, none⟩ :: rest) l w :=
  W_val rfl rfl hlt (fun a ha => by simp [execOp, ha.eval hx, ha.eval hy, hg, hr]) h

section ints
variable {t t2 : TypeId} {x y : Operand} {kk : IntKind} {m n : Int}
theorem W_add (hlt : Nat.blt d fn.ntmps = true) (hx : ev l x = some (.int kk m)) (hy : ev l y = some (.int kk n)) {r : Int} (hr : kk.wrap (m + n) = r) (h : W P fn k ops rest ((d, .int kk r) :: l) w) : W P fn k ops (⟨some d, .binOp .add t x y t2, ty, pos, after, none⟩ :: rest) l w :=
  W_binop hlt hx hy (eqGuard_add ..) (by rw [binOp_add]; simp [Op.intArith, hr]) h
theorem W_subi (hlt : Nat.blt d fn.ntmps = true) (hx : ev l x = some (.int kk m)) (hy : ev l y = some (.int kk n)) {r : Int} (hr : kk.wrap (m - n) = r) (h : W P fn k ops rest ((d, .int kk r) :: l) w) : W P fn k ops (⟨some d, .binOp .sub t x y t2, ty, pos, after, none⟩ :: rest) l w :=
  W_binop hlt hx hy (eqGuard_sub ..) (by rw [binOp_sub]; simp [Op.intArith, hr]) h
theorem W_mul (hlt : Nat.blt d fn.ntmps = true) (hx : ev l x = some (.int kk m)) (hy : ev l y = some (.int kk n)) {r : Int} (hr : kk.wrap (m * n) = r) (h : W P fn k ops rest ((d, .int kk r) :: l) w) : W P fn k ops (⟨some d, .binOp .mul t x y t2, ty, pos, after, none⟩ :: rest) l w :=
  W_binop hlt hx hy (eqGuard_mul ..) (by rw [binOp_mul]; simp [Op.intArith, hr]) h
theorem W_quo (hlt : Nat.blt d fn.ntmps = true) (hx : ev l x = some (.int kk m)) (hy : ev l y = some (.int kk n)) (h0 : n ≠ 0) {r : Int} (hr : kk.wrap (m.tdiv n) = r) (h : W P fn k ops rest ((d, .int kk r) :: l) w) : W P fn k ops (⟨some d, .binOp .quo t x y t2, ty, pos, after, none⟩ :: rest) l w :=
  W_binop hlt hx hy (eqGuard_quo ..) (by rw [binOp_quo]; simp [Op.intDiv, hr, h0]) h
theorem W_rem (hlt : Nat.blt d fn.ntmps = true) (hx : ev l x = some (.int kk m)) (hy : ev l y = some (.int kk n)) (h0 : n ≠ 0) {r : Int} (hr : m.tmod n = r) (h : W P fn k ops rest ((d, .int kk r) :: l) w) : W P fn k ops (⟨some d, .binOp .rem t x y t2, ty, pos, after, none⟩ :: rest) l w :=
  W_binop hlt hx hy (eqGuard_rem ..) (by rw [binOp_rem]; simp [Op.intDiv, hr, h0]) h
theorem W_bits {op : BinOp} (ho : op = .and ∨ op = .or ∨ op = .xor ∨ op = .andNot) (hlt : Nat.blt d fn.ntmps = true) (hx : ev l x = some (.int kk m)) (hy : ev l y = some (.int kk n)) {r : Int} (hr : bits op kk m n = r) (h : W P fn k ops rest ((d, .int kk r) :: l) w) : W P fn k ops (⟨some d, .binOp op t x y t2, ty, pos, after, none⟩ :: rest) l w := by
  rcases ho with rfl | rfl | rfl | rfl
  · exact W_binop hlt hx hy (eqGuard_and ..) (by rw [binOp_and, intBits_and]; simp [hr]) h
  · exact W_binop hlt hx hy (eqGuard_or ..) (by rw [binOp_or, intBits_or]; simp [hr]) h
  · exact W_binop hlt hx hy (eqGuard_xor ..) (by rw [binOp_xor, intBits_xor]; simp [hr]) h
  · exact W_binop hlt hx hy (eqGuard_andNot ..) (by rw [binOp_andNot, intBits_andNot]; simp [hr]) h
theorem W_shl {ky : IntKind} (hlt : Nat.blt d fn.ntmps = true) (hx : ev l x = some (.int kk m)) (hy : ev l y = some (.int ky n)) (h0 : 0 ≤ n) (h1 : n ≤ kk.bits) {r : Int} (hr : kk.wrap (m * 2 ^ n.toNat) = r) (h : W P fn k ops rest ((d, .int kk r) :: l) w) : W P fn k ops (⟨some d, .binOp .shl t x y t2, ty, pos, after, none⟩ :: rest) l w :=
  W_binop hlt hx hy (eqGuard_shl ..) (by rw [binOp_shl, shift_shl _ _ _ _ h0 h1]; simp [hr]) h
theorem W_shr {ky : IntKind} (hlt : Nat.blt d fn.ntmps = true) (hx : ev l x = some (.int kk m)) (hy : ev l y = some (.int ky n)) (h0 : 0 ≤ n) (h1 : n ≤ kk.bits) {r : Int} (hr : m / 2 ^ n.toNat = r) (h : W P fn k ops rest ((d, .int kk r) :: l) w) : W P fn k ops (⟨some d, .binOp .shr t x y t2, ty, pos, after, none⟩ :: rest) l w :=
  W_binop hlt hx hy (eqGuard_shr ..) (by rw [binOp_shr, shift_shr _ _ _ _ h0 h1]; simp [hr]) h
theorem W_lss (hlt : Nat.blt d fn.ntmps = true) (hx : ev l x = some (.int kk m)) (hy : ev l y = some (.int kk n)) (h : W P fn k ops rest ((d, .bool (decide (m < n))) :: l) w) : W P fn k ops (⟨some d, .binOp .lss t x y t2, ty, pos, after, none⟩ :: rest) l w :=
  W_binop hlt hx hy (eqGuard_lss ..) (by rw [binOp_lss]; rfl) h
theorem W_leq (hlt : Nat.blt d fn.ntmps = true) (hx : ev l x = some (.int kk m)) (hy : ev l y = some (.int kk n)) (h : W P fn k ops rest ((d, .bool (decide (m ≤ n))) :: l) w) : W P fn k ops (⟨some d, .binOp .leq t x y t2, ty, pos, after, none⟩ :: rest) l w :=
  W_binop hlt hx hy (eqGuard_leq ..) (by rw [binOp_leq]; rfl) h
theorem W_gtr (hlt : Nat.blt d fn.ntmps = true) (hx : ev l x = some (.int kk m)) (hy : ev l y = some (.int kk n)) (h : W P fn k ops rest ((d, .bool (decide (n < m))) :: l) w) : W P fn k ops (⟨some d, .binOp .gtr t x y t2, ty, pos, after, none⟩ :: rest) l w :=
  W_binop hlt hx hy (eqGuard_gtr ..) (by rw [binOp_gtr]; rfl) h
theorem W_geq (hlt : Nat.blt d fn.ntmps = true) (hx : ev l x = some (.int kk m)) (hy : ev l y = some (.int kk n)) (h : W P fn k ops rest ((d, .bool (decide (n ≤ m))) :: l) w) : W P fn k ops (⟨some d, .binOp .geq t x y t2, ty, pos, after, none⟩ :: rest) l w :=
  W_binop hlt hx hy (eqGuard_geq ..) (by rw [binOp_geq]; rfl) h
theorem W_eql (hlt : Nat.blt d fn.ntmps = true) (hx : ev l x = some (.int kk m)) (hy : ev l y = some (.int kk n)) (h : W P fn k ops rest ((d, .bool (decide (m = n))) :: l) w) : W P fn k ops (⟨some d, .binOp .eql t x y t2, ty, pos, after, none⟩ :: rest) l w :=
  W_binop hlt hx hy (eqGuard_at_int ..) (by rw [binOp_eql]; simp; rfl) h
theorem W_neq (hlt : Nat.blt d fn.ntmps = true) (hx : ev l x = some (.int kk m)) (hy : ev l y = some (.int kk n)) (h : W P fn k ops rest ((d, .bool (decide (m ≠ n))) :: l) w) : W P fn k ops (⟨some d, .binOp .neq t x y t2, ty, pos, after, none⟩ :: rest) l w :=
  W_binop hlt hx hy (eqGuard_at_int ..) (by rw [binOp_neq]; simp [bne]; rfl) h
theorem W_conv {src dst : TypeId} {kd : IntKind} (hlt : Nat.blt d fn.ntmps = true) (hx : ev l x = some (.int kk m)) (hs : (P.underlying src).isSome = true) (hd : P.underlying dst = some (.int kd)) {r : Int} (hr : kd.wrap m = r) (h : W P fn k ops rest ((d, .int kd r) :: l) w) : W P fn k ops (⟨some d, .convert src dst x, ty, pos, after, none⟩ :: rest) l w :=
  W_val rfl rfl hlt (fun a ha => by
    obtain ⟨ds, hs'⟩ := Option.isSome_iff_exists.1 hs
    simp [execOp, ha.eval hx, convert, run_underlying hs', run_underlying hd, Conv.intToInt, hr]) h
theorem W_not {b : Bool} (hlt : Nat.blt d fn.ntmps = true) (hx : ev l x = some (.bool b)) (h : W P fn k ops rest ((d, .bool !b) :: l) w) : W P fn k ops (⟨some d, .unOp .not t x, ty, pos, after, none⟩ :: rest) l w :=
  W_val rfl rfl hlt (fun a ha => by simp [execOp, ha.eval hx, Op.unary]) h
end ints

theorem W_len {t : TypeId} {x : Operand} {ao : Option Addr} {n c : Nat} {e : TypeId} (hlt : Nat.blt d fn.ntmps = true) (ht : P.underlying t = some (.slice e)) (hx : ev l x = some (.slice ao n c)) (h : W P fn k ops rest ((d, .int .i64 (n : Int)) :: l) w) :
    W P fn k ops (⟨some d, .call { callee := .builtin .len, args := #[x], argTypes := #[t] }, ty, pos, after, none⟩ :: rest) l w :=
  W_val rfl rfl hlt (fun a ha => by simp [execOp, resolve, invoke, builtin, Builtin.len_, ha.eval hx, run_underlying ht, goInt]) h
theorem W_len_sl {α : Type} {lo hi : Nat} {s : Nat} {enc : α → List Value} {ds : List α} {t : TypeId} {x : Operand} {v : Value} {e : TypeId} (hlt : Nat.blt d fn.ntmps = true) (ht : P.underlying t = some (.slice e)) (hx : ev l x = some v) (hs : Sl lo hi w.heap s enc v ds) (h : W P fn k ops rest ((d, .int .i64 (ds.length : Int)) :: l) w) :
    W P fn k ops (⟨some d, .call { callee := .builtin .len, args := #[x], argTypes := #[t] }, ty, pos, after, none⟩ :: rest) l w := by
  obtain ⟨_, ao, c, e1, _⟩ := hs
  exact W_len hlt ht (hx.trans (congrArg some e1)) h

/-- a call of a named function -/
def evs (l : Env) : List Operand → Option (List Value)
  | [] => some []
  | x :: xs => match ev l x, evs l xs with | some v, some vs => some (v :: vs) | _, _ => none
theorem evs_eval {a : Act} (ha : Slots l fn.ntmps a) : ∀ (xs : List Operand) (vs : List Value), evs l xs = some vs → xs.map a.eval = vs := by
  intro xs
  induction xs with
  | nil => intro vs h; simp [evs] at h; simp [h]
  | cons x xs ih =>
    intro vs h
    simp only [evs] at h
    cases h1 : ev l x with
    | none => simp [h1] at h
    | some v =>
      cases h2 : evs l xs with
      | none => simp [h1, h2] at h
      | some us =>
        simp [h1, h2] at h
        subst h
        simp [ha.eval h1, ih us h2]

def named (P : Program) (f : FuncId) : Bool :=
  match P.funcs[f]? with
  | some g => !(g.name == "runtime.NumGoroutine") && g.body.isSome
  | none => false

theorem run_callFunc_named {f : FuncId} (hf : named P f = true) (args : Array Value) : (callFunc f args).run P w = .ok (.enter f args) w := by
  unfold named at hf
  cases hg : P.funcs[f]? with
  | none => simp [hg] at hf
  | some g =>
    simp only [hg, Bool.and_eq_true, Bool.not_eq_true'] at hf
    obtain ⟨h1, h2⟩ := hf
    obtain ⟨c, hc⟩ := Option.isSome_iff_exists.1 h2
    have h1' : ¬ g.name = "runtime.NumGoroutine" := by simpa using h1
    simp [callFunc, hg, h1', hc]

theorem W_call {f : FuncId} {xs : List Operand} {vs : List Value} {argTypes : Array TypeId} {R : Value → World → Prop} (hlt : Nat.blt d fn.ntmps = true) (hf : named P f = true) (hx : evs l xs = some vs) (hc : Ret P f vs.toArray w R)
    (h : ∀ v w', R v w' → W P fn k ops rest ((d, v) :: l) w') : W P fn k ops (⟨some d, .call { callee := .value (.func f), args := xs.toArray, argTypes := argTypes }, ty, pos, after, none⟩ :: rest) l w :=
  W_ret rfl rfl hlt (fun a ha => by
    have e : a.eval (.func f) = .func (.func f) #[] #[] := rfl
    have e2 := evs_eval ha xs vs hx
    simp [execOp, resolve, e, Deferred.ofValue, invoke, e2, run_callFunc_named hf]) hc h

end
end Go.Wk
