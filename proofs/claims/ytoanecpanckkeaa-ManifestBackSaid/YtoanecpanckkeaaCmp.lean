/- bytes.Compare in lifted functions. -/
import Derived.Test.YtoanecpanckkeaaRets
import Derived.Test.YtoanecpanckkeaaAnys
import Derived.Lib.Bytealg
import Derived.Laws.Externs
namespace Go.Wk
open Go.RowKit
set_option linter.unusedVariables false

theorem compareBytes_eq : ∀ (a b : List UInt8), Lib.compareBytes a b = cmpT a b
  | [], [] => by decide
  | [], _ :: _ => by simp [Lib.compareBytes, cmpT, sLt, Op.bytesLess]
  | _ :: _, [] => by simp [Lib.compareBytes, cmpT, sLt, Op.bytesLess]
  | a :: x, b :: y => by
    have h := compareBytes_eq x y
    unfold cmpT sLt at h ⊢
    simp only [Lib.compareBytes, Op.bytesLess]
    by_cases h1 : a < b
    · simp [h1]
    · by_cases h2 : b < a
      · have h3 : a ≠ b := by intro e; subst e; exact h1 h2
        simp [h1, h2, h3]
      · have h3 : a = b := UInt8.le_antisymm (UInt8.not_lt.1 h2) (UInt8.not_lt.1 h1)
        subst h3
        simp [h1, h]
section
variable {P : Program}
theorem run_loadBytes (w : World) : ∀ (xs : List UInt8) (a : Addr) (acc : ByteArray), (∀ j b, xs[j]? = some b → hc w.heap (a.add j) = some (.int .u8 (b.toNat : Int))) →
    (Extern.Bytes.loadBytes a xs.length acc).run P w = .ok ⟨acc.data ++ xs.toArray⟩ w
  | [], a, acc, _ => by simp [Extern.Bytes.loadBytes]
  | x :: xs, a, acc, h => by
    have h0 := h 0 x rfl
    rw [Addr.add_zero'] at h0
    have ih := run_loadBytes w xs (a.add 1) (acc.push x) fun j b hj => by
      rw [addr_add_add, Nat.add_comm]; exact h (j + 1) b hj
    have hl : (load a).run P w = .ok (.int .u8 (x.toNat : Int)) w := by simp [run_load, cell_hc, h0]
    simp only [List.length_cons, Extern.Bytes.loadBytes, Sem.run_bind, hl, Result.andThen_ok]
    simp only [Int.toNat_natCast, show x.toNat.toUInt8 = x from by simp]
    rw [ih]
    simp [ByteArray.push]
theorem run_bytesOf {F : Frz} {w : World} {v : Value} {xs : List UInt8} (h : Src tB F w v xs) : (Extern.Bytes.bytesOf v).run P w = .ok ⟨xs.toArray⟩ w := by
  obtain ⟨ao, c, rfl, hn, hl, hq⟩ := h.cell
  cases ao with
  | none =>
    have : xs = [] := List.eq_nil_of_length_eq_zero (by have := hn rfl; omega)
    subst this
    simp [Extern.Bytes.bytesOf]; rfl
  | some ad =>
    have := run_loadBytes (P := P) w xs ad .empty (hq ad rfl)
    simp only [Extern.Bytes.bytesOf, this]
    congr 2
    simp [ByteArray.empty, ByteArray.emptyWithCapacity]
    rfl
end
section
variable {P : Program} {fn : Func} {k : Kont} {l : Env} {w : World} {ops : Array Oper} {rest : List Oper} {d : Nat} {ty : TypeId} {pos : String} {after : Array Edge}
theorem W_cmpB {F F' : Frz} {f : FuncId} {g : Func} {x y : Operand} {u v : Value} {a b : List UInt8} {ts : Array TypeId} (hlt : Nat.blt d fn.ntmps = true) (hf : P.funcs[f]? = some g) (hname : (g.name == "runtime.NumGoroutine") = false) (hb : g.body.isNone = true) (hn : Extern.findNext g = none) (he : Extern.find g = some Extern.BytealgCompare.compare)
    (hx : ev l x = some u) (hy : ev l y = some v) (hu : Src tB F w u a) (hv : Src tB F' w v b) (h : W P fn k ops rest ((d, .int .i64 (cmpT a b)) :: l) w) :
    W P fn k ops (⟨some d, .call { callee := .value (.func f), args := #[x, y], argTypes := ts }, ty, pos, after, none⟩ :: rest) l w := by
  refine W_val rfl rfl hlt (w' := w) (fun aa ha => ?_) h
  have e : aa.eval (.func f) = .func (.func f) #[] #[] := rfl
  have h1 := run_callFunc_extern (P := P) hf hname hb hn he #[u, v] w
  have h2 : (Extern.BytealgCompare.compare #[u, v]).run P w = .ok (.int .i64 (cmpT a b)) w := by
    change ((Extern.Bytes.bytesOf u) >>= fun a => (Extern.Bytes.bytesOf v) >>= fun b => pure (goInt (Extern.BytealgCompare.cmp a b))).run P w = _
    simp only [Sem.run_bind, run_bytesOf hu, run_bytesOf hv, Result.andThen_ok, Sem.run_pure, goInt]
    rw [Lib.cmp_eq, compareBytes_eq]
  rw [h2] at h1
  simp [execOp, resolve, e, Deferred.ofValue, invoke, ha.eval hx, ha.eval hy, h1]
end
end Go.Wk
