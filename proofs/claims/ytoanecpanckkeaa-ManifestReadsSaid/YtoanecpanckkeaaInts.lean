/- Machine integers: what the model's wraps and bits are, in Lean's own UInt8, UInt32, UInt64. -/
import Derived.Test.YtoanecpanckkeaaOps
namespace Go.Wk

theorem i64_id {x : Int} (h0 : -9223372036854775808 ≤ x) (h1 : x ≤ 9223372036854775807) : IntKind.i64.wrap x = x := IntWalk.i64_in x ⟨h0, h1⟩
theorem u8_wrap (x : Int) : IntKind.u8.wrap x = x % 256 := by
  simp [IntKind.wrap, IntKind.bits, IntKind.signed]
theorem u32_wrap (x : Int) : IntKind.u32.wrap x = x % 4294967296 := by
  simp [IntKind.wrap, IntKind.bits, IntKind.signed]
theorem u64_wrap (x : Int) : IntKind.u64.wrap x = x % 18446744073709551616 := by
  simp [IntKind.wrap, IntKind.bits, IntKind.signed]

theorem u32_add (x y : UInt32) : IntKind.u32.wrap ((x.toNat : Int) + (y.toNat : Int)) = ((x + y).toNat : Int) := by
  rw [u32_wrap, UInt32.toNat_add]; omega
theorem u32_mul (x y : UInt32) : IntKind.u32.wrap ((x.toNat : Int) * (y.toNat : Int)) = ((x * y).toNat : Int) := by
  rw [u32_wrap, UInt32.toNat_mul, ← Int.natCast_mul, Int.natCast_emod]; rfl
theorem u64_add (x y : UInt64) : IntKind.u64.wrap ((x.toNat : Int) + (y.toNat : Int)) = ((x + y).toNat : Int) := by
  rw [u64_wrap, UInt64.toNat_add]; omega

theorem u64_mul (x y : UInt64) : IntKind.u64.wrap ((x.toNat : Int) * (y.toNat : Int)) = ((x * y).toNat : Int) := by
  rw [u64_wrap, UInt64.toNat_mul, ← Int.natCast_mul, Int.natCast_emod]; rfl
theorem u64_of_int (x : Int) (n : Nat) (h : x = (n : Int)) : IntKind.u64.wrap x = ((UInt64.ofNat n).toNat : Int) := by
  subst h; rw [u64_wrap, UInt64.toNat_ofNat']; omega
theorem u64_sub (x y : UInt64) : IntKind.u64.wrap ((x.toNat : Int) - (y.toNat : Int)) = ((x - y).toNat : Int) := by
  rw [u64_wrap, UInt64.toNat_sub]; have := x.toNat_lt; have := y.toNat_lt; omega
theorem ofInt_natCast (n x : Nat) : BitVec.ofInt n (x : Int) = BitVec.ofNat n x := by
  apply BitVec.eq_of_toNat_eq; simp

theorem ofNat_u32 (x : UInt32) : BitVec.ofInt 32 (x.toNat : Int) = x.toBitVec := by
  rw [ofInt_natCast]; simp
theorem ofNat_u64 (x : UInt64) : BitVec.ofInt 64 (x.toNat : Int) = x.toBitVec := by
  rw [ofInt_natCast]; simp
theorem ofNat_u8 (x : UInt8) : BitVec.ofInt 8 (x.toNat : Int) = x.toBitVec := by
  rw [ofInt_natCast]; simp

theorem wrap_u32_toNat (b : BitVec 32) : IntKind.u32.wrap (b.toNat : Int) = (b.toNat : Int) := by
  rw [u32_wrap]; have := b.isLt; omega
theorem wrap_u64_toNat (b : BitVec 64) : IntKind.u64.wrap (b.toNat : Int) = (b.toNat : Int) := by
  rw [u64_wrap]; have := b.isLt; omega
theorem wrap_u8_toNat (b : BitVec 8) : IntKind.u8.wrap (b.toNat : Int) = (b.toNat : Int) := by
  rw [u8_wrap]; have := b.isLt; omega

theorem u32_and (x y : UInt32) : bits .and .u32 (x.toNat : Int) (y.toNat : Int) = ((x &&& y).toNat : Int) := by
  show IntKind.u32.wrap ((BitVec.ofInt 32 (x.toNat : Int) &&& BitVec.ofInt 32 (y.toNat : Int)).toNat : Int) = _
  rw [wrap_u32_toNat, ofNat_u32, ofNat_u32]; rfl
theorem u32_or (x y : UInt32) : bits .or .u32 (x.toNat : Int) (y.toNat : Int) = ((x ||| y).toNat : Int) := by
  show IntKind.u32.wrap ((BitVec.ofInt 32 (x.toNat : Int) ||| BitVec.ofInt 32 (y.toNat : Int)).toNat : Int) = _
  rw [wrap_u32_toNat, ofNat_u32, ofNat_u32]; rfl
theorem u32_xor (x y : UInt32) : bits .xor .u32 (x.toNat : Int) (y.toNat : Int) = ((x ^^^ y).toNat : Int) := by
  show IntKind.u32.wrap ((BitVec.ofInt 32 (x.toNat : Int) ^^^ BitVec.ofInt 32 (y.toNat : Int)).toNat : Int) = _
  rw [wrap_u32_toNat, ofNat_u32, ofNat_u32]; rfl
theorem u64_and (x y : UInt64) : bits .and .u64 (x.toNat : Int) (y.toNat : Int) = ((x &&& y).toNat : Int) := by
  show IntKind.u64.wrap ((BitVec.ofInt 64 (x.toNat : Int) &&& BitVec.ofInt 64 (y.toNat : Int)).toNat : Int) = _
  rw [wrap_u64_toNat, ofNat_u64, ofNat_u64]; rfl
theorem u64_or (x y : UInt64) : bits .or .u64 (x.toNat : Int) (y.toNat : Int) = ((x ||| y).toNat : Int) := by
  show IntKind.u64.wrap ((BitVec.ofInt 64 (x.toNat : Int) ||| BitVec.ofInt 64 (y.toNat : Int)).toNat : Int) = _
  rw [wrap_u64_toNat, ofNat_u64, ofNat_u64]; rfl
theorem u8_xor (x y : UInt8) : bits .xor .u8 (x.toNat : Int) (y.toNat : Int) = ((x ^^^ y).toNat : Int) := by
  show IntKind.u8.wrap ((BitVec.ofInt 8 (x.toNat : Int) ^^^ BitVec.ofInt 8 (y.toNat : Int)).toNat : Int) = _
  rw [wrap_u8_toNat, ofNat_u8, ofNat_u8]; rfl
theorem u32_not (x : UInt32) : bits .xor .u32 4294967295 (x.toNat : Int) = ((~~~x).toNat : Int) := by
  have e : (4294967295 : Int) = ((4294967295 : UInt32).toNat : Int) := by decide
  rw [e, u32_xor]
  have h : ∀ b : BitVec 32, (4294967295#32 ^^^ b) = ~~~b := by
    intro b
    have : (4294967295#32) = BitVec.allOnes 32 := by decide
    rw [this, BitVec.allOnes_xor]
  exact congrArg (fun b : BitVec 32 => (b.toNat : Int)) (h x.toBitVec)

/-- shifts by a number -/
theorem u32_shl (x : UInt32) (n : Int) (c : Nat) (hn : n.toNat = c) (hc : c < 32) : IntKind.u32.wrap ((x.toNat : Int) * 2 ^ n.toNat) = ((x <<< (UInt32.ofNat c)).toNat : Int) := by
  rw [u32_wrap, UInt32.toNat_shiftLeft, hn]
  have : (UInt32.ofNat c).toNat % 32 = c := by simp; omega
  rw [this, Nat.shiftLeft_eq, Int.natCast_emod, Int.natCast_mul, Int.natCast_pow]; rfl
theorem u64_shl (x : UInt64) (n : Int) (c : Nat) (hn : n.toNat = c) (hc : c < 64) : IntKind.u64.wrap ((x.toNat : Int) * 2 ^ n.toNat) = ((x <<< (UInt64.ofNat c)).toNat : Int) := by
  rw [u64_wrap, UInt64.toNat_shiftLeft, hn]
  have : (UInt64.ofNat c).toNat % 64 = c := by simp; omega
  rw [this, Nat.shiftLeft_eq, Int.natCast_emod, Int.natCast_mul, Int.natCast_pow]; rfl
theorem u32_shr (x : UInt32) (n : Int) (c : Nat) (hn : n.toNat = c) (hc : c < 32) : (x.toNat : Int) / 2 ^ n.toNat = ((x >>> (UInt32.ofNat c)).toNat : Int) := by
  rw [UInt32.toNat_shiftRight, hn]
  have : (UInt32.ofNat c).toNat % 32 = c := by simp; omega
  rw [this, Nat.shiftRight_eq_div_pow]
  norm_cast
theorem u64_shr (x : UInt64) (n : Int) (c : Nat) (hn : n.toNat = c) (hc : c < 64) : (x.toNat : Int) / 2 ^ n.toNat = ((x >>> (UInt64.ofNat c)).toNat : Int) := by
  rw [UInt64.toNat_shiftRight, hn]
  have : (UInt64.ofNat c).toNat % 64 = c := by simp; omega
  rw [this, Nat.shiftRight_eq_div_pow]
  norm_cast

theorem u8_u64 (b : UInt8) : IntKind.u64.wrap (b.toNat : Int) = (b.toUInt64.toNat : Int) := by
  rw [u64_wrap, UInt8.toNat_toUInt64]; have := b.toNat_lt; omega
theorem u8_u32 (b : UInt8) : IntKind.u32.wrap (b.toNat : Int) = (b.toUInt32.toNat : Int) := by
  rw [u32_wrap, UInt8.toNat_toUInt32]; have := b.toNat_lt; omega
theorem u8_i64 (b : UInt8) : IntKind.i64.wrap (b.toNat : Int) = (b.toNat : Int) := by
  have := b.toNat_lt; exact i64_id (by omega) (by omega)
theorem u64_u32 (x : UInt64) : IntKind.u32.wrap (x.toNat : Int) = (x.toUInt32.toNat : Int) := by
  rw [u32_wrap, UInt64.toNat_toUInt32]; omega
theorem u64_u8 (x : UInt64) : IntKind.u8.wrap (x.toNat : Int) = (x.toUInt8.toNat : Int) := by
  rw [u8_wrap, UInt64.toNat_toUInt8]; omega
theorem u32_u8 (x : UInt32) : IntKind.u8.wrap (x.toNat : Int) = (x.toUInt8.toNat : Int) := by
  rw [u8_wrap, UInt32.toNat_toUInt8]; omega
theorem i64_u64 (n : Nat) : IntKind.u64.wrap (n : Int) = ((UInt64.ofNat n).toNat : Int) := by
  rw [u64_wrap, UInt64.toNat_ofNat']; omega
theorem i64_u8 (n : Nat) : IntKind.u8.wrap (n : Int) = ((UInt8.ofNat n).toNat : Int) := by
  rw [u8_wrap, UInt8.toNat_ofNat']; omega

def encB (b : UInt8) : List Value := [.int .u8 (b.toNat : Int)]
def encI (n : Int) : List Value := [.int .i64 n]
def encW (x : UInt32) : List Value := [.int .u32 (x.toNat : Int)]
def encV (v : Value) : List Value := [v]

section
variable {P : Program} {fn : Func} {k : Kont} {l : Env} {w : World} {ops : Array Oper} {rest : List Oper} {d : Nat} {ty : TypeId} {pos : String} {after : Array Edge}

theorem W_compl {t : TypeId} {x : Operand} {m : Int} {kk : IntKind} (hlt : Nat.blt d fn.ntmps = true) (hx : ev l x = some (.int kk m)) {r : Int} (hr : bits .xor kk (if kk.signed then -1 else kk.max) m = r) (h : W P fn k ops rest ((d, .int kk r) :: l) w) : W P fn k ops (⟨some d, .unOp .xor t x, ty, pos, after, none⟩ :: rest) l w :=
  W_val rfl rfl hlt (fun a ha => by simp [execOp, ha.eval hx, Op.unary, intBits_xor, hr]) h

theorem run_indexAt_sl {α : Type} {lo hi : Nat} {s : Nat} {enc : α → List Value} {ds : List α} {v : Value} {t e : TypeId} {kk : IntKind} {n : Int} (j : Nat) (ht : P.underlying t = some (.slice e)) (hsz : P.cellsOf e = s) (hi' : (P.info? e).isSome = true)
    (hs : Sl lo hi w.heap s enc v ds) (hn : n = (j : Int)) (hj : j < ds.length) : (Instr.indexAt t v (.int kk n)).run P w = .ok (elp v (j * s)) w := by
  obtain ⟨_, ao, c, rfl, h2, h3, h4, h5⟩ := hs
  subst hn
  cases ao with
  | none => exfalso; have := h4 rfl; omega
  | some ad =>
    obtain ⟨i, hinfo⟩ := Option.isSome_iff_exists.1 hi'
    have hsz' : i.size = s := by simpa [Program.cellsOf, hinfo] using hsz
    simp [Instr.indexAt, run_underlying ht, asIntOf, hj, sizeOf, typeInfo, hinfo, hsz', elp]

theorem W_index {α : Type} {lo hi : Nat} {s : Nat} {enc : α → List Value} {ds : List α} {t : TypeId} {x y : Operand} {v : Value} {e : TypeId} {kk : IntKind} {n : Int} (j : Nat) (hlt : Nat.blt d fn.ntmps = true) (ht : P.underlying t = some (.slice e)) (hsz : P.cellsOf e = s) (hi' : (P.info? e).isSome = true)
    (hx : ev l x = some v) (hy : ev l y = some (.int kk n)) (hs : Sl lo hi w.heap s enc v ds) (hn : n = (j : Int)) (hj : j < ds.length) (h : W P fn k ops rest ((d, elp v (j * s)) :: l) w) : W P fn k ops (⟨some d, .indexAddr t x y, ty, pos, after, none⟩ :: rest) l w :=
  W_val rfl rfl hlt (fun a ha => by simp [execOp, ha.eval hx, ha.eval hy, run_indexAt_sl j ht hsz hi' hs hn hj]) h

def cellType : Option TypeDesc → Bool
  | some (.struct _) | some (.array _ _) | none => false
  | _ => true

theorem run_loadVar_cell {t : TypeId} {a : Addr} {u : Value} (ht : cellType (P.underlying t) = true) (hu : hc w.heap a = some u) : (loadVar t a).run P w = .ok u w := by
  cases hd : P.underlying t with
  | none => simp [hd, cellType] at ht
  | some dd =>
    have hagg : (isAgg t).run P w = .ok false w := by
      simp only [isAgg, Sem.run_bind, run_underlying hd, Result.andThen_ok]
      rw [hd] at ht
      cases dd <;> first | rfl | simp [cellType] at ht
    simp only [loadVar, Sem.run_bind, hagg, Result.andThen_ok]
    simp [cell_hc, hu]

/-- a load of one cell of an element -/
theorem W_load1 {α : Type} {lo hi : Nat} {s : Nat} {enc : α → List Value} {ds : List α} {t : TypeId} {x : Operand} {v : Value} {o : Nat} {dd : α} {u : Value} (j f : Nat) (hlt : Nat.blt d fn.ntmps = true) (ht : cellType (P.underlying t) = true)
    (hx : ev l x = some (elp v o)) (hs : Sl lo hi w.heap s enc v ds) (ho : o = j * s + f) (hj : ds[j]? = some dd) (hu : (enc dd)[f]? = some u) (h : W P fn k ops rest ((d, u) :: l) w) : W P fn k ops (⟨some d, .load t x, ty, pos, after, none⟩ :: rest) l w :=
  W_val rfl rfl hlt (fun a ha => by
    obtain ⟨_, ao, c, rfl, h2, h3, h4, h5⟩ := hs
    cases ao with
    | none => exfalso; have := h4 rfl; have := (List.getElem?_eq_some_iff.1 hj).1; omega
    | some ad =>
      have hcell := (h5 ad rfl).1 j dd f u hj hu
      subst ho
      simp [execOp, ha.eval hx, elp, Instr.loadAt, Instr.sureAddr, run_loadVar_cell ht hcell]) h
end
end Go.Wk
