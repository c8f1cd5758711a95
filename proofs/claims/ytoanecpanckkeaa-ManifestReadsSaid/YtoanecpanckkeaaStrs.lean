/- Strings in lifted functions. -/
import Derived.Test.YtoanecpanckkeaaLop
import Derived.Laws.BytesArg
import Derived.Laws.Strings
import Derived.Laws.Concat
namespace Go.Wk
open Go.RowKit
set_option linter.unusedVariables false

def sLt (a b : List UInt8) : Bool := Op.bytesLess a b
def cat (a b : List UInt8) : Option (List UInt8) := if a.length + b.length ≤ 1073741824 then some (a ++ b) else none
theorem cat_some {a b r : List UInt8} (h : cat a b = some r) : a.length + b.length ≤ 1073741824 ∧ r = a ++ b := by
  unfold cat at h; split at h
  · rename_i hc; exact ⟨hc, (Option.some.inj h).symm⟩
  · cases h
/-- the number of a byte at a place of a text -/
theorem strV_size (s : List UInt8) : (ByteArray.mk s.toArray).size = s.length := by simp [ByteArray.size]
section
variable {P : Program} {fn : Func} {k : Kont} {l : Env} {w : World} {ops : Array Oper} {rest : List Oper} {d : Nat} {ty : TypeId} {pos : String} {after : Array Edge}
theorem W_lenS {t : TypeId} {x : Operand} {s : List UInt8} (hlt : Nat.blt d fn.ntmps = true) (ht : P.underlying t = some .string) (hx : ev l x = some (strV s)) (h : W P fn k ops rest ((d, .int .i64 (s.length : Int)) :: l) w) :
    W P fn k ops (⟨some d, .call { callee := .builtin .len, args := #[x], argTypes := #[t] }, ty, pos, after, none⟩ :: rest) l w :=
  W_val rfl rfl hlt (fun a ha => by
    simp [execOp, resolve, invoke, builtin, ha.eval hx, strV, run_len_string w t ty _ ht, goInt, ByteArray.size]) h
theorem W_ixS {t : TypeId} {x y : Operand} {s : List UInt8} {kk : IntKind} {n : Int} {i : Nat} {b : UInt8} (hlt : Nat.blt d fn.ntmps = true) (ht : P.underlying t = some .string) (hx : ev l x = some (strV s)) (hy : ev l y = some (.int kk n)) (hn : 0 ≤ n) (hni : n.toNat = i) (hb : s[i]? = some b)
    (h : W P fn k ops rest ((d, .int .u8 (b.toNat : Int)) :: l) w) : W P fn k ops (⟨some d, .index t x y, ty, pos, after, none⟩ :: rest) l w :=
  W_val rfl rfl hlt (fun a ha => by
    have h1 := run_index_string (P := P) w t (ByteArray.mk s.toArray) kk n ht
    obtain ⟨h2, h3⟩ := List.getElem?_eq_some_iff.1 hb
    have h4 : 0 ≤ n ∧ n < (ByteArray.mk s.toArray).size := ⟨hn, by rw [strV_size]; omega⟩
    rw [dif_pos h4] at h1
    have h5 : (ByteArray.mk s.toArray)[n.toNat]'(by rw [strV_size]; omega) = b := by
      subst hni; rw [← h3]; simp [ByteArray.getElem_eq_getElem_data]
    rw [h5] at h1
    simp [execOp, ha.eval hx, ha.eval hy, strV, h1]) h
theorem run_binS {op : BinOp} {t : TypeId} {a b : List UInt8} {r : Value} (hr : (Op.stringOp op ⟨a.toArray⟩ ⟨b.toArray⟩).run P w = .ok r w) (ho : op = .eql ∨ op = .neq ∨ op = .lss ∨ op = .leq ∨ op = .gtr ∨ op = .geq ∨ op = .add) : (binOp op t (strV a) (strV b)).run P w = .ok r w := by
  rcases ho with rfl | rfl | rfl | rfl | rfl | rfl | rfl <;> exact hr
theorem W_binS {op : BinOp} {t t2 : TypeId} {x y : Operand} {a b : List UInt8} {r : Value} (hlt : Nat.blt d fn.ntmps = true) (hx : ev l x = some (strV a)) (hy : ev l y = some (strV b)) (ho : op = .eql ∨ op = .neq ∨ op = .lss ∨ op = .leq ∨ op = .gtr ∨ op = .geq ∨ op = .add)
    (hr : (Op.stringOp op ⟨a.toArray⟩ ⟨b.toArray⟩).run P w = .ok r w) (h : W P fn k ops rest ((d, r) :: l) w) : W P fn k ops (⟨some d, .binOp op t x y t2, ty, pos, after, none⟩ :: rest) l w :=
  W_binop hlt hx hy (eqGuard_at_string ..) (run_binS hr ho) h
section
variable {t t2 : TypeId} {x y : Operand} {a b : List UInt8}
theorem W_eqlS (hlt : Nat.blt d fn.ntmps = true) (hx : ev l x = some (strV a)) (hy : ev l y = some (strV b)) (h : W P fn k ops rest ((d, .bool (a == b)) :: l) w) : W P fn k ops (⟨some d, .binOp .eql t x y t2, ty, pos, after, none⟩ :: rest) l w :=
  W_binS hlt hx hy (.inl rfl) (by simp [Op.stringOp]) h
theorem W_neqS (hlt : Nat.blt d fn.ntmps = true) (hx : ev l x = some (strV a)) (hy : ev l y = some (strV b)) (h : W P fn k ops rest ((d, .bool (!(a == b))) :: l) w) : W P fn k ops (⟨some d, .binOp .neq t x y t2, ty, pos, after, none⟩ :: rest) l w :=
  W_binS hlt hx hy (.inr (.inl rfl)) (by simp [Op.stringOp]) h
theorem W_lssS (hlt : Nat.blt d fn.ntmps = true) (hx : ev l x = some (strV a)) (hy : ev l y = some (strV b)) (h : W P fn k ops rest ((d, .bool (sLt a b)) :: l) w) : W P fn k ops (⟨some d, .binOp .lss t x y t2, ty, pos, after, none⟩ :: rest) l w :=
  W_binS hlt hx hy (.inr (.inr (.inl rfl))) (by simp [Op.stringOp, sLt]) h
theorem W_leqS (hlt : Nat.blt d fn.ntmps = true) (hx : ev l x = some (strV a)) (hy : ev l y = some (strV b)) (h : W P fn k ops rest ((d, .bool (sLt a b || a == b)) :: l) w) : W P fn k ops (⟨some d, .binOp .leq t x y t2, ty, pos, after, none⟩ :: rest) l w :=
  W_binS hlt hx hy (.inr (.inr (.inr (.inl rfl)))) (by simp [Op.stringOp, sLt]) h
theorem W_gtrS (hlt : Nat.blt d fn.ntmps = true) (hx : ev l x = some (strV a)) (hy : ev l y = some (strV b)) (h : W P fn k ops rest ((d, .bool (!(sLt a b || a == b))) :: l) w) : W P fn k ops (⟨some d, .binOp .gtr t x y t2, ty, pos, after, none⟩ :: rest) l w :=
  W_binS hlt hx hy (.inr (.inr (.inr (.inr (.inl rfl))))) (by simp only [Op.stringOp, sLt, ByteArray.toList_mk, Sem.run_pure]) h
theorem W_geqS (hlt : Nat.blt d fn.ntmps = true) (hx : ev l x = some (strV a)) (hy : ev l y = some (strV b)) (h : W P fn k ops rest ((d, .bool (!sLt a b)) :: l) w) : W P fn k ops (⟨some d, .binOp .geq t x y t2, ty, pos, after, none⟩ :: rest) l w :=
  W_binS hlt hx hy (.inr (.inr (.inr (.inr (.inr (.inl rfl)))))) (by simp [Op.stringOp, sLt]) h
theorem W_catS {r : List UInt8} (hlt : Nat.blt d fn.ntmps = true) (hx : ev l x = some (strV a)) (hy : ev l y = some (strV b)) (hc : cat a b = some r) (h : W P fn k ops rest ((d, strV r) :: l) w) : W P fn k ops (⟨some d, .binOp .add t x y t2, ty, pos, after, none⟩ :: rest) l w := by
  obtain ⟨h1, rfl⟩ := cat_some hc
  refine W_binS hlt hx hy (.inr (.inr (.inr (.inr (.inr (.inr rfl)))))) ?_ h
  rw [run_string_add_sum w _ _ (by rw [strV_size, strV_size]; omega), ByteArray.mk_append_mk]; rfl
end
theorem extract_str (s : List UInt8) (a b : Nat) : (ByteArray.mk s.toArray).extract a b = ByteArray.mk ((s.take b).drop a).toArray := by
  apply ByteArray.ext
  apply Array.ext'
  simp [ByteArray.data_extract, List.drop_take]
theorem W_cutStr {t : TypeId} {x : Operand} {s : List UInt8} {ol oh : Option Operand} (a b : Nat) (hlt : Nat.blt d fn.ntmps = true) (ht : P.underlying t = some .string)
    (hx : ev l x = some (strV s)) (hl : match ol with | none => a = 0 | some y => ∃ kk n, ev l y = some (.int kk n) ∧ 0 ≤ n ∧ n.toNat = a) (hh : match oh with | none => b = s.length | some y => ∃ kk n, ev l y = some (.int kk n) ∧ 0 ≤ n ∧ n.toNat = b) (hab : a ≤ b) (hb : b ≤ s.length)
    (h : W P fn k ops rest ((d, strV ((s.take b).drop a)) :: l) w) : W P fn k ops (⟨some d, .slice t x ol oh none, ty, pos, after, none⟩ :: rest) l w := by
  refine W_val rfl rfl hlt (w' := w) (fun aa ha => ?_) h
  have hsz := strV_size s
  have hex := extract_str s a b
  generalize hS : ByteArray.mk s.toArray = S at *
  have hbS : b ≤ S.size := by omega
  cases ol with
  | none =>
    simp only at hl
    subst hl
    cases oh with
    | none =>
      simp only at hh; subst hh
      simp [execOp, ha.eval hx, strV, hS, Instr.sliceAt, Instr.slice, run_underlying ht, Instr.sliceBounds]
    | some y =>
      obtain ⟨kk, n, hy, hn0, hn⟩ := hh
      have hn' : n = (b : Int) := by omega
      subst hn'
      simp [execOp, ha.eval hx, ha.eval hy, strV, hS, Instr.sliceAt, Instr.slice, run_underlying ht, Instr.sliceBounds, Instr.sliceBound, asIntOf, hbS, hex]
  | some y1 =>
    obtain ⟨kk1, n1, hy1, hn10, hn1⟩ := hl
    have hn1' : n1 = (a : Int) := by omega
    subst hn1'
    cases oh with
    | none =>
      simp only at hh; subst hh
      simp [execOp, ha.eval hx, ha.eval hy1, strV, hS, Instr.sliceAt, Instr.slice, run_underlying ht, Instr.sliceBounds, Instr.sliceBound, asIntOf, hsz, hab, hex]
    | some y =>
      obtain ⟨kk, n, hy, hn0, hn⟩ := hh
      have hn' : n = (b : Int) := by omega
      subst hn'
      simp [execOp, ha.eval hx, ha.eval hy1, ha.eval hy, strV, hS, Instr.sliceAt, Instr.slice, run_underlying ht, Instr.sliceBounds, Instr.sliceBound, asIntOf, hbS, hab, hex]
def shlI (x n : Int) : Option Int := if 0 ≤ n ∧ n ≤ 64 then some (wr (x * 2 ^ n.toNat)) else none
theorem shlI_some {x n r : Int} (h : shlI x n = some r) : 0 ≤ n ∧ n ≤ ((IntKind.i64.bits : Nat) : Int) ∧ r = IntKind.i64.wrap (x * 2 ^ n.toNat) := by
  unfold shlI at h; split at h
  · rename_i hc; exact ⟨hc.1, hc.2, (Option.some.inj h).symm⟩
  · cases h
def shrI (x n : Int) : Option Int := if 0 ≤ n ∧ n ≤ 64 then some (x / 2 ^ n.toNat) else none
theorem shrI_some {x n r : Int} (h : shrI x n = some r) : 0 ≤ n ∧ n ≤ ((IntKind.i64.bits : Nat) : Int) ∧ r = x / 2 ^ n.toNat := by
  unfold shrI at h; split at h
  · rename_i hc; exact ⟨hc.1, hc.2, (Option.some.inj h).symm⟩
  · cases h
theorem W_cutT {t : TypeId} {x : Operand} {s r : List UInt8} {a b : Int} {ol oh : Option Operand} (a' b' : Int) (hlt : Nat.blt d fn.ntmps = true) (ht : P.underlying t = some .string)
    (hx : ev l x = some (strV s)) (hl : match ol with | none => a = 0 | some y => ∃ kk, ev l y = some (.int kk a)) (hh : match oh with | none => b = (s.length : Int) | some y => ∃ kk, ev l y = some (.int kk b)) (hc : cut s a b = some r)
    (h : W P fn k ops rest ((d, strV r) :: l) w) : W P fn k ops (⟨some d, .slice t x ol oh none, ty, pos, after, none⟩ :: rest) l w := by
  obtain ⟨h0, h1, h2, rfl⟩ := cut_some hc
  refine W_cutStr a.toNat b.toNat hlt ht hx ?_ ?_ (by omega) (by omega) h
  · cases ol with
    | none => simp only at hl ⊢; omega
    | some y => obtain ⟨kk, hl⟩ := hl; exact ⟨kk, a, hl, h0, rfl⟩
  · cases oh with
    | none => simp only at hh ⊢; omega
    | some y => obtain ⟨kk, hh⟩ := hh; exact ⟨kk, b, hh, by omega, rfl⟩
/-- bytes as a text -/
theorem W_bstr {F : Frz} {src dst e : TypeId} {x : Operand} {v : Value} {xs : List UInt8} (hlt : Nat.blt d fn.ntmps = true) (hs : P.underlying src = some (.slice e)) (he : P.underlying e = some (.int .u8)) (hd : P.underlying dst = some .string) (hx : ev l x = some v) (hS : Src tB F w v xs)
    (h : W P fn k ops rest ((d, strV xs) :: l) w) : W P fn k ops (⟨some d, .convert src dst x, ty, pos, after, none⟩ :: rest) l w := by
  refine W_val rfl rfl hlt (w' := w) (fun aa ha => ?_) h
  obtain ⟨css, hr, _, ao, c, rfl, hlc, _, hn, hp⟩ := hS
  cases ao with
  | none =>
    have h0 : xs = [] := List.eq_nil_of_length_eq_zero (by have := hn rfl; rw [← hr.1]; omega)
    subst h0
    have := run_convert_bytes_nil (P := P) w src e hs he css.length c dst hd
    simp [execOp, ha.eval hx, this, strV, ByteArray.empty, ByteArray.emptyWithCapacity]
    rfl
  | some ad =>
    have hl : (loadCells ad css.length).run P w = .ok ((xs.map fun b => (b.toNat : Int)).map (Value.int .u8)).toArray w := by
      have := run_loadCells_list (P := P) w ad ((xs.map fun b => (b.toNat : Int)).map (Value.int .u8)) (fun j v hj => by
        simp only [List.getElem?_map, Option.map_map, Option.map_eq_some_iff] at hj
        obtain ⟨b, hb, rfl⟩ := hj
        have hjl : j < css.length := by rw [hr.1]; exact (List.getElem?_eq_some_iff.1 hb).1
        have h1 := hr.2 j _ _ (List.getElem?_eq_getElem hjl) hb
        have h2 := (hp ad rfl).1 j _ 0 (.int .u8 (b.toNat : Int)) (List.getElem?_eq_getElem hjl) (by rw [h1]; rfl)
        simp only [tB, Nat.mul_one, Nat.add_zero] at h2
        rw [cell_hc]; exact h2)
      simpa [hr.1] using this
    have h7 : (ByteArray.mk (ByteArray.empty.data ++ ((xs.map fun b => (b.toNat : Int)).map fun n => UInt8.ofNat n.toNat).toArray)) = ByteArray.mk xs.toArray := by
      have h9 : ((fun n : Int => UInt8.ofNat n.toNat) ∘ fun b : UInt8 => (b.toNat : Int)) = id := by funext b; simp
      simp only [ByteArray.empty, ByteArray.emptyWithCapacity, List.map_map, h9, List.map_id]
      exact congrArg ByteArray.mk (by simp; rfl)
    have h8 : (convert src dst (.slice (some ad) css.length c)).run P w = .ok (strV xs) w := by
      rw [run_convert_bytes_string w src dst e _ css.length c hs he hd, run_bytesToString w _ _ c _ hl, foldl_push_bytes, h7]; rfl
    simp [execOp, ha.eval hx, h8]
end
end Go.Wk
