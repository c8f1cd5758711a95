/- Arrays of 32 bytes in lifted functions: compared, looked into, cut to bytes, made of bytes. -/
import Derived.Test.YtoanecpanckkeaaStra
import Derived.Test.YtoanecpanckkeaaArr
namespace Go.Wk
open Go.RowKit
set_option linter.unusedVariables false

theorem u32_addc (x y : UInt32) {n : Int} (h : n = (y.toNat : Int)) : IntKind.u32.wrap ((x.toNat : Int) + n) = ((x + y).toNat : Int) := by subst h; exact u32_add x y
theorem u32_mulc (x y : UInt32) {n : Int} (h : n = (y.toNat : Int)) : IntKind.u32.wrap ((x.toNat : Int) * n) = ((x * y).toNat : Int) := by subst h; exact u32_mul x y
theorem idCells_map {x : List UInt8} (h : x.length = 32) : idCells x = x.map cB := by
  apply List.ext_getElem
  · simp [idCells, h]
  · intro i h1 h2
    have hi : i < x.length := by simpa using h2
    simp [idCells, cB, hi]
theorem id_at {x : List UInt8} (h : x.length = 32) {i : Nat} {b : UInt8} (hb : x[i]? = some b) : (idCells x)[i]? = some (.int .u8 (b.toNat : Int)) := by
  rw [idCells_map h]; simp [hb, cB]
def arr32 (xs : List UInt8) : Option (List UInt8) := if 32 ≤ xs.length ∧ xs.length ≤ 1073741824 then some (xs.take 32) else none
theorem arr32_some {xs r : List UInt8} (h : arr32 xs = some r) : 32 ≤ xs.length ∧ r = xs.take 32 := by
  unfold arr32 at h; split at h
  · rename_i hc; exact ⟨hc.1, (Option.some.inj h).symm⟩
  · cases h
theorem arr32_len {xs r : List UInt8} (h : arr32 xs = some r) : r.length = 32 := by
  obtain ⟨h1, rfl⟩ := arr32_some h; simp; omega
theorem Src.cell {F : Frz} {w : World} {v : Value} {xs : List UInt8} (h : Src tB F w v xs) : ∃ ao c, v = .slice ao xs.length c ∧ (ao = none → c = 0) ∧ xs.length ≤ c ∧ ∀ ad, ao = some ad → ∀ j b, xs[j]? = some b → hc w.heap (ad.add j) = some (.int .u8 (b.toNat : Int)) := by
  obtain ⟨css, hr, _, ao, c, rfl, h1, _, h2, h3⟩ := h
  refine ⟨ao, c, by rw [hr.1], h2, by rw [← hr.1]; exact h1, fun ad had j b hb => ?_⟩
  have hjl : j < css.length := by rw [hr.1]; exact (List.getElem?_eq_some_iff.1 hb).1
  have h4 := hr.2 j _ _ (List.getElem?_eq_getElem hjl) hb
  have h5 := (h3 ad had).1 j _ 0 (.int .u8 (b.toNat : Int)) (List.getElem?_eq_getElem hjl) (by rw [h4]; rfl)
  simpa [tB] using h5
theorem Src.mkB {F : Frz} {w : World} {ad : Addr} {xs : List UInt8} {c : Nat} (hc1 : xs.length ≤ c) (hc2 : c ≤ maxLen) (h : ∀ j b, xs[j]? = some b → hc w.heap (ad.add j) = some (.int .u8 (b.toNat : Int))) : Src tB F w (.slice (some ad) xs.length c) xs := by
  have hg : ∀ (i : Nat) (d : Cl tB.size), (xs.map fun b => (⟨[Value.int .u8 (b.toNat : Int)], rfl⟩ : Cl tB.size))[i]? = some d → ∃ b, xs[i]? = some b ∧ d.val = [Value.int .u8 (b.toNat : Int)] := fun i d hd => by
    simp only [List.getElem?_map, Option.map_eq_some_iff] at hd
    obtain ⟨b, hb, rfl⟩ := hd; exact ⟨b, hb, rfl⟩
  refine ⟨xs.map fun b => ⟨[.int .u8 (b.toNat : Int)], rfl⟩, ⟨by simp, fun i d y hd hy => ?_⟩, fun d => d.2, some ad, c, by simp, by simpa using hc1, hc2, (fun e => by cases e), fun ad' had => ?_⟩
  · obtain ⟨b, hb, hd2⟩ := hg i d hd
    rw [hb] at hy; obtain rfl := Option.some.inj hy; exact hd2
  · obtain rfl := Option.some.inj had
    refine ⟨fun i d j u hd hu => ?_, fun hne => ⟨Nat.zero_le _, ?_⟩⟩
    · obtain ⟨b, hb, hd2⟩ := hg i d hd
      rw [hd2] at hu
      cases j with
      | zero => simp at hu; subst hu; simpa [tB] using h i b hb
      | succ j => simp at hu
    · cases xs with
      | nil => simp at hne
      | cons x xs => have := hc_lt (h 0 x rfl); rwa [Addr.block_add] at this
theorem SlF.mkB {F : Frz} {ad : Addr} {xs : List UInt8} {c : Nat} (hc1 : xs.length ≤ c) (hc2 : c ≤ maxLen) (h : ∀ j b, xs[j]? = some b → F (ad.add j) = some (.int .u8 (b.toNat : Int))) : SlF tB F (.slice (some ad) xs.length c) xs := by
  have hg : ∀ (i : Nat) (d : Cl tB.size), (xs.map fun b => (⟨[Value.int .u8 (b.toNat : Int)], rfl⟩ : Cl tB.size))[i]? = some d → ∃ b, xs[i]? = some b ∧ d.val = [Value.int .u8 (b.toNat : Int)] := fun i d hd => by
    simp only [List.getElem?_map, Option.map_eq_some_iff] at hd
    obtain ⟨b, hb, rfl⟩ := hd; exact ⟨b, hb, rfl⟩
  refine ⟨xs.map fun b => ⟨[.int .u8 (b.toNat : Int)], rfl⟩, ⟨by simp, fun i d y hd hy => ?_⟩, some ad, c, by simp, by simpa using hc1, hc2, (fun e => by cases e), fun ad' had => ?_⟩
  · obtain ⟨b, hb, hd2⟩ := hg i d hd
    rw [hb] at hy; obtain rfl := Option.some.inj hy; exact hd2
  · obtain rfl := Option.some.inj had
    intro i d j u hd hu
    obtain ⟨b, hb, hd2⟩ := hg i d hd
    rw [hd2] at hu
    cases j with
    | zero => simp at hu; subst hu; simpa [tB] using h i b hb
    | succ j => simp at hu
section
variable {P : Program} {fn : Func} {k : Kont} {l : Env} {w : World} {ops : Array Oper} {rest : List Oper} {d : Nat} {ty : TypeId} {pos : String} {after : Array Edge}
variable {X : List Nat} {w0 : World} {F0 F G : Frz} {L : List Ob}
section
variable {t t2 e : TypeId} {x y : Operand} {a b : List UInt8}
theorem W_eqlI (hlt : Nat.blt d fn.ntmps = true) (ht : P.underlying t = some (.array 32 e)) (he : P.underlying e = some (.int .u8)) (hs : P.cellsOf e = 1) (hse : (P.info? e).isSome = true) (hgt : P.eqGuardType P.depth t = false) (hx : ev l x = some (.agg (idCells a).toArray)) (hy : ev l y = some (.agg (idCells b).toArray)) (ha : a.length = 32) (hb : b.length = 32)
    (h : W P fn k ops rest ((d, .bool (decide (a = b))) :: l) w) : W P fn k ops (⟨some d, .binOp .eql t x y t2, ty, pos, after, none⟩ :: rest) l w := by
  rw [idCells_map ha] at hx; rw [idCells_map hb] at hy
  exact W_eql_u8s hlt ht he hs hse hgt hx hy ha hb h
theorem W_neqI (hlt : Nat.blt d fn.ntmps = true) (ht : P.underlying t = some (.array 32 e)) (he : P.underlying e = some (.int .u8)) (hs : P.cellsOf e = 1) (hse : (P.info? e).isSome = true) (hgt : P.eqGuardType P.depth t = false) (hx : ev l x = some (.agg (idCells a).toArray)) (hy : ev l y = some (.agg (idCells b).toArray)) (ha : a.length = 32) (hb : b.length = 32)
    (h : W P fn k ops rest ((d, .bool (!decide (a = b))) :: l) w) : W P fn k ops (⟨some d, .binOp .neq t x y t2, ty, pos, after, none⟩ :: rest) l w := by
  rw [idCells_map ha] at hx; rw [idCells_map hb] at hy
  exact W_neq_u8s hlt ht he hs hse hgt hx hy ha hb h
end
/-- a place of a boxed array -/
theorem W_ixB {t e : TypeId} {x y : Operand} {g i : Nat} {kk : IntKind} {n : Int} (hlt : Nat.blt d fn.ntmps = true) (ht : P.underlying t = some (.array 32 e)) (hsz : P.cellsOf e = 1) (hi' : (P.info? e).isSome = true)
    (hx : ev l x = some (pl g 0)) (hy : ev l y = some (.int kk n)) (hn : 0 ≤ n) (hni : n.toNat = i) (hj : i < 32) (h : W P fn k ops rest ((d, pl g i) :: l) w) : W P fn k ops (⟨some d, .indexAddr t x y, ty, pos, after, none⟩ :: rest) l w := by
  refine W_index_arr i hlt ht hsz hi' hx hy (by omega) hj ?_
  rw [Nat.zero_add, Nat.mul_one]; exact h
/-- a boxed array, as bytes -/
theorem W_slB {t e e2 : TypeId} {x : Operand} {g : Nat} {xs : List UInt8} (i : Nat) (hlt : Nat.blt d fn.ntmps = true) (ht : P.underlying t = some (.array 32 e)) (hi' : (P.info? e).isSome = true)
    (hx : ev l x = some (pl g 0)) (hS : St X w0 F0 F L w) (hi : L[i]? = some (.box g e2 (idCells xs))) (hlen : xs.length = 32) (h : ∀ v, Src tB F w v xs → W P fn k ops rest ((d, v) :: l) w) :
    W P fn k ops (⟨some d, .slice t x none none none, ty, pos, after, none⟩ :: rest) l w := by
  obtain ⟨inf, hinfo⟩ := Option.isSome_iff_exists.1 hi'
  have hb : w.heap[g]? = some (.cells (idCells xs).toArray e2 (0, 0)) := hS.ok hi
  have hs : Src tB F w (.slice (some ⟨g, 0, none⟩) xs.length 32) xs := Src.mkB (by omega) (by decide) fun j b hj => by
    simp [hc, Addr.add_lit, hb, id_at hlen hj]
  refine W_val rfl rfl hlt (w' := w) (fun aa ha => ?_) (h _ hs)
  simp [execOp, ha.eval hx, Instr.sliceAt, Instr.sureAddr, run_underlying ht, Instr.sliceBounds, sizeOf, typeInfo, hinfo, pl, hlen, Addr.add_zero']
/-- an array that is an element of a frozen slice, as bytes -/
theorem W_slE {t e : TypeId} {x : Operand} {v : Value} {o i : Nat} {xs : List UInt8} (hlt : Nat.blt d fn.ntmps = true) (ht : P.underlying t = some (.array 32 e)) (hi' : (P.info? e).isSome = true)
    (hx : ev l x = some (elp v o)) (hE : Elf F v 32 i (idCells xs)) (ho : o = i * 32) (hlen : xs.length = 32) (h : ∀ v', SlF tB F v' xs → W P fn k ops rest ((d, v') :: l) w) :
    W P fn k ops (⟨some d, .slice t x none none none, ty, pos, after, none⟩ :: rest) l w := by
  obtain ⟨inf, hinfo⟩ := Option.isSome_iff_exists.1 hi'
  obtain ⟨_, ad, m, c, rfl, hm, hq⟩ := hE
  subst ho
  have hs : SlF tB F (.slice (some (ad.add (i * 32))) xs.length 32) xs := SlF.mkB (by omega) (by decide) fun j b hj => by
    rw [addr_add_add]; exact hq j _ (id_at hlen hj)
  refine W_val rfl rfl hlt (w' := w) (fun aa ha => ?_) (h _ hs)
  simp [execOp, ha.eval hx, elp, Instr.sliceAt, Instr.sureAddr, run_underlying ht, Instr.sliceBounds, sizeOf, typeInfo, hinfo, hlen, Addr.add_zero']
/-- .. of an own row -/
theorem W_slR {t e : TypeId} {x : Operand} {v : Value} {o i : Nat} {xs : List UInt8} (hlt : Nat.blt d fn.ntmps = true) (ht : P.underlying t = some (.array 32 e)) (hi' : (P.info? e).isSome = true)
    (hx : ev l x = some (elp v o)) (hE : El w.heap v 32 i (idCells xs)) (ho : o = i * 32) (hlen : xs.length = 32) (h : ∀ v', Src tB F w v' xs → W P fn k ops rest ((d, v') :: l) w) :
    W P fn k ops (⟨some d, .slice t x none none none, ty, pos, after, none⟩ :: rest) l w := by
  obtain ⟨inf, hinfo⟩ := Option.isSome_iff_exists.1 hi'
  obtain ⟨_, ad, m, c, rfl, hm, hq⟩ := hE
  subst ho
  have hs : Src tB F w (.slice (some (ad.add (i * 32))) xs.length 32) xs := Src.mkB (by omega) (by decide) fun j b hj => by
    rw [addr_add_add]; exact hq j _ (id_at hlen hj)
  refine W_val rfl rfl hlt (w' := w) (fun aa ha => ?_) (h _ hs)
  simp [execOp, ha.eval hx, elp, Instr.sliceAt, Instr.sureAddr, run_underlying ht, Instr.sliceBounds, sizeOf, typeInfo, hinfo, hlen, Addr.add_zero']
/-- bytes as an array: where it lies, and what is read there -/
theorem W_s2a {t e : TypeId} {x : Operand} {v : Value} {xs r : List UInt8} (hlt : Nat.blt d fn.ntmps = true) (ht : P.underlying t = some (.array 32 e)) (hx : ev l x = some v) (hS : Src tB F w v xs) (hr : arr32 xs = some r)
    (h : W P fn k ops rest ((d, elp v 0) :: l) w) : W P fn k ops (⟨some d, .sliceToArrayPointer t x, ty, pos, after, none⟩ :: rest) l w := by
  obtain ⟨hl, rfl⟩ := arr32_some hr
  obtain ⟨ao, c, rfl, hn, hc, _⟩ := hS.cell
  have h32 : ¬ xs.length < 32 := by omega
  cases ao with
  | none => have := hn rfl; omega
  | some ad => exact W_val rfl rfl hlt (w' := w) (fun aa ha => by simp [execOp, ha.eval hx, elp, Instr.arrayAt, run_underlying ht, h32, Addr.add_zero']) h
theorem W_lda {t : TypeId} {x : Operand} {v : Value} {xs r : List UInt8} (hlt : Nat.blt d fn.ntmps = true) (ht : aggType (P.underlying t) = true) (hi' : (P.info? t).map (·.size) = some 32) (hx : ev l x = some (elp v 0)) (hS : Src tB F w v xs) (hr : arr32 xs = some r)
    (h : W P fn k ops rest ((d, .agg (idCells r).toArray) :: l) w) : W P fn k ops (⟨some d, .load t x, ty, pos, after, none⟩ :: rest) l w := by
  obtain ⟨hl, rfl⟩ := arr32_some hr
  obtain ⟨ao, c, rfl, hn, hcc, hq⟩ := hS.cell
  cases ao with
  | none => have := hn rfl; omega
  | some ad =>
    have hlen : (xs.take 32).length = 32 := by simp; omega
    refine W_val rfl rfl hlt (w' := w) (fun aa ha => ?_) h
    have hr := run_loadVar_agg (P := P) (w := w) (a := ad) (cs := idCells (xs.take 32)) ht (by simpa [idCells] using hi') (fun q u hu => by
      have hql : q < 32 := by have := (List.getElem?_eq_some_iff.1 hu).1; simpa [idCells] using this
      have hb := List.getElem?_eq_getElem (l := xs.take 32) (i := q) (by omega)
      rw [id_at hlen hb] at hu
      obtain rfl := Option.some.inj hu
      rw [cell_hc]
      exact hq ad rfl q _ (by rw [← hb, List.getElem?_take_of_lt hql]))
    simp [execOp, ha.eval hx, elp, Instr.loadAt, Instr.sureAddr, hr, Addr.add_zero']
end
end Go.Wk
