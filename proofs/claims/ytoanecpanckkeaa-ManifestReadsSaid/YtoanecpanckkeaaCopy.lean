/- copy into an array that the call owns -/
import Derived.Test.YtoanecpanckkeaaIds
import Derived.Laws.CopyRow
namespace Go.Wk
open Go.RowKit
set_option linter.unusedVariables false
def cpy (d s : List UInt8) : List UInt8 := s.take d.length ++ d.drop s.length
theorem cpy_len {d s : List UInt8} {n : Nat} (h : d.length = n) : (cpy d s).length = n := by simp [cpy]; omega
section
variable {P : Program} {fn : Func} {k : Kont} {l : Env} {w : World} {ops : Array Oper} {rest : List Oper} {d : Nat} {ty : TypeId} {pos : String} {after : Array Edge}
variable {X : List Nat} {w0 : World} {F0 F G : Frz} {L : List Ob}
/-- a boxed array, as the slice that it is -/
theorem W_slC {t e : TypeId} {x : Operand} {g : Nat} (hlt : Nat.blt d fn.ntmps = true) (ht : P.underlying t = some (.array 32 e)) (hi' : (P.info? e).isSome = true)
    (hx : ev l x = some (pl g 0)) (h : W P fn k ops rest ((d, .slice (some ⟨g, 0, none⟩) 32 32) :: l) w) :
    W P fn k ops (⟨some d, .slice t x none none none, ty, pos, after, none⟩ :: rest) l w := by
  obtain ⟨inf, hinfo⟩ := Option.isSome_iff_exists.1 hi'
  refine W_val rfl rfl hlt (w' := w) (fun aa ha => ?_) h
  simp [execOp, ha.eval hx, Instr.sliceAt, Instr.sureAddr, run_underlying ht, Instr.sliceBounds, sizeOf, typeInfo, hinfo, pl, Addr.add_zero']
theorem W_cpB {t e eb : TypeId} {dx sx : Operand} {g : Nat} {xs ys : List UInt8} {v : Value} (i : Nat) (hlt : Nat.blt d fn.ntmps = true) (ht : P.underlying t = some (.slice e)) (hs : (P.info? e).map (·.size) = some 1)
    (hd : ev l dx = some (.slice (some ⟨g, 0, none⟩) 32 32)) (hx : ev l sx = some v) (hS : St X w0 F0 F L w) (hi : L[i]? = some (.box g eb (idCells xs))) (hlen : xs.length = 32) (hv : Src tB F w v ys)
    (h : ∀ w', St X w0 F0 F (L.set i (.box g eb (idCells (cpy xs ys)))) w' → W P fn k ops rest ((d, .int .i64 ((min ys.length 32 : Nat) : Int)) :: l) w') :
    W P fn k ops (⟨some d, .call { callee := .builtin .copy, args := #[dx, sx], argTypes := #[t, t] }, ty, pos, after, none⟩ :: rest) l w := by
  have hb : w.heap[g]? = some (.cells (idCells xs).toArray eb (0, 0)) := hS.ok hi
  obtain ⟨ao, c, rfl, h1, h2, h3⟩ := hv.cell
  have hcl : (cpy xs ys).length = 32 := cpy_len hlen
  cases ao with
  | none =>
    have hc0 : c = 0 := h1 rfl
    have hy : ys = [] := List.eq_nil_of_length_eq_zero (by omega)
    subst hy; subst hc0
    have he : cpy xs [] = xs := by simp [cpy]
    have hr := run_copy_nil (P := P) w t t ty e ⟨g, 0, none⟩ 32 32 ht (by rw [hs]; rfl)
    refine W_val rfl rfl hlt (w' := w) (v := goInt 0) (fun a ha => by simp [execOp, resolve, invoke, builtin, ha.eval hd, ha.eval hx, hr]) (h w ?_)
    rw [he]
    have := hS.putL (.box g eb (idCells xs)) hi (GbL.refl w _) hb fun g' hg' => .inl hg'
    exact this
  | some ad =>
    have hcs : ((ys.take 32).map cB).length = Nat.min ys.length 32 := by simp [Nat.min_comm]
    have hr := run_copy_row (P := P) w t t ty e g 0 32 32 ad ys.length c (idCells xs).toArray eb ((ys.take 32).map cB) ht hs hb hcs (fun j u hj => by
      simp only [List.getElem?_map, Option.map_eq_some_iff] at hj
      obtain ⟨b, hb', rfl⟩ := hj
      have hj32 : j < 32 := by have := (List.getElem?_eq_some_iff.1 hb').1; simp at this; omega
      rw [List.getElem?_take_of_lt hj32] at hb'
      rw [cell_hc]; exact h3 ad rfl j b hb') (by simp [idCells_len]; omega) (fun u hu => by simp only [List.mem_map] at hu; obtain ⟨b, _, rfl⟩ := hu; rfl)
    have hnew : ((idCells xs).toArray.toList.take 0 ++ (ys.take 32).map cB ++ (idCells xs).toArray.toList.drop (0 + ((ys.take 32).map cB).length)) = idCells (cpy xs ys) := by
      rw [idCells_map hlen, idCells_map hcl]
      simp only [cpy, hlen, List.take_zero, List.nil_append, List.map_append, List.map_drop, Nat.zero_add, hcs]
      congr 1
      rcases Nat.le_total ys.length 32 with hle | hle
      · rw [show Nat.min ys.length 32 = ys.length from Nat.min_eq_left hle]
      · rw [show Nat.min ys.length 32 = 32 from Nat.min_eq_right hle, List.drop_eq_nil_of_le (by simp [hlen]), List.drop_eq_nil_of_le (by simp [hlen]; omega)]
    rw [hnew] at hr
    refine W_val rfl rfl hlt (v := goInt ((ys.take 32).map cB).length) (w' := w.setRow g (idCells (cpy xs ys)).toArray) (fun a ha => by simp [execOp, resolve, invoke, builtin, ha.eval hd, ha.eval hx, hr]) ?_
    rw [show goInt (((ys.take 32).map cB).length : Int) = .int .i64 ((min ys.length 32 : Nat) : Int) from by rw [hcs]; rfl]
    refine h _ (hS.putL _ hi ?_ (setRow_heap w g _ _ eb _ hb) fun g' hg' => .inl hg')
    refine ⟨rfl, rfl, rfl, by simp [World.setRow], fun k' _ hk => ?_, Nat.le_refl _⟩
    simp only [World.setRow, Array.getElem?_modify]
    rw [if_neg]; rintro rfl; exact hk (by simp [Ob.blks])
end
end Go.Wk
