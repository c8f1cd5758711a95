/- Maps keyed by arrays of 32 bytes. -/
import Derived.Test.YtoanecpanckkeaaCmp
import Derived.Test.YtoanecpanckkeaaMap
namespace Go.Wk
open Go.RowKit
set_option linter.unusedVariables false

theorem idCells_inj {a b : List UInt8} (ha : a.length = 32) (hb : b.length = 32) (h : idCells a = idCells b) : a = b := by
  rw [idCells_map ha, idCells_map hb] at h
  apply List.ext_getElem (by omega)
  intro i h1 h2
  have := congrArg (·[i]?) h
  simp [h1, h2, cB] at this
  exact UInt8.toNat.inj (by omega)
def ktId {P : Program} {k e : TypeId} (hk : P.underlying k = some (.array 32 e)) (he : P.underlying e = some (.int .u8)) (hs : P.cellsOf e = 1) (hse : (P.info? e).isSome = true) : Kt P k (List UInt8) where
  enc a := .agg (idCells a).toArray
  ok a := a.length = 32
  inj := fun ha hb h => by
    injection h with h
    exact idCells_inj ha hb (by simpa using h)
  check := fun w em a ha => by
    obtain ⟨inf, hi⟩ := Option.isSome_iff_exists.1 hse
    have hagg : (isAgg e).run P w = .ok false w := by simp [isAgg, run_underlying he]
    rw [show (10000 : Nat) = 9999 + 1 from rfl, Instr.checkKey]
    simp only [Sem.run_bind, run_underlying hk, Result.andThen_ok]
    simp only [Std.Legacy.Range.forIn_eq_forIn_range', Std.Legacy.Range.size, Nat.sub_zero, Nat.add_one_sub_one, Nat.div_one]
    have each : ∀ j ∈ List.range' 0 32, ∃ v, (part e (idCells a).toArray (j * P.cellsOf e)).run P w = .ok (.int .u8 v) w := fun j hj => by
      have hj' : j < 32 := by simp at hj; omega
      refine ⟨((a.getD j 0).toNat : Int), ?_⟩
      rw [hs, idCells_map ha]
      simp [part, hagg, cB, show j < a.length by omega]
    generalize List.range' 0 32 = is at each
    induction is with
    | nil => simp
    | cons j is ih =>
      obtain ⟨v, p1⟩ := each j (by simp)
      have p2 : (Instr.checkKey em 9999 e (.int .u8 v)).run P w = .ok () w := by
        rw [show (9999 : Nat) = 9998 + 1 from rfl, Instr.checkKey]; simp [run_underlying he]
      simp only [List.forIn_cons, Sem.run_bind, run_sizeOf w hi, Result.andThen_ok, p1, p2, Sem.run_pure]
      exact ih (fun y hy => each y (by simp [hy]))
  find := fun w a ha es hes => by
    have eq : ∀ b : List UInt8, b.length = 32 → (Op.equal k (.agg (idCells a).toArray) (.agg (idCells b).toArray)).run P w = .ok (decide (a = b)) w := fun b hb => by
      rw [idCells_map ha, idCells_map hb]; exact run_eql_u8s hk he hs hse a b ha hb
    have key : ∀ (es : List MapEntry) (n : Nat), (∀ e ∈ es, ∃ b : List UInt8, b.length = 32 ∧ e.key = .agg (idCells b).toArray) →
        ((Instr.findAsking k (.agg (idCells a).toArray) es n).run P w = .ok none w ∧ ∀ e ∈ es, e.key ≠ .agg (idCells a).toArray) ∨ ∃ j e, (Instr.findAsking k (.agg (idCells a).toArray) es n).run P w = .ok (some (n + j, e.val)) w ∧ es[j]? = some e ∧ e.key = .agg (idCells a).toArray := by
      intro es
      induction es with
      | nil => intro n _; exact .inl ⟨by simp [Instr.findAsking], fun e he => by simp at he⟩
      | cons e es ih =>
        intro n hes
        obtain ⟨b, hbl, hb⟩ := hes e (by simp)
        by_cases hab : a = b
        · subst hab
          exact .inr ⟨0, e, by simp [Instr.findAsking, hb, eq a ha], rfl, hb⟩
        · have hrun : (Instr.findAsking k (.agg (idCells a).toArray) (e :: es) n).run P w = (Instr.findAsking k (.agg (idCells a).toArray) es (n + 1)).run P w := by
            simp [Instr.findAsking, hb, eq b hbl, hab]
          rw [hrun]
          rcases ih (n + 1) fun e' he' => hes e' (by simp [he']) with ⟨i1, i2⟩ | ⟨j, e', i1, i2, i3⟩
          · refine .inl ⟨i1, fun e' he' => ?_⟩
            rcases List.mem_cons.1 he' with rfl | he'
            · rw [hb]; intro h; injection h with h
              exact hab (idCells_inj hbl ha (by simpa using h)).symm
            · exact i2 e' he'
          · exact .inr ⟨j + 1, e', by rw [i1]; congr 3; omega, by simpa using i2, i3⟩
    have hfn : (Instr.findKey k (.agg (idCells a).toArray) es).run P w = (Instr.findAsking k (.agg (idCells a).toArray) es 0).run P w := by
      cases es with
      | nil => simp [Instr.findKey, run_underlying hk, Instr.findNow, Instr.findAsking]
      | cons e es => simp [Instr.findKey, run_underlying hk, Instr.findNow, Instr.sameNow]
    rw [hfn]
    rcases key es 0 hes with h | ⟨j, e, h1, h2, h3⟩
    · exact .inl h
    · exact .inr ⟨j, e, by rw [h1, Nat.zero_add], h2, h3⟩
  stays := fun w a ha => by
    have h : Instr.sameBits 10000 (.agg (idCells a).toArray) (.agg (idCells a).toArray) = true := by
      rw [show (10000 : Nat) = 9999 + 1 from rfl]
      simp only [Instr.sameBits, beq_self_eq_true, Bool.true_and, List.all_eq_true]
      intro p hp
      obtain ⟨i, hi, rfl⟩ := List.getElem_of_mem hp
      simp [idCells, Instr.sameBits]
    simp [Instr.keyThatStays, h]
end Go.Wk
