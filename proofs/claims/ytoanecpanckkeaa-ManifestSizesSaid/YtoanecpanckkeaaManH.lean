/- Heavy, plainly. -/
import Derived.Test.YtoanecpanckkeaaManB
import Derived.Test.YtoanecpanckkeaaLfO
import Derived.Test.YtoanecpanckkeaaLfM6
namespace Go.Wk.Lf
open Go.Shelf Go.Sort Go.Proofs
set_option linter.unusedVariables false
set_option linter.unusedSimpArgs false

def heavyP (p : Part) : Bool := decide (100 < p.path.length) || decide (40 < p.ids.length)
def heavyM (m : Manifest) : Bool := (decide (100 < m.name.length) || decide (10 < m.parts.length)) || m.parts.any heavyP
theorem heavy17_eq (m : Manifest) : cellarerlaw17_Heavy m = some (heavyM m) := by
  unfold cellarerlaw17_Heavy heavyM
  by_cases h1 : 100 < m.name.length ∨ 10 < m.parts.length
  · rw [if_pos (by simp only [Bool.or_eq_true, decide_eq_true_eq]; omega)]
    have : (decide (100 < m.name.length) || decide (10 < m.parts.length)) = true := by simp only [Bool.or_eq_true, decide_eq_true_eq]; omega
    rw [this]; rfl
  · rw [if_neg (by simp only [Bool.or_eq_true, decide_eq_true_eq]; omega)]
    have : (decide (100 < m.name.length) || decide (10 < m.parts.length)) = false := by simp only [Bool.or_eq_false_iff, decide_eq_false_iff_not]; omega
    rw [this, Bool.false_or]
    rw [loop_all (x0 := (0 : Int)) (fun i => (i : Int)) m.parts.length (fun i => !heavyP (m.parts.getD i default)) (some false) (some true) rfl (by omega) ?_ ?_]
    · have hiff := all_iff m.parts (fun p => !heavyP p) (fun i => !heavyP (m.parts.getD i default)) fun i hi => by simp [List.getD_eq_getElem?_getD, List.getElem?_eq_getElem hi]
      cases h : m.parts.any heavyP with
      | true =>
        rw [if_neg]
        intro h2
        have h3 := hiff.1 h2
        rw [List.any_eq_true] at h
        obtain ⟨x, hx, hh⟩ := h
        rw [List.all_eq_true] at h3
        have := h3 x hx
        rw [hh] at this; cases this
      | false =>
        rw [if_pos (hiff.2 (by
          rw [List.all_eq_true]
          rw [List.any_eq_false] at h
          intro x hx
          have := h x hx
          simpa using this))]
    · intro rec i hi
      simp only [cellarerlaw17_Heavy.l2]
      rw [if_t (lt_t hi), ix_lt hi, bd_mk, wr_succ (by omega)]
      simp only [List.getD_eq_getElem?_getD, List.getElem?_eq_getElem hi, Option.getD_some, heavyP]
      have e1 : decide (100 < (m.parts[i].path.length : Int)) = decide (100 < m.parts[i].path.length) := by rw [decide_eq_decide]; omega
      have e2 : decide (40 < (m.parts[i].ids.length : Int)) = decide (40 < m.parts[i].ids.length) := by rw [decide_eq_decide]; omega
      rw [e1]
      cases h3 : decide (100 < m.parts[i].path.length) with
      | true => rw [only_f (by simp), bd_mk]; rfl
      | false =>
        rw [only_t (by simp), bd_mk, e2]
        cases decide (40 < m.parts[i].ids.length) <;> rfl
    · intro rec
      simp only [cellarerlaw17_Heavy.l2, cellarerlaw17_Heavy.k1]
      rw [if_f (lt_f (Nat.lt_irrefl _))]
theorem ok_ids {m : Manifest} (h : Manifest.ok m) : okId m := fun p hp x hx => (h.2.2 p hp).2.2.2 x hx
end Go.Wk.Lf
