/- sha.Sum and the page's Id, in the form of lifted functions. -/
import Derived.Test.YtoanecpanckkeaaIds
import Derived.Test.YtoanecpanckkeaaShaF
namespace Go.Wk
open Go.RowKit
set_option linter.unusedVariables false
theorem slB_of {F : Frz} {w : World} {v : Value} {bs : List UInt8} (h : SlF tB F v bs) (hA : Agree F w.heap) : Sl 0 w.heap.size w.heap 1 encB v bs := by
  obtain ⟨css, hr, hs⟩ := h
  obtain ⟨_, ao, c, e1, e2, e3, e4, e5⟩ := hs.sl hA tB.pos
  refine ⟨fun _ => rfl, ao, c, by rw [← hr.1]; exact e1, by rw [← hr.1]; exact e2, e3, e4, fun ad had => ⟨fun i d j u hi hj => ?_, fun hne => (e5 ad had).2 fun h0 => hne (List.eq_nil_of_length_eq_zero (by rw [← hr.1, h0]; rfl))⟩⟩
  have hil := (List.getElem?_eq_some_iff.1 hi).1
  have hci := List.getElem?_eq_getElem (l := css) (i := i) (by rw [hr.1]; exact hil)
  have := hr.2 i _ _ hci hi
  exact (e5 ad had).1 i _ j u hci (by rw [this]; exact hj)
theorem rw_of_slf {F : Frz} {w : World} {v : Value} {bss : List (List UInt8)} (h : SlF (tSl tB) F v bss) (hA : Agree F w.heap) : ∃ us, Rw 0 w.heap.size w.heap v us bss := by
  obtain ⟨css, hr, hs⟩ := h
  have hsl := hs.sl hA (tSl tB).pos
  have hc : ∀ d : Cl (tSl tB).size, d.val = [d.val.headD undef] := fun d => by
    have := d.2
    match h : d.val, this with
    | [u], _ => rfl
  refine ⟨css.map fun d => d.val.headD undef, ?_, by simp [hr.1], fun i u b hu hb => ?_⟩
  · obtain ⟨_, ao, c, e1, e2, e3, e4, e5⟩ := hsl
    refine ⟨fun _ => rfl, ao, c, by simpa using e1, by simpa using e2, e3, e4, fun ad had => ⟨fun i d j u hi hj => ?_, fun hne => (e5 ad had).2 fun h0 => hne (by simp [h0])⟩⟩
    simp only [List.getElem?_map, Option.map_eq_some_iff] at hi
    obtain ⟨q, hq, rfl⟩ := hi
    exact (e5 ad had).1 i q j u hq (by rw [hc q]; exact hj)
  · simp only [List.getElem?_map, Option.map_eq_some_iff] at hu
    obtain ⟨q, hq, rfl⟩ := hu
    obtain ⟨v', h1, h2⟩ := hr.2 i q b hq hb
    rw [h1]; exact slB_of h2 hA
namespace Lf
open Go.Proofs
def shaSum (x : List (List UInt8)) : Option (List UInt8) := if x.length ≤ 1000000000 ∧ x.flatten.length ≤ 1000000000 then some (Sha.sha256 x.flatten) else none
def shaId (x : List UInt8) : Option (List UInt8) := if x.length ≤ 1000000000 then some (Sha.sha256 x) else none
theorem shaSum_ok {F : Frz} {w : World} {x0 : List (List UInt8)} {r : List UInt8} {v0 : Value} (hA : Agree F w.heap) (h0 : SlF (tSl tB) F v0 x0) (H : shaSum x0 = some r) : Ret Try.prog 34 #[v0] w fun v w' => ∃ (F' : Frz), v = .agg (idCells r).toArray ∧ r.length = 32 ∧ St [] w F F' [] w' := by
  unfold shaSum at H
  split at H
  · rename_i hc
    obtain rfl := Option.some.inj H
    obtain ⟨us, hR⟩ := rw_of_slf h0 hA
    refine Ret.mono (Sha.sum_ret x0 us v0 w 0 _ hR (Nat.le_refl _) hc.2 hc.1) fun v w' hq => ?_
    obtain ⟨rfl, hB⟩ := hq
    exact ⟨F, by rw [idCells_map (Sha.sha256_len _)], Sha.sha256_len _, St.from hA hB⟩
  · cases H
theorem shaId_ok {F : Frz} {w : World} {x0 : List UInt8} {r : List UInt8} {v0 : Value} (hA : Agree F w.heap) (h0 : SlF tB F v0 x0) (H : shaId x0 = some r) : Ret Try.prog 84 #[v0] w fun v w' => ∃ (F' : Frz), v = .agg (idCells r).toArray ∧ r.length = 32 ∧ St [] w F F' [] w' := by
  unfold shaId at H
  split at H
  · rename_i hc
    obtain rfl := Option.some.inj H
    refine Ret.mono (Sha.id_ret x0 v0 w 0 _ (slB_of h0 hA) (Nat.le_refl _) hc) fun v w' hq => ?_
    obtain ⟨rfl, hB⟩ := hq
    exact ⟨F, by rw [idCells_map (Sha.sha256_len _)], Sha.sha256_len _, St.from hA hB⟩
  · cases H
end Lf
end Go.Wk
