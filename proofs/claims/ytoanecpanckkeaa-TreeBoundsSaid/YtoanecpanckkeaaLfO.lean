import Derived.Test.YtoanecpanckkeaaOpen
import Derived.Test.YtoanecpanckkeaaLfT
import Derived.Test.YtoanecpanckkeaaProg
import Derived.KernelRfl
namespace Go.Wk.Lf
open Go.RowKit Go.Deep
set_option linter.unusedVariables false

def File.ok (x : File) : Prop := (fun s : List UInt8 => s.length ≤ maxLen) x.path ∧ (okL okT) x.data
theorem opn_File {H : Type} {enc : TypeId × Value → H} {w : World} : Opn enc Go.Proofs.Try.prog w 34 File.t File.ok := by
  intro fuel cs x h
  have hu : Go.Proofs.Try.prog.underlying 34 = some (.struct (Go.Proofs.Try.prog.fieldsOf 34)) := by kernel_rfl
  obtain ⟨xs, n, _, rfl, hl, hlen, hf⟩ := DataW.trod_struct hu h
  have hz : Go.Proofs.Try.prog.cellsOf 34 = 2 := by kernel_rfl
  rw [hz] at hl
  have hn : (Go.Proofs.Try.prog.fieldsOf 34).size = 2 := by kernel_rfl
  rw [hn] at hlen
  have e0 : ∃ fd, (Go.Proofs.Try.prog.fieldsOf 34)[0]? = some fd ∧ fd.type = 9 ∧ fd.offset = 0 := ⟨(Go.Proofs.Try.prog.fieldsOf 34)[0]!, by kernel_rfl, by kernel_rfl, by kernel_rfl⟩
  obtain ⟨fd0, ea0, eb0, ec0⟩ := e0
  have g0 := hf 0 fd0 ea0
  rw [eb0, ec0, show Go.Proofs.Try.prog.cellsOf 9 = 1 from by kernel_rfl, List.getElem?_eq_getElem (show 0 < xs.length by omega)] at g0
  obtain ⟨a0, r0, k0⟩ := (opn_str Go.Proofs.Try.underlying9) _ _ _ g0
  have e1 : ∃ fd, (Go.Proofs.Try.prog.fieldsOf 34)[1]? = some fd ∧ fd.type = 25 ∧ fd.offset = 1 := ⟨(Go.Proofs.Try.prog.fieldsOf 34)[1]!, by kernel_rfl, by kernel_rfl, by kernel_rfl⟩
  obtain ⟨fd1, ea1, eb1, ec1⟩ := e1
  have g1 := hf 1 fd1 ea1
  rw [eb1, ec1, show Go.Proofs.Try.prog.cellsOf 25 = 1 from by kernel_rfl, List.getElem?_eq_getElem (show 1 < xs.length by omega)] at g1
  obtain ⟨a1, r1, k1⟩ := (opn_slice Go.Proofs.Try.underlying25 (by kernel_rfl) (opn_u8 Go.Proofs.Try.underlying5)) _ _ _ g1
  have hcs : cs = (cs.drop 0).take 1 ++ (cs.drop 1).take 1 := by
    have h0 : cs = cs.drop 0 := (List.drop_zero).symm
    have j0 : cs.drop 0 = (cs.drop 0).take 1 ++ cs.drop 1 := take_join
    have j1 : cs.drop 1 = (cs.drop 1).take 1 ++ cs.drop 2 := take_join
    have jn : cs.drop 2 = [] := List.drop_eq_nil_of_le (by omega)
    conv => lhs; rw [h0, j0, j1, jn]
    simp only [List.append_nil]
  have q0 := r0
  obtain ⟨u1, q1, s1⟩ := r1
  rw [show _ = _ from q0, show _ = _ from q1] at hcs
  exact ⟨File.mk a0 a1, ⟨u1, (by show cs = File.cells (File.mk a0 a1) u1; rw [hcs]; simp [File.cells]), s1⟩, ⟨k0, k1⟩⟩

end Go.Wk.Lf
