import Derived.Test.YtoanecpanckkeaaOpen
import Derived.Test.YtoanecpanckkeaaLfT
import Derived.Test.YtoanecpanckkeaaProg
import Derived.KernelRfl
namespace Go.Wk.Lf
open Go.RowKit Go.Deep
set_option linter.unusedVariables false

def Part.ok (x : Part) : Prop := (fun s : List UInt8 => s.length ≤ maxLen) x.path ∧ okI x.size ∧ (okL (fun x : List UInt8 => x.length = 32)) x.ids
theorem opn_Part {H : Type} {enc : TypeId × Value → H} {w : World} : Opn enc Go.Proofs.Try.prog w 51 Part.t Part.ok := by
  intro fuel cs x h
  have hu : Go.Proofs.Try.prog.underlying 51 = some (.struct (Go.Proofs.Try.prog.fieldsOf 51)) := by kernel_rfl
  obtain ⟨xs, n, _, rfl, hl, hlen, hf⟩ := DataW.trod_struct hu h
  have hz : Go.Proofs.Try.prog.cellsOf 51 = 3 := by kernel_rfl
  rw [hz] at hl
  have hn : (Go.Proofs.Try.prog.fieldsOf 51).size = 3 := by kernel_rfl
  rw [hn] at hlen
  have e0 : ∃ fd, (Go.Proofs.Try.prog.fieldsOf 51)[0]? = some fd ∧ fd.type = 9 ∧ fd.offset = 0 := ⟨(Go.Proofs.Try.prog.fieldsOf 51)[0]!, by kernel_rfl, by kernel_rfl, by kernel_rfl⟩
  obtain ⟨fd0, ea0, eb0, ec0⟩ := e0
  have g0 := hf 0 fd0 ea0
  rw [eb0, ec0, show Go.Proofs.Try.prog.cellsOf 9 = 1 from by kernel_rfl, List.getElem?_eq_getElem (show 0 < xs.length by omega)] at g0
  obtain ⟨a0, r0, k0⟩ := (opn_str Go.Proofs.Try.underlying9) _ _ _ g0
  have e1 : ∃ fd, (Go.Proofs.Try.prog.fieldsOf 51)[1]? = some fd ∧ fd.type = 3 ∧ fd.offset = 1 := ⟨(Go.Proofs.Try.prog.fieldsOf 51)[1]!, by kernel_rfl, by kernel_rfl, by kernel_rfl⟩
  obtain ⟨fd1, ea1, eb1, ec1⟩ := e1
  have g1 := hf 1 fd1 ea1
  rw [eb1, ec1, show Go.Proofs.Try.prog.cellsOf 3 = 1 from by kernel_rfl, List.getElem?_eq_getElem (show 1 < xs.length by omega)] at g1
  obtain ⟨a1, r1, k1⟩ := (opn_int Go.Proofs.Try.underlying3) _ _ _ g1
  have e2 : ∃ fd, (Go.Proofs.Try.prog.fieldsOf 51)[2]? = some fd ∧ fd.type = 49 ∧ fd.offset = 2 := ⟨(Go.Proofs.Try.prog.fieldsOf 51)[2]!, by kernel_rfl, by kernel_rfl, by kernel_rfl⟩
  obtain ⟨fd2, ea2, eb2, ec2⟩ := e2
  have g2 := hf 2 fd2 ea2
  rw [eb2, ec2, show Go.Proofs.Try.prog.cellsOf 49 = 1 from by kernel_rfl, List.getElem?_eq_getElem (show 2 < xs.length by omega)] at g2
  obtain ⟨a2, r2, k2⟩ := (opn_slice Go.Proofs.Try.underlying49 (by kernel_rfl) (opn_id Go.Proofs.Try.underlying57 Go.Proofs.Try.underlying5 (by kernel_rfl) (by kernel_rfl))) _ _ _ g2
  have hcs : cs = (cs.drop 0).take 1 ++ (cs.drop 1).take 1 ++ (cs.drop 2).take 1 := by
    have h0 : cs = cs.drop 0 := (List.drop_zero).symm
    have j0 : cs.drop 0 = (cs.drop 0).take 1 ++ cs.drop 1 := take_join
    have j1 : cs.drop 1 = (cs.drop 1).take 1 ++ cs.drop 2 := take_join
    have j2 : cs.drop 2 = (cs.drop 2).take 1 ++ cs.drop 3 := take_join
    have jn : cs.drop 3 = [] := List.drop_eq_nil_of_le (by omega)
    conv => lhs; rw [h0, j0, j1, j2, jn]
    simp only [List.append_nil, List.append_assoc]
  have q0 := r0
  have q1 := r1
  obtain ⟨u2, q2, s2⟩ := r2
  rw [show _ = _ from q0, show _ = _ from q1, show _ = _ from q2] at hcs
  exact ⟨Part.mk a0 a1 a2, ⟨u2, (by show cs = Part.cells (Part.mk a0 a1 a2) u2; rw [hcs]; simp [Part.cells]), s2⟩, ⟨k0, k1, k2⟩⟩

def Manifest.ok (x : Manifest) : Prop := (fun s : List UInt8 => s.length ≤ maxLen) x.name ∧ (okL Part.ok) x.parts
theorem opn_Manifest {H : Type} {enc : TypeId × Value → H} {w : World} : Opn enc Go.Proofs.Try.prog w 45 Manifest.t Manifest.ok := by
  intro fuel cs x h
  have hu : Go.Proofs.Try.prog.underlying 45 = some (.struct (Go.Proofs.Try.prog.fieldsOf 45)) := by kernel_rfl
  obtain ⟨xs, n, _, rfl, hl, hlen, hf⟩ := DataW.trod_struct hu h
  have hz : Go.Proofs.Try.prog.cellsOf 45 = 2 := by kernel_rfl
  rw [hz] at hl
  have hn : (Go.Proofs.Try.prog.fieldsOf 45).size = 2 := by kernel_rfl
  rw [hn] at hlen
  have e0 : ∃ fd, (Go.Proofs.Try.prog.fieldsOf 45)[0]? = some fd ∧ fd.type = 9 ∧ fd.offset = 0 := ⟨(Go.Proofs.Try.prog.fieldsOf 45)[0]!, by kernel_rfl, by kernel_rfl, by kernel_rfl⟩
  obtain ⟨fd0, ea0, eb0, ec0⟩ := e0
  have g0 := hf 0 fd0 ea0
  rw [eb0, ec0, show Go.Proofs.Try.prog.cellsOf 9 = 1 from by kernel_rfl, List.getElem?_eq_getElem (show 0 < xs.length by omega)] at g0
  obtain ⟨a0, r0, k0⟩ := (opn_str Go.Proofs.Try.underlying9) _ _ _ g0
  have e1 : ∃ fd, (Go.Proofs.Try.prog.fieldsOf 45)[1]? = some fd ∧ fd.type = 43 ∧ fd.offset = 1 := ⟨(Go.Proofs.Try.prog.fieldsOf 45)[1]!, by kernel_rfl, by kernel_rfl, by kernel_rfl⟩
  obtain ⟨fd1, ea1, eb1, ec1⟩ := e1
  have g1 := hf 1 fd1 ea1
  rw [eb1, ec1, show Go.Proofs.Try.prog.cellsOf 43 = 1 from by kernel_rfl, List.getElem?_eq_getElem (show 1 < xs.length by omega)] at g1
  obtain ⟨a1, r1, k1⟩ := (opn_slice Go.Proofs.Try.underlying43 (by kernel_rfl) opn_Part) _ _ _ g1
  have hcs : cs = (cs.drop 0).take 1 ++ (cs.drop 1).take 1 := by
    have h0 : cs = cs.drop 0 := (List.drop_zero).symm
    have j0 : cs.drop 0 = (cs.drop 0).take 1 ++ cs.drop 1 := take_join
    have j1 : cs.drop 1 = (cs.drop 1).take 1 ++ cs.drop 2 := take_join
    have jn : cs.drop 2 = [] := List.drop_eq_nil_of_le (by omega)
    conv => lhs; rw [h0, j0, j1, jn]
    simp only [List.append_nil]
  have q0 := r0
  obtain ⟨u1, q1, s1⟩ := r1
  rw [show _ = _ from q0, show _ = _ from q1] at hcs
  exact ⟨Manifest.mk a0 a1, ⟨u1, (by show cs = Manifest.cells (Manifest.mk a0 a1) u1; rw [hcs]; simp [Manifest.cells]), s1⟩, ⟨k0, k1⟩⟩

def File.ok (x : File) : Prop := (fun s : List UInt8 => s.length ≤ maxLen) x.path ∧ (okL okT) x.data
theorem opn_File {H : Type} {enc : TypeId × Value → H} {w : World} : Opn enc Go.Proofs.Try.prog w 34 File.t File.ok := by
  intro fuel cs x h
  have hu : Go.Proofs.Try.prog.underlying 34 = some (.struct (Go.Proofs.Try.prog.fieldsOf 34)) := by kernel_rfl
  obtain ⟨xs, n, _, rfl, hl, hlen, hf⟩ := DataW.trod_struct hu h
  have hz : Go.Proofs.Try.prog.cellsOf 34 = 2 := by kernel_rfl
  rw [hz] at hl
  have hn : (Go.Proofs.Try.prog.fieldsOf 34).size = 2 := by kernel_rfl
  rw [hn] at hlen
  have e0 : ∃ fd, (Go.Proofs.Try.prog.fieldsOf 34)[0]? = some fd ∧ fd.type = 9 ∧ fd.offset = 0 := ⟨(Go.Proofs.Try.prog.fieldsOf 34)[0]!, by kernel_rfl, by kernel_rfl, by kernel_rfl⟩
  obtain ⟨fd0, ea0, eb0, ec0⟩ := e0
  have g0 := hf 0 fd0 ea0
  rw [eb0, ec0, show Go.Proofs.Try.prog.cellsOf 9 = 1 from by kernel_rfl, List.getElem?_eq_getElem (show 0 < xs.length by omega)] at g0
  obtain ⟨a0, r0, k0⟩ := (opn_str Go.Proofs.Try.underlying9) _ _ _ g0
  have e1 : ∃ fd, (Go.Proofs.Try.prog.fieldsOf 34)[1]? = some fd ∧ fd.type = 25 ∧ fd.offset = 1 := ⟨(Go.Proofs.Try.prog.fieldsOf 34)[1]!, by kernel_rfl, by kernel_rfl, by kernel_rfl⟩
  obtain ⟨fd1, ea1, eb1, ec1⟩ := e1
  have g1 := hf 1 fd1 ea1
  rw [eb1, ec1, show Go.Proofs.Try.prog.cellsOf 25 = 1 from by kernel_rfl, List.getElem?_eq_getElem (show 1 < xs.length by omega)] at g1
  obtain ⟨a1, r1, k1⟩ := (opn_slice Go.Proofs.Try.underlying25 (by kernel_rfl) (opn_u8 Go.Proofs.Try.underlying5)) _ _ _ g1
  have hcs : cs = (cs.drop 0).take 1 ++ (cs.drop 1).take 1 := by
    have h0 : cs = cs.drop 0 := (List.drop_zero).symm
    have j0 : cs.drop 0 = (cs.drop 0).take 1 ++ cs.drop 1 := take_join
    have j1 : cs.drop 1 = (cs.drop 1).take 1 ++ cs.drop 2 := take_join
    have jn : cs.drop 2 = [] := List.drop_eq_nil_of_le (by omega)
    conv => lhs; rw [h0, j0, j1, jn]
    simp only [List.append_nil]
  have q0 := r0
  obtain ⟨u1, q1, s1⟩ := r1
  rw [show _ = _ from q0, show _ = _ from q1] at hcs
  exact ⟨File.mk a0 a1, ⟨u1, (by show cs = File.cells (File.mk a0 a1) u1; rw [hcs]; simp [File.cells]), s1⟩, ⟨k0, k1⟩⟩

end Go.Wk.Lf
