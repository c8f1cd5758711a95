import Derived.Test.YtahfmkjafddjhaaOpen
import Derived.Test.YtahfmkjafddjhaaLfT
import Derived.Test.YtahfmkjafddjhaaProg
import Derived.KernelRfl
namespace Go.Wk.Lf
open Go.RowKit Go.Deep
set_option linter.unusedVariables false

def Loc.ok (x : Loc) : Prop := okI x.vol ∧ okI x.file ∧ okI x.off ∧ okI x.len
theorem opn_Loc {H : Type} {enc : TypeId × Value → H} {w : World} : Opn enc Go.Proofs.Try.prog w 37 Loc.t Loc.ok := by
  intro fuel cs x h
  have hu : Go.Proofs.Try.prog.underlying 37 = some (.struct (Go.Proofs.Try.prog.fieldsOf 37)) := by kernel_rfl
  obtain ⟨xs, n, _, rfl, hl, hlen, hf⟩ := DataW.trod_struct hu h
  have hz : Go.Proofs.Try.prog.cellsOf 37 = 4 := by kernel_rfl
  rw [hz] at hl
  have hn : (Go.Proofs.Try.prog.fieldsOf 37).size = 4 := by kernel_rfl
  rw [hn] at hlen
  have e0 : ∃ fd, (Go.Proofs.Try.prog.fieldsOf 37)[0]? = some fd ∧ fd.type = 3 ∧ fd.offset = 0 := ⟨(Go.Proofs.Try.prog.fieldsOf 37)[0]!, by kernel_rfl, by kernel_rfl, by kernel_rfl⟩
  obtain ⟨fd0, ea0, eb0, ec0⟩ := e0
  have g0 := hf 0 fd0 ea0
  rw [eb0, ec0, show Go.Proofs.Try.prog.cellsOf 3 = 1 from by kernel_rfl, List.getElem?_eq_getElem (show 0 < xs.length by omega)] at g0
  obtain ⟨a0, r0, k0⟩ := (opn_int Go.Proofs.Try.underlying3) _ _ _ g0
  have e1 : ∃ fd, (Go.Proofs.Try.prog.fieldsOf 37)[1]? = some fd ∧ fd.type = 3 ∧ fd.offset = 1 := ⟨(Go.Proofs.Try.prog.fieldsOf 37)[1]!, by kernel_rfl, by kernel_rfl, by kernel_rfl⟩
  obtain ⟨fd1, ea1, eb1, ec1⟩ := e1
  have g1 := hf 1 fd1 ea1
  rw [eb1, ec1, show Go.Proofs.Try.prog.cellsOf 3 = 1 from by kernel_rfl, List.getElem?_eq_getElem (show 1 < xs.length by omega)] at g1
  obtain ⟨a1, r1, k1⟩ := (opn_int Go.Proofs.Try.underlying3) _ _ _ g1
  have e2 : ∃ fd, (Go.Proofs.Try.prog.fieldsOf 37)[2]? = some fd ∧ fd.type = 3 ∧ fd.offset = 2 := ⟨(Go.Proofs.Try.prog.fieldsOf 37)[2]!, by kernel_rfl, by kernel_rfl, by kernel_rfl⟩
  obtain ⟨fd2, ea2, eb2, ec2⟩ := e2
  have g2 := hf 2 fd2 ea2
  rw [eb2, ec2, show Go.Proofs.Try.prog.cellsOf 3 = 1 from by kernel_rfl, List.getElem?_eq_getElem (show 2 < xs.length by omega)] at g2
  obtain ⟨a2, r2, k2⟩ := (opn_int Go.Proofs.Try.underlying3) _ _ _ g2
  have e3 : ∃ fd, (Go.Proofs.Try.prog.fieldsOf 37)[3]? = some fd ∧ fd.type = 3 ∧ fd.offset = 3 := ⟨(Go.Proofs.Try.prog.fieldsOf 37)[3]!, by kernel_rfl, by kernel_rfl, by kernel_rfl⟩
  obtain ⟨fd3, ea3, eb3, ec3⟩ := e3
  have g3 := hf 3 fd3 ea3
  rw [eb3, ec3, show Go.Proofs.Try.prog.cellsOf 3 = 1 from by kernel_rfl, List.getElem?_eq_getElem (show 3 < xs.length by omega)] at g3
  obtain ⟨a3, r3, k3⟩ := (opn_int Go.Proofs.Try.underlying3) _ _ _ g3
  have hcs : cs = (cs.drop 0).take 1 ++ (cs.drop 1).take 1 ++ (cs.drop 2).take 1 ++ (cs.drop 3).take 1 := by
    have h0 : cs = cs.drop 0 := (List.drop_zero).symm
    have j0 : cs.drop 0 = (cs.drop 0).take 1 ++ cs.drop 1 := take_join
    have j1 : cs.drop 1 = (cs.drop 1).take 1 ++ cs.drop 2 := take_join
    have j2 : cs.drop 2 = (cs.drop 2).take 1 ++ cs.drop 3 := take_join
    have j3 : cs.drop 3 = (cs.drop 3).take 1 ++ cs.drop 4 := take_join
    have jn : cs.drop 4 = [] := List.drop_eq_nil_of_le (by omega)
    conv => lhs; rw [h0, j0, j1, j2, j3, jn]
    simp only [List.append_nil, List.append_assoc]
  have q0 := r0
  have q1 := r1
  have q2 := r2
  have q3 := r3
  rw [show _ = _ from q0, show _ = _ from q1, show _ = _ from q2, show _ = _ from q3] at hcs
  exact ⟨Loc.mk a0 a1 a2 a3, (by show cs = Loc.cells (Loc.mk a0 a1 a2 a3); rw [hcs]; simp [Loc.cells]), ⟨k0, k1, k2, k3⟩⟩

def Want.ok (x : Want) : Prop := (fun x : List UInt8 => x.length = 32) x.id ∧ (okL Loc.ok) x.locs
theorem opn_Want {H : Type} {enc : TypeId × Value → H} {w : World} : Opn enc Go.Proofs.Try.prog w 52 Want.t Want.ok := by
  intro fuel cs x h
  have hu : Go.Proofs.Try.prog.underlying 52 = some (.struct (Go.Proofs.Try.prog.fieldsOf 52)) := by kernel_rfl
  obtain ⟨xs, n, _, rfl, hl, hlen, hf⟩ := DataW.trod_struct hu h
  have hz : Go.Proofs.Try.prog.cellsOf 52 = 33 := by kernel_rfl
  rw [hz] at hl
  have hn : (Go.Proofs.Try.prog.fieldsOf 52).size = 2 := by kernel_rfl
  rw [hn] at hlen
  have e0 : ∃ fd, (Go.Proofs.Try.prog.fieldsOf 52)[0]? = some fd ∧ fd.type = 50 ∧ fd.offset = 0 := ⟨(Go.Proofs.Try.prog.fieldsOf 52)[0]!, by kernel_rfl, by kernel_rfl, by kernel_rfl⟩
  obtain ⟨fd0, ea0, eb0, ec0⟩ := e0
  have g0 := hf 0 fd0 ea0
  rw [eb0, ec0, show Go.Proofs.Try.prog.cellsOf 50 = 32 from by kernel_rfl, List.getElem?_eq_getElem (show 0 < xs.length by omega)] at g0
  obtain ⟨a0, r0, k0⟩ := (opn_id Go.Proofs.Try.underlying50 Go.Proofs.Try.underlying5 (by kernel_rfl) (by kernel_rfl)) _ _ _ g0
  have e1 : ∃ fd, (Go.Proofs.Try.prog.fieldsOf 52)[1]? = some fd ∧ fd.type = 49 ∧ fd.offset = 32 := ⟨(Go.Proofs.Try.prog.fieldsOf 52)[1]!, by kernel_rfl, by kernel_rfl, by kernel_rfl⟩
  obtain ⟨fd1, ea1, eb1, ec1⟩ := e1
  have g1 := hf 1 fd1 ea1
  rw [eb1, ec1, show Go.Proofs.Try.prog.cellsOf 49 = 1 from by kernel_rfl, List.getElem?_eq_getElem (show 1 < xs.length by omega)] at g1
  obtain ⟨a1, r1, k1⟩ := (opn_slice Go.Proofs.Try.underlying49 (by kernel_rfl) opn_Loc) _ _ _ g1
  have hcs : cs = (cs.drop 0).take 32 ++ (cs.drop 32).take 1 := by
    have h0 : cs = cs.drop 0 := (List.drop_zero).symm
    have j0 : cs.drop 0 = (cs.drop 0).take 32 ++ cs.drop 32 := take_join
    have j1 : cs.drop 32 = (cs.drop 32).take 1 ++ cs.drop 33 := take_join
    have jn : cs.drop 33 = [] := List.drop_eq_nil_of_le (by omega)
    conv => lhs; rw [h0, j0, j1, jn]
    simp only [List.append_nil]
  obtain ⟨q0, l0⟩ := r0
  obtain ⟨u1, q1, s1⟩ := r1
  rw [show _ = _ from q0, show _ = _ from q1] at hcs
  exact ⟨Want.mk a0 a1, ⟨u1, (by show cs = Want.cells (Want.mk a0 a1) u1; rw [hcs]; simp [Want.cells]), l0, s1⟩, ⟨k0, k1⟩⟩

def Read.ok (x : Read) : Prop := okI x.want ∧ Loc.ok x.loc
theorem opn_Read {H : Type} {enc : TypeId × Value → H} {w : World} : Opn enc Go.Proofs.Try.prog w 39 Read.t Read.ok := by
  intro fuel cs x h
  have hu : Go.Proofs.Try.prog.underlying 39 = some (.struct (Go.Proofs.Try.prog.fieldsOf 39)) := by kernel_rfl
  obtain ⟨xs, n, _, rfl, hl, hlen, hf⟩ := DataW.trod_struct hu h
  have hz : Go.Proofs.Try.prog.cellsOf 39 = 5 := by kernel_rfl
  rw [hz] at hl
  have hn : (Go.Proofs.Try.prog.fieldsOf 39).size = 2 := by kernel_rfl
  rw [hn] at hlen
  have e0 : ∃ fd, (Go.Proofs.Try.prog.fieldsOf 39)[0]? = some fd ∧ fd.type = 3 ∧ fd.offset = 0 := ⟨(Go.Proofs.Try.prog.fieldsOf 39)[0]!, by kernel_rfl, by kernel_rfl, by kernel_rfl⟩
  obtain ⟨fd0, ea0, eb0, ec0⟩ := e0
  have g0 := hf 0 fd0 ea0
  rw [eb0, ec0, show Go.Proofs.Try.prog.cellsOf 3 = 1 from by kernel_rfl, List.getElem?_eq_getElem (show 0 < xs.length by omega)] at g0
  obtain ⟨a0, r0, k0⟩ := (opn_int Go.Proofs.Try.underlying3) _ _ _ g0
  have e1 : ∃ fd, (Go.Proofs.Try.prog.fieldsOf 39)[1]? = some fd ∧ fd.type = 37 ∧ fd.offset = 1 := ⟨(Go.Proofs.Try.prog.fieldsOf 39)[1]!, by kernel_rfl, by kernel_rfl, by kernel_rfl⟩
  obtain ⟨fd1, ea1, eb1, ec1⟩ := e1
  have g1 := hf 1 fd1 ea1
  rw [eb1, ec1, show Go.Proofs.Try.prog.cellsOf 37 = 4 from by kernel_rfl, List.getElem?_eq_getElem (show 1 < xs.length by omega)] at g1
  obtain ⟨a1, r1, k1⟩ := opn_Loc _ _ _ g1
  have hcs : cs = (cs.drop 0).take 1 ++ (cs.drop 1).take 4 := by
    have h0 : cs = cs.drop 0 := (List.drop_zero).symm
    have j0 : cs.drop 0 = (cs.drop 0).take 1 ++ cs.drop 1 := take_join
    have j1 : cs.drop 1 = (cs.drop 1).take 4 ++ cs.drop 5 := take_join
    have jn : cs.drop 5 = [] := List.drop_eq_nil_of_le (by omega)
    conv => lhs; rw [h0, j0, j1, jn]
    simp only [List.append_nil]
  have q0 := r0
  have q1 := r1
  rw [show _ = _ from q0, show _ = _ from q1] at hcs
  exact ⟨Read.mk a0 a1, (by show cs = Read.cells (Read.mk a0 a1); rw [hcs]; simp [Read.cells, Loc.cells]), ⟨k0, k1⟩⟩

end Go.Wk.Lf
