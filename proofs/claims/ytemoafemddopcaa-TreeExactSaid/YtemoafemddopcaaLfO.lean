import Derived.Test.YtemoafemddopcaaLfT
import Derived.Test.YtemoafemddopcaaTy
namespace Go.Wk.Lf
open Go.V Go.Proofs
set_option linter.unusedVariables false
set_option linter.unusedSimpArgs false

end Go.Wk.Lf
namespace Go.Wk.Lf
open Go.V Go.RowKit Go.ChangeShapes Go.WideShapes Go.Deep
theorem take_join {α : Type} {l : List α} {a b : Nat} : l.drop a = (l.drop a).take b ++ l.drop (a + b) := by rw [← List.drop_drop, List.take_append_drop]
def File.ok (x : File) : Prop := (fun s : List UInt8 => s.length ≤ maxLen) x.path ∧ (okS okT) x.data
theorem opn_File {H : Type} {enc : TypeId × Value → H} {w : World} : Opn enc Go.Proofs.Try.prog w 30 File.t File.ok := by
  intro fuel cs x h ρ hp r hb
  have hu : Go.Proofs.Try.prog.underlying 30 = some (.struct (Go.Proofs.Try.prog.fieldsOf 30)) := by kernel_rfl
  obtain ⟨xs, n, _, rfl, hl, hlen, hf⟩ := DataW.trod_struct hu h
  have hz : Go.Proofs.Try.prog.cellsOf 30 = 2 := by kernel_rfl
  rw [hz] at hl
  have hn : (Go.Proofs.Try.prog.fieldsOf 30).size = 2 := by kernel_rfl
  rw [hn] at hlen
  have e0 : ∃ fd, (Go.Proofs.Try.prog.fieldsOf 30)[0]? = some fd ∧ fd.type = 9 ∧ fd.offset = 0 := ⟨(Go.Proofs.Try.prog.fieldsOf 30)[0]!, by kernel_rfl, by kernel_rfl, by kernel_rfl⟩
  obtain ⟨fd0, ea0, eb0, ec0⟩ := e0
  have g0 := hf 0 fd0 ea0
  rw [eb0, ec0, show Go.Proofs.Try.prog.cellsOf 9 = 1 from by kernel_rfl, List.getElem?_eq_getElem (show 0 < xs.length by omega)] at g0
  obtain ⟨ρ0, h0, vs0, a0, r0, b0, l0, f0, v0, t0, k0⟩ := (opn_str Go.Proofs.Try.underlying9) _ _ _ g0 _ _ r hb
  have e1 : ∃ fd, (Go.Proofs.Try.prog.fieldsOf 30)[1]? = some fd ∧ fd.type = 28 ∧ fd.offset = 1 := ⟨(Go.Proofs.Try.prog.fieldsOf 30)[1]!, by kernel_rfl, by kernel_rfl, by kernel_rfl⟩
  obtain ⟨fd1, ea1, eb1, ec1⟩ := e1
  have g1 := hf 1 fd1 ea1
  rw [eb1, ec1, show Go.Proofs.Try.prog.cellsOf 28 = 1 from by kernel_rfl, List.getElem?_eq_getElem (show 1 < xs.length by omega)] at g1
  obtain ⟨ρ1, h1, vs1, a1, r1, b1, l1, f1, v1, t1, k1⟩ := (opn_slice Go.Proofs.Try.underlying28 (by kernel_rfl) (opn_u8 Go.Proofs.Try.underlying5)) _ _ _ g1 _ _ r0 b0
  have hcs : cs = (cs.drop 0).take 1 ++ (cs.drop 1).take 1 := by
    have h0 : cs = cs.drop 0 := (List.drop_zero).symm
    have j0 : cs.drop 0 = (cs.drop 0).take 1 ++ cs.drop 1 := take_join
    have j1 : cs.drop 1 = (cs.drop 1).take 1 ++ cs.drop 2 := take_join
    have jn : cs.drop 2 = [] := List.drop_eq_nil_of_le (by omega)
    conv => lhs; rw [h0, j0, j1, jn]
    simp only [List.append_nil]
  have q0 : vs0 = _ := (tS.mono f1 t0)
  subst q0
  obtain ⟨u1, q1, s1⟩ := t1
  subst q1
  rw [hcs]
  exact ⟨_, h1, _, File.mk a0 a1, r1, b1, (l0.trans l1), (f0.trans f1), ((v0.mono l1).append v1), ⟨u1, rfl, s1⟩, ⟨k0, k1⟩⟩

end Go.Wk.Lf
