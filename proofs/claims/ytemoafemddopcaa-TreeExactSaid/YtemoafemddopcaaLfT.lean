import Derived.Test.YtemoafemddopcaaBc
namespace Go.Wk.Lf
open Go.V
set_option linter.unusedVariables false
set_option linter.unusedSimpArgs false

structure File where
  path : List UInt8
  data : List UInt8
  deriving DecidableEq, Inhabited
def File.cells (x : File) (u0 : Val) : List Val := [.s x.path, u0]
def File.t : Tr File where
  size := 2
  rel F cs x := ∃ u0, cs = File.cells x u0 ∧ SlF tB F u0 (x.data)
  pos := by decide
  len := by rintro F cs x ⟨u0, rfl, h0⟩; simp [File.cells]
  one := by rintro F cs x ⟨u0, rfl, h0⟩; simp only [File.cells, List.all_cons, List.all_nil, List.all_append, h0.one]; rfl
  mono := by rintro F G cs x l ⟨u0, rfl, h0⟩; exact ⟨u0, rfl, h0.mono l⟩

end Go.Wk.Lf
