import Derived.Test.YtoanecpanckkeaaPure
import Derived.Test.YtoanecpanckkeaaMap
import Derived.Test.YtoanecpanckkeaaAnys
namespace Go.Wk.Lf
open Go.RowKit
set_option linter.unusedVariables false
set_option linter.unusedSimpArgs false

structure File where
  path : List UInt8
  data : List UInt8
  deriving DecidableEq, Inhabited
def File.cells (x : File) (u0 : Value) : List Value := [strV x.path, u0]
def File.t : Tr File where
  size := 2
  rel F cs x := ∃ u0, cs = File.cells x u0 ∧ SlF tB F u0 (x.data)
  pos := by decide
  len := by rintro F cs x ⟨u0, rfl, h0⟩; simp [File.cells]
  one := by
    rintro F cs x ⟨u0, rfl, h0⟩ u hu
    simp only [File.cells, List.mem_cons, List.not_mem_nil, or_false] at hu
    rcases hu with rfl | rfl
    · rfl
    · exact h0.ln.one
  mono := by rintro F G cs x l ⟨u0, rfl, h0⟩; exact ⟨u0, rfl, h0.mono l⟩

end Go.Wk.Lf
