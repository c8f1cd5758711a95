import Derived.Test.YtoanecpanckkeaaPure
import Derived.Test.YtoanecpanckkeaaMap
import Derived.Test.YtoanecpanckkeaaAnys
namespace Go.Wk.Lf
open Go.RowKit
set_option linter.unusedVariables false
set_option linter.unusedSimpArgs false

structure File where
  path : List UInt8
  data : List UInt8
  deriving DecidableEq, Inhabited
def File.cells (x : File) (u0 : Value) : List Value := [strV x.path, u0]
def File.t : Tr File where
  size := 2
  rel F cs x := ∃ u0, cs = File.cells x u0 ∧ SlF tB F u0 (x.data)
  pos := by decide
  len := by rintro F cs x ⟨u0, rfl, h0⟩; simp [File.cells]
  one := by
    rintro F cs x ⟨u0, rfl, h0⟩ u hu
    simp only [File.cells, List.mem_cons, List.not_mem_nil, or_false] at hu
    rcases hu with rfl | rfl
    · rfl
    · exact h0.ln.one
  mono := by rintro F G cs x l ⟨u0, rfl, h0⟩; exact ⟨u0, rfl, h0.mono l⟩

structure Part where
  path : List UInt8
  size : Int
  ids : List (List UInt8)
  deriving DecidableEq, Inhabited
def Part.cells (x : Part) (u0 : Value) : List Value := [strV x.path, .int .i64 x.size, u0]
def Part.t : Tr Part where
  size := 3
  rel F cs x := ∃ u0, cs = Part.cells x u0 ∧ SlF tId F u0 (x.ids)
  pos := by decide
  len := by rintro F cs x ⟨u0, rfl, h0⟩; simp [Part.cells]
  one := by
    rintro F cs x ⟨u0, rfl, h0⟩ u hu
    simp only [Part.cells, List.mem_cons, List.not_mem_nil, or_false] at hu
    rcases hu with rfl | rfl | rfl
    · rfl
    · rfl
    · exact h0.ln.one
  mono := by rintro F G cs x l ⟨u0, rfl, h0⟩; exact ⟨u0, rfl, h0.mono l⟩

structure Manifest where
  name : List UInt8
  parts : List Part
  deriving DecidableEq, Inhabited
def Manifest.cells (x : Manifest) (u0 : Value) : List Value := [strV x.name, u0]
def Manifest.t : Tr Manifest where
  size := 2
  rel F cs x := ∃ u0, cs = Manifest.cells x u0 ∧ SlF Part.t F u0 (x.parts)
  pos := by decide
  len := by rintro F cs x ⟨u0, rfl, h0⟩; simp [Manifest.cells]
  one := by
    rintro F cs x ⟨u0, rfl, h0⟩ u hu
    simp only [Manifest.cells, List.mem_cons, List.not_mem_nil, or_false] at hu
    rcases hu with rfl | rfl
    · rfl
    · exact h0.ln.one
  mono := by rintro F G cs x l ⟨u0, rfl, h0⟩; exact ⟨u0, rfl, h0.mono l⟩

structure ManifestReader where
  b : List UInt8
  bad : Bool
  deriving DecidableEq, Inhabited
def ManifestReader.cells (x : ManifestReader) (u0 : Value) : List Value := [u0, .bool x.bad]
def ManifestReader.t : Tr ManifestReader where
  size := 2
  rel F cs x := ∃ u0, cs = ManifestReader.cells x u0 ∧ SlF tB F u0 (x.b)
  pos := by decide
  len := by rintro F cs x ⟨u0, rfl, h0⟩; simp [ManifestReader.cells]
  one := by
    rintro F cs x ⟨u0, rfl, h0⟩ u hu
    simp only [ManifestReader.cells, List.mem_cons, List.not_mem_nil, or_false] at hu
    rcases hu with rfl | rfl
    · exact h0.ln.one
    · rfl
  mono := by rintro F G cs x l ⟨u0, rfl, h0⟩; exact ⟨u0, rfl, h0.mono l⟩

structure Cellarerref14Cutter where
  b : List UInt8
  at_ : Int
  bad : Bool
  deriving DecidableEq, Inhabited
def Cellarerref14Cutter.cells (x : Cellarerref14Cutter) (u0 : Value) : List Value := [u0, .int .i64 x.at_, .bool x.bad]
def Cellarerref14Cutter.t : Tr Cellarerref14Cutter where
  size := 3
  rel F cs x := ∃ u0, cs = Cellarerref14Cutter.cells x u0 ∧ SlF tB F u0 (x.b)
  pos := by decide
  len := by rintro F cs x ⟨u0, rfl, h0⟩; simp [Cellarerref14Cutter.cells]
  one := by
    rintro F cs x ⟨u0, rfl, h0⟩ u hu
    simp only [Cellarerref14Cutter.cells, List.mem_cons, List.not_mem_nil, or_false] at hu
    rcases hu with rfl | rfl | rfl
    · exact h0.ln.one
    · rfl
    · rfl
  mono := by rintro F G cs x l ⟨u0, rfl, h0⟩; exact ⟨u0, rfl, h0.mono l⟩

end Go.Wk.Lf
