import Derived.Test.YtahfmkjafddjhaaPure
import Derived.Test.YtahfmkjafddjhaaMap
namespace Go.Wk.Lf
open Go.RowKit
set_option linter.unusedVariables false
set_option linter.unusedSimpArgs false

structure Loc where
  vol : Int
  file : Int
  off : Int
  len : Int
  deriving DecidableEq, Inhabited
def Loc.cells (x : Loc) : List Value := [.int .i64 x.vol, .int .i64 x.file, .int .i64 x.off, .int .i64 x.len]
def Loc.t : Tr Loc where
  size := 4
  rel F cs x := cs = Loc.cells x
  pos := by decide
  len := by rintro F cs x rfl; simp [Loc.cells]
  one := by
    rintro F cs x rfl u hu
    simp only [Loc.cells, List.mem_cons, List.not_mem_nil, or_false] at hu
    rcases hu with rfl | rfl | rfl | rfl
    · rfl
    · rfl
    · rfl
    · rfl
  mono := by rintro F G cs x l rfl; exact rfl

structure Read where
  want : Int
  loc : Loc
  deriving DecidableEq, Inhabited
def Read.cells (x : Read) : List Value := [.int .i64 x.want, .int .i64 x.loc.vol, .int .i64 x.loc.file, .int .i64 x.loc.off, .int .i64 x.loc.len]
def Read.t : Tr Read where
  size := 5
  rel F cs x := cs = Read.cells x
  pos := by decide
  len := by rintro F cs x rfl; simp [Read.cells]
  one := by
    rintro F cs x rfl u hu
    simp only [Read.cells, List.mem_cons, List.not_mem_nil, or_false] at hu
    rcases hu with rfl | rfl | rfl | rfl | rfl
    · rfl
    · rfl
    · rfl
    · rfl
    · rfl
  mono := by rintro F G cs x l rfl; exact rfl

structure Want where
  id : List UInt8
  locs : List Loc
  deriving DecidableEq, Inhabited
def Want.cells (x : Want) (u0 : Value) : List Value := idCells x.id ++ [u0]
def Want.t : Tr Want where
  size := 33
  rel F cs x := ∃ u0, cs = Want.cells x u0 ∧ (x.id).length = 32 ∧ SlF Loc.t F u0 (x.locs)
  pos := by decide
  len := by rintro F cs x ⟨u0, rfl, h0, h1⟩; simp [Want.cells, idCells]
  one := by
    rintro F cs x ⟨u0, rfl, h0, h1⟩ u hu
    simp only [Want.cells, idCells, List.mem_append, List.mem_map, List.mem_range, List.mem_cons, List.not_mem_nil, or_false] at hu
    rcases hu with ⟨_, _, rfl⟩ | rfl
    · rfl
    · exact h1.ln.one
  mono := by rintro F G cs x l ⟨u0, rfl, h0, h1⟩; exact ⟨u0, rfl, h0, h1.mono l⟩

structure Move where
  kind : Int
  drive : Int
  vol : Int
  loc : Loc
  deriving DecidableEq, Inhabited
def Move.cells (x : Move) : List Value := [.int .i64 x.kind, .int .i64 x.drive, .int .i64 x.vol, .int .i64 x.loc.vol, .int .i64 x.loc.file, .int .i64 x.loc.off, .int .i64 x.loc.len]
def Move.t : Tr Move where
  size := 7
  rel F cs x := cs = Move.cells x
  pos := by decide
  len := by rintro F cs x rfl; simp [Move.cells]
  one := by
    rintro F cs x rfl u hu
    simp only [Move.cells, List.mem_cons, List.not_mem_nil, or_false] at hu
    rcases hu with rfl | rfl | rfl | rfl | rfl | rfl | rfl
    · rfl
    · rfl
    · rfl
    · rfl
    · rfl
    · rfl
    · rfl
  mono := by rintro F G cs x l rfl; exact rfl

structure MountsWalk where
  holds : List Int
  asked : List Int
  vols : List Int
  left : Int → Option (List Read)
  moves : List Move
  mounts : Int

end Go.Wk.Lf
