/- Chapter 9, in plain words: which versions are kept. Conditions: none. -/
namespace Go.RV
structure Stp where
  id : Int
  tick : Int
deriving DecidableEq
namespace K9
def newer (a b : Stp) : Bool := if a.tick ≠ b.tick then decide (b.tick < a.tick) else decide (b.id < a.id)
end K9
end Go.RV
