/-
  Plain: strings of bytes as the encodings of lists of characters. No program in this text. Conditions: none.
-/
import Derived.Lib.ValidLaws
import Derived.Lib.MapLaws
import Derived.Lib.RuneCount
namespace Go.Proofs.YthemeeiedlbhkaaGreatDoor
open Go.Lib

def runesF : Nat → List UInt8 → List Int
  | 0, _ => []
  | n + 1, l => if l = [] then [] else ((decodeL l).1 : Int) :: runesF n (l.drop (decodeL l).2)
def runes (l : List UInt8) : List Int := runesF l.length l

/-! ### joins -/
/-! ### counting -/
def lenOf (l : List UInt8) : Nat := if validD l then (runes l).length else 0
end Go.Proofs.YthemeeiedlbhkaaGreatDoor
