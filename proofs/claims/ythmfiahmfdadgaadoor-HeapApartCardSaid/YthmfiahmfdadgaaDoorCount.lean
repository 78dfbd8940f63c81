/-
  The counts' contracts stand in the text before. Conditions: none.
-/
import Derived.Test.YthmfiahmfdadgaaDoorMark

