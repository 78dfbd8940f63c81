/-
  Contract of package runes' search in spans (sort.Search with a closure). Conditions: the spans lie in memory, their ends rising.
  Contracts of package runes: Is, Text, Cut. Conditions: the tables of unicode/utf8 lie as laid; sizes as stated.
  Contracts of package runes: near, Up, Down, Fold, Word, Width. Conditions: none.
-/
import Derived.Test.YthemeeiedlbhkaaDoorBase
import Derived.Test.YthemeeiedlbhkaaDoorShelf
import Derived.Test.YthemeeiedlbhkaaDoorChecked
import Derived.Sort.Defs
import Derived.Test.YthemeeiedlbhkaaDoorRunes
import Derived.Laws.IdiomStrings
import Derived.Great.BuildSlice
namespace Go.Proofs.YthemeeiedlbhkaaDoor
open Go.RowKit Go.Lib Go.Sort Go.Shelf
set_option maxRecDepth 100000

end Go.Proofs.YthemeeiedlbhkaaDoor
namespace Go.Proofs.YthemeeiedlbhkaaDoor
open Go.RowKit Go.Lib
set_option maxRecDepth 100000

theorem run_string_own {P : Program} (w : World) (src dst e : TypeId) (hs : P.underlying src = some (.slice e)) (he : P.underlying e = some (.int .u8)) (hd : P.underlying dst = some .string) {base : Nat} {v : Value} {l : List UInt8}
    (hown : w.ownsRow base e 1 v l.length (byteCells l)) : (convert src dst v).run P w = .ok (.string ⟨l.toArray⟩) w := by
  rcases hown.2 with ⟨rfl, h0⟩ | ⟨g, cap, cur, rfl, -, -, -, -, -, -⟩
  · have : l = [] := by simpa [byteCells] using h0
    subst this
    rw [run_convert_bytes_string w src dst e none 0 0 hs he hd]
    rfl
  · exact run_convert_bytes_back (P := P) w src dst e ⟨g, 0, none⟩ cap l hs he hd (fun j hj => hown.cells (g := g) rfl j _ (by simp [byteCells, hj]))

theorem encA_len (cs : List Int) : (encA cs).length ≤ 4 * cs.length := by
 induction cs with
 | nil => simp [encA_nil]
 | cons c cs ih =>
  rw [encA_cons, List.length_append, List.length_cons]
  have := (enc_len c).2
  omega
theorem runeCells_eq (c : Int) : runeCells c = byteCells (encodeRune c) := (byteCells_encodeRune c).symm
theorem info_byte : (Tryd.prog.info? 5).map (fun i => (i.zero, i.size, i.bytes)) = some (some (.int .u8 0), 1, 1) := by kernel_rfl

def allCh (xs : List Int) : Bool := xs.all chB
def textOf (xs : List Int) : List UInt8 := if allCh xs then encA xs else []
def textE (xs : List Int) : Int := if allCh xs then 0 else 3
theorem text_yes {xs : List Int} (h : allCh xs = true) : textOf xs = encA xs ∧ textE xs = 0 := by simp [textOf, textE, h]
theorem text_no {xs : List Int} (h : allCh xs = false) : textOf xs = [] ∧ textE xs = 3 := by simp [textOf, textE, h]
theorem allCh_iff {xs : List Int} : allCh xs = true ↔ ∀ c ∈ xs, chB c = true := by simp [allCh]

theorem take_snoc {xs : List Int} {k : Nat} {x : Int} (h : xs[k]? = some x) : xs.take (k + 1) = xs.take k ++ [x] := by
 rw [List.take_add_one, h]; rfl

/-! ### Cut -/
end Go.Proofs.YthemeeiedlbhkaaDoor
namespace Go.Proofs.YthemeeiedlbhkaaDoor
open Go.RowKit Go.Lib
set_option maxRecDepth 100000

/-! ### the search, plainly -/
def rising : List (Int × Int) → Bool
 | [] => true
 | p :: r => decide (p.1 ≤ p.2) && (r.all fun q => decide (p.2 < q.1)) && rising r
/-! ### tables in memory -/
def flatSp (sp : List (Int × Int)) : List Value := sp.flatMap fun p => [.int .i64 p.1, .int .i64 p.2]
def zeroW : List (Int × Int) := [(768, 879), (1155, 1161), (1425, 1469), (8203, 8207), (8400, 8447), (65024, 65039), (65056, 65071)]
def zeroCells : Array Value := (flatSp zeroW).toArray
end Go.Proofs.YthemeeiedlbhkaaDoor
