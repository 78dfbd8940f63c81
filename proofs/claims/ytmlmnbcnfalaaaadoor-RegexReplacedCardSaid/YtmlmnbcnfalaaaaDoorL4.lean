/-
  Contracts of package runes: Is, Text, Cut. Conditions: the tables of unicode/utf8 lie as laid; sizes as stated.
  Contract of package runes' search in spans (sort.Search with a closure). Conditions: the spans lie in memory, their ends rising.
  Contracts of package runes: near, Up, Down, Fold, Word, Width. Conditions: none.
-/
import Derived.Test.YtmlmnbcnfalaaaaDoorRunes
import Derived.Laws.IdiomStrings
import Derived.Test.YtmlmnbcnfalaaaaDoorBase
import Derived.Test.YtmlmnbcnfalaaaaDoorShelf
import Derived.Test.YtmlmnbcnfalaaaaDoorChecked
import Derived.Sort.Defs
import Derived.Great.BuildSlice
namespace Go.Proofs.YtmlmnbcnfalaaaaDoor
open Go.RowKit Go.Lib
set_option maxRecDepth 100000

theorem run_string_own {P : Program} (w : World) (src dst e : TypeId) (hs : P.underlying src = some (.slice e)) (he : P.underlying e = some (.int .u8)) (hd : P.underlying dst = some .string) {base : Nat} {v : Value} {l : List UInt8}
    (hown : w.ownsRow base e 1 v l.length (byteCells l)) : (convert src dst v).run P w = .ok (.string ⟨l.toArray⟩) w := by
  rcases hown.2 with ⟨rfl, h0⟩ | ⟨g, cap, cur, rfl, -, -, -, -, -, -⟩
  · have : l = [] := by simpa [byteCells] using h0
    subst this
    rw [run_convert_bytes_string w src dst e none 0 0 hs he hd]
    rfl
  · exact run_convert_bytes_back (P := P) w src dst e ⟨g, 0, none⟩ cap l hs he hd (fun j hj => hown.cells (g := g) rfl j _ (by simp [byteCells, hj]))

theorem is_any (c : Int) (w : World) : Calls Tryd.prog 67 #[.int .i64 c] w fun e w' => e = .returned (.bool (chB c)) ∧ w = w' := by
 by_cases h0 : 0 ≤ c
 ·by_cases h1 : c ≤ 1114111
  ·by_cases h2 : 55296 ≤ c
   ·by_cases h3 : c ≤ 57343
    ·have e : chB c = false := by simp only [chB, decide_eq_false_iff_not]; omega
     rw [e]; clear e
     go_enter Tryd.func67, Tryd.ntmps67
     go_wp2
     go_ret
     exact ⟨rfl, rfl⟩
    ·have e : chB c = true := by rw [chB_iff]; omega
     rw [e]; clear e
     go_enter Tryd.func67, Tryd.ntmps67
     go_wp2
     go_ret
     exact ⟨rfl, rfl⟩
   ·have e : chB c = true := by rw [chB_iff]; omega
    rw [e]; clear e
    go_enter Tryd.func67, Tryd.ntmps67
    go_wp2
    go_ret
    exact ⟨rfl, rfl⟩
  ·have e : chB c = false := by simp only [chB, decide_eq_false_iff_not]; omega
   rw [e]; clear e
   go_enter Tryd.func67, Tryd.ntmps67
   go_wp2
   go_ret
   exact ⟨rfl, rfl⟩
 ·have e : chB c = false := by simp only [chB, decide_eq_false_iff_not]; omega
  rw [e]; clear e
  go_enter Tryd.func67, Tryd.ntmps67
  go_wp2
  go_ret
  exact ⟨rfl, rfl⟩

theorem encA_len (cs : List Int) : (encA cs).length ≤ 4 * cs.length := by
 induction cs with
 | nil => simp [encA_nil]
 | cons c cs ih =>
  rw [encA_cons, List.length_append, List.length_cons]
  have := (enc_len c).2
  omega
theorem runeCells_eq (c : Int) : runeCells c = byteCells (encodeRune c) := (byteCells_encodeRune c).symm
def allCh (xs : List Int) : Bool := xs.all chB
def textOf (xs : List Int) : List UInt8 := if allCh xs then encA xs else []
def textE (xs : List Int) : Int := if allCh xs then 0 else 3
theorem text_yes {xs : List Int} (h : allCh xs = true) : textOf xs = encA xs ∧ textE xs = 0 := by simp [textOf, textE, h]
theorem text_no {xs : List Int} (h : allCh xs = false) : textOf xs = [] ∧ textE xs = 3 := by simp [textOf, textE, h]
theorem allCh_iff {xs : List Int} : allCh xs = true ↔ ∀ c ∈ xs, chB c = true := by simp [allCh]

theorem take_snoc {xs : List Int} {k : Nat} {x : Int} (h : xs[k]? = some x) : xs.take (k + 1) = xs.take k ++ [x] := by
 rw [List.take_add_one, h]; rfl

set_option maxHeartbeats 1000000 in
theorem text_walk (b off c : Nat) (xs : List Int) (w : World) (h0 : 0 < xs.length) (hn : xs.length ≤ 65536) (hb : b < w.heap.size) (hx : ∀ x ∈ xs, -9223372036854775808 ≤ x ∧ x ≤ 9223372036854775807)
    (h1 : ∀ j x, xs[j]? = some x → w.cell? ⟨b, off + j, none⟩ = some (.int .i64 x)) :
    Calls Tryd.prog 52 #[.slice (some ⟨b, off, none⟩) xs.length c] w fun e w' => e = .returned (.tuple #[.string ⟨(textOf xs).toArray⟩, .int .i64 (textE xs)]) ∧ Below w.heap.size w w' := by
  have H1 := Lib.hid h1
  have HX := Lib.hid hx
  clear h1 hx
  go_enter Tryd.func52, Tryd.ntmps52
  go_wp2
  go_loopw [4, 12] (fun bv i wr => ∃ k : Nat, k ≤ xs.length ∧ i = .int .i64 k ∧ wr.ownsRow w.heap.size 5 1 bv (encA (xs.take k)).length (byteCells (encA (xs.take k))) ∧ Below w.heap.size w wr ∧ Hid (∀ x ∈ xs.take k, chB x = true)) (fun _ i _ => xs.length - (intOf i).toNat)
  case atStart => exact ⟨0, Nat.zero_le _, rfl, World.ownsRow_nil _ _ _ _, Below.refl _ _, by simp [Hid]⟩
  case round =>
    obtain ⟨k, hk, rfl, hown, hbw, HC⟩ := hrel
    by_cases hlt : k < xs.length
    · obtain ⟨x, hxk⟩ : ∃ x, xs[k]? = some x := ⟨_, List.getElem?_eq_getElem hlt⟩
      have hc : wr.cell? ⟨b, off + k, none⟩ = some (.int .i64 x) := (hbw.cell (p := ⟨b, off + k, none⟩) hb).trans (H1.out k x hxk)
      have hmem : x ∈ xs := List.mem_of_getElem? hxk
      have hbd := HX.out x hmem
      obtain ⟨hb1, hb2⟩ := hbd
      have hsn := Lib.hid (take_snoc hxk)
      have HM := Lib.hid hmem
      clear hxk hmem
      cases hch : chB x with
      | true =>
        obtain ⟨q0, q1, q2⟩ := chB_iff.1 hch
        have I := Lib.hid (fun w' => is_any x w')
        rw [hch] at I
        have HCH := Lib.hid hch
        clear hch q2
        have hlen : (encA (xs.take k)).length + 4 ≤ 140737488355328 := by
          have := encA_len (xs.take k)
          have h2 : (xs.take k).length ≤ k := List.length_take_le _ _
          omega
        have HA := Lib.hid (fun (v : Value) (w' : World) (ho : w'.ownsRow w.heap.size 5 1 v (encA (xs.take k)).length (byteCells (encA (xs.take k)))) (hB : w.heap.size ≤ w'.heap.size) => Tryd.utf8_AppendRune_plain w.heap.size v _ _ x (by omega) (by omega) w' ho hlen hB)
        have hs2 := hbw.size
        have OB := Lib.hid (And.intro hown hbw)
        clear hown hbw hlen
        go_wp2_with (first
          | (go_at_call 67; refine (I.out _).mono ?_; rintro e w' ⟨rfl, rfl⟩)
          | (go_at_call 68; refine (HA.out _ _ OB.out.1 hs2).mono ?_; rintro e w2 ⟨v2, rfl, hown2, o2, hg2⟩))
        have hbw2 : Below w.heap.size w w2 := (OB.out.2.alloc hs2 o2).grown hg2 (by simp; omega) (fun j hj => (OB.out.1.lt j hj).1)
        rw [runeCells_eq, byteCells_length, ← List.length_append] at hown2
        have e1 : byteCells (encA (xs.take k)) ++ byteCells (encodeRune x) = byteCells (encA (xs.take k) ++ encodeRune x) := by simp [byteCells]
        have e2 : encA (xs.take k) ++ encodeRune x = encA (xs.take (k + 1)) := by rw [hsn.out, encA_append, encA_cons, encA_nil, List.append_nil]
        rw [e1, e2] at hown2
        have OB2 := Lib.hid (And.intro hown2 hbw2)
        clear hown2 hbw2 e1 e2 hg2
        go_wp2
        go_roundw
        case rel =>
          refine ⟨k + 1, by omega, by go_num, OB2.out.1, OB2.out.2, ?_⟩
          show ∀ y ∈ _, _
          rw [hsn.out]
          intro y hy
          rcases List.mem_append.1 hy with hy | hy
          · exact HC.out y hy
          · rw [List.mem_singleton.1 hy]; exact HCH.out
        case measure => simp [intOf]; omega
      | false =>
        have I := Lib.hid (fun w' => is_any x w')
        rw [hch] at I
        have hall : allCh xs = false := by
          cases h : allCh xs with
          | false => rfl
          | true =>
            have := allCh_iff.1 h x HM.out
            rw [hch] at this
            cases this
        have HAll := Lib.hid hall
        have OB := Lib.hid hbw
        clear hch hall hbw hown
        go_wp2_with (go_at_call 67; refine (I.out _).mono ?_; rintro e w' ⟨rfl, rfl⟩)
        go_ret2
        refine ⟨?_, OB.out⟩
        rw [(text_no HAll.out).1, (text_no HAll.out).2]
        rfl
    · have hkn : xs.take k = xs := List.take_of_length_le (by omega)
      have hall : allCh xs = true := by rw [allCh_iff]; have := HC.out; rwa [hkn] at this
      rw [hkn] at hown
      have hcv := run_string_own wr 78 9 5 Tryd.underlying78 Tryd.underlying5 Tryd.underlying9 hown
      have OB := Lib.hid hbw
      have HAll := Lib.hid hall
      clear hbw hown hkn hall
      go_wp2
      go_ret2
      refine ⟨?_, OB.out⟩
      rw [(text_yes HAll.out).1, (text_yes HAll.out).2]
      rfl

theorem text_empty (A : Option Addr) (c : Nat) (w : World) :
    Calls Tryd.prog 52 #[.slice A 0 c] w fun e w' => e = .returned (.tuple #[.string ⟨#[]⟩, .int .i64 0]) ∧ w = w' := by
  have hcv : ∀ w', (convert 78 9 (.slice none 0 0)).run Tryd.prog w' = .ok (.string ⟨#[]⟩) w' := fun w' => run_string_own (l := []) w' 78 9 5 Tryd.underlying78 Tryd.underlying5 Tryd.underlying9 (World.ownsRow_nil w' w'.heap.size 5 1)
  go_enter Tryd.func52, Tryd.ntmps52
  go_wp2
  refine wp_loop_rounds 1 ?_
  rw [rounds_succ]
  go_wp2
  go_ret2
  exact ⟨rfl, rfl⟩
/-! ### Cut -/
def cutOf (l : List UInt8) (a b : Nat) : List UInt8 := encA (((runes l).drop a).take (b - a))
end Go.Proofs.YtmlmnbcnfalaaaaDoor
namespace Go.Proofs.YtmlmnbcnfalaaaaDoor
open Go.RowKit Go.Lib Go.Sort Go.Shelf
set_option maxRecDepth 100000

end Go.Proofs.YtmlmnbcnfalaaaaDoor
namespace Go.Proofs.YtmlmnbcnfalaaaaDoor
open Go.RowKit Go.Lib
set_option maxRecDepth 100000

/-! ### the search, plainly -/
def rising : List (Int × Int) → Bool
 | [] => true
 | p :: r => decide (p.1 ≤ p.2) && (r.all fun q => decide (p.2 < q.1)) && rising r
/-! ### tables in memory -/
def flatSp (sp : List (Int × Int)) : List Value := sp.flatMap fun p => [.int .i64 p.1, .int .i64 p.2]
def zeroW : List (Int × Int) := [(768, 879), (1155, 1161), (1425, 1469), (8203, 8207), (8400, 8447), (65024, 65039), (65056, 65071)]
def zeroCells : Array Value := (flatSp zeroW).toArray
end Go.Proofs.YtmlmnbcnfalaaaaDoor
