/-
  A slice of numbers among a law's arguments, in the second memory; nil has no room. Conditions: none.
  A slice of slices of numbers among a law's arguments, in the second memory: a row for each. Conditions: none.
  Rows of cells among a law's arguments, in the second memory. Conditions: none.
  Rows of a screen among a law's arguments, in the second memory: a row for each slice. Conditions: none.
-/
import Derived.Test.YtmmapljeeccdnaaDoorK1
import Derived.Test.YtmmapljeeccdnaaDoorOpen
import Derived.Test.YtmmapljeeccdnaaDoorS3
import Derived.Deep.Matrix
import Derived.Test.YtmmapljeeccdnaaDoorRows
import Derived.Deep.Slices
namespace Go.Proofs.YtmmapljeeccdnaaDoor
open Go.ChangeShapes Go.WideShapes Go.ChangeAt Go.RowKit
set_option maxRecDepth 100000
def IntsS (w : World) (v : Value) (xs : List Int) : Prop := Ints w w.heap.size v xs ∧ ∀ c, v = .slice none 0 c → c = 0
theorem open_ints0 {H : Type} {enc : TypeId × Value → H} {P : Program} {w : World} {r : Reach} {b0 : Nat} {t e : TypeId} {v : Value} {d : DataW H} {p : List MemPlace}
    (ht : P.underlying t = some (.slice e)) (he : P.underlying e = some (.int .i64)) (hc : P.cellsOf e = 1) (hv : Value.okWide P w r b0 t v) (h : DataW.Trod enc P w 0 (fun _ => true) true t v d p) :
    ∃ (xs : List Int), IntsS w v xs ∧ ∀ x ∈ xs, -9223372036854775808 ≤ x ∧ x ≤ 9223372036854775807 := by
  obtain ⟨xs, h1, h2⟩ := open_ints_list ht he hc hv h
  refine ⟨xs, ⟨h1, fun c hv' => ?_⟩, h2⟩
  subst hv'
  obtain ⟨fuel, hf⟩ := h
  rcases open_ints ht he hc hf with ⟨hcs, _⟩ | ⟨x, l, c, zs, hcs, _⟩
  · simpa [Value.cells] using hcs
  · simp [Value.cells] at hcs
theorem arg_intsF {w : World} {v : Value} {xs : List Int} (hh : IntsS w v xs) (k : Nat) :
    ∃ (r : ARow) (v2 : Value), (∀ μ : Mu, μ (64 + k) = some ⟨r.blk, r.sh, r.cs.length, 0, 0⟩ → VRel μ v2 v) ∧ (∀ (i : Nat) u, r.cs[i]? = some u → ∃ x, w.cell? ⟨r.blk, r.sh + i, none⟩ = some (.int .i64 x) ∧ u = .int .i64 x) ∧
      ∀ (σ : Mem), (r.cs ≠ [] → σ.get (64 + k) = some (.row ⟨r.cs, 0, true⟩)) → SlF σ.get 1 v2 xs.length (xs.map (Value.int .i64)) := by
  obtain ⟨⟨A, c, rfl, h1, h2, h3⟩, h0⟩ := hh
  cases xs with
  | nil =>
    cases A with
    | none =>
      obtain rfl := h0 c rfl
      exact ⟨⟨0, 0, []⟩, .slice none 0 0, fun μ _ => .flat _ rfl, fun i u hu => by simp at hu, fun σ _ => .nil _ rfl⟩
    | some x => exact ⟨⟨0, 0, []⟩, .chan (some c), fun μ _ => .void x c, fun i u hu => by simp at hu, fun σ _ => .void _ _ rfl⟩
  | cons y ys =>
    obtain ⟨b, off, rfl, _, hc⟩ := h3 (by simp)
    refine ⟨⟨b, off, (y :: ys).map (Value.int .i64)⟩, .slice (some ⟨64 + k, 0, none⟩) (y :: ys).length c, fun μ hm => ?_, fun i u hu => ?_, fun σ hr => .some (hr (by simp)) (by simp) ?_⟩
    · have := VRel.sliceE (μ := μ) (64 + k) 0 (y :: ys).length c _ hm
      simpa using this
    · rw [List.getElem?_map] at hu
      cases hx : (y :: ys)[i]? with
      | none => rw [hx] at hu; cases hu
      | some x =>
        rw [hx] at hu
        cases hu
        exact ⟨x, hc i x hx, rfl⟩
    · rw [List.drop_zero]
      exact List.take_of_length_le (by simp)
end Go.Proofs.YtmmapljeeccdnaaDoor
namespace Go.Proofs.YtmmapljeeccdnaaDoor
open Go.ChangeShapes Go.WideShapes Go.ChangeAt Go.RowKit
set_option maxRecDepth 100000
def AllF (F : Nat → Option Blk2) : List Value → List (List Int) → Prop
  | [], [] => True
  | v :: vs, l :: M => SlF F 1 v l.length (l.map (Value.int .i64)) ∧ AllF F vs M
  | _, _ => False
theorem AllF.le {F F' : Nat → Option Blk2} (k : Le F F') : ∀ {vs : List Value} {M : List (List Int)}, AllF F vs M → AllF F' vs M
  | [], [], _ => trivial
  | _ :: _, _ :: _, h => ⟨h.1.le k, AllF.le k h.2⟩
theorem AllF.len {F : Nat → Option Blk2} : ∀ {vs : List Value} {M : List (List Int)}, AllF F vs M → vs.length = M.length
  | [], [], _ => rfl
  | _ :: _, _ :: _, h => congrArg (· + 1) (AllF.len h.2)
theorem AllF.get {F : Nat → Option Blk2} : ∀ {vs : List Value} {M : List (List Int)} {i : Nat}, AllF F vs M → i < M.length → SlF F 1 (vs.getD i undef) (M.getD i []).length ((M.getD i []).map (Value.int .i64))
  | [], [], i, _, hi => absurd hi (Nat.not_lt_zero _)
  | _ :: _, _ :: _, 0, h, _ => h.1
  | _ :: _, _ :: _, i + 1, h, hi => AllF.get (i := i) h.2 (by simpa using hi)
end Go.Proofs.YtmmapljeeccdnaaDoor
namespace Go.Proofs.YtmmapljeeccdnaaDoor
open Go.ChangeShapes Go.WideShapes Go.ChangeAt Go.RowKit
set_option maxRecDepth 100000
structure Cel where
  a : Int
  b : Int
  c : Int
  d : Bool
  e : Bool
  f : Bool
instance : Inhabited Cel := ⟨⟨0, 0, 0, false, false, false⟩⟩
def Cel.vs (x : Cel) : List Value := [.int .i64 x.a, .int .i64 x.b, .int .i64 x.c, .bool x.d, .bool x.e, .bool x.f]
def cC : List Cel → List Value
  | [] => []
  | x :: l => x.vs ++ cC l
theorem cC_len : ∀ l : List Cel, (cC l).length = l.length * 6
  | [] => rfl
  | x :: l => by
    show (x.vs ++ cC l).length = (l.length + 1) * 6
    rw [List.length_append, cC_len l]
    show 6 + l.length * 6 = _
    omega
theorem cC_app : ∀ k l : List Cel, cC (k ++ l) = cC k ++ cC l
  | [], _ => rfl
  | x :: k, l => by
    show x.vs ++ cC (k ++ l) = (x.vs ++ cC k) ++ cC l
    rw [cC_app k l, List.append_assoc]
structure RowV where
  C : List Cel
  P : List Int
  fr : Int
  to : Int
  co : Bool
section
variable {H : Type} {enc : TypeId × Value → H} {w : World}
end
end Go.Proofs.YtmmapljeeccdnaaDoor
namespace Go.Proofs.YtmmapljeeccdnaaDoor
open Go.ChangeShapes Go.WideShapes Go.ChangeAt Go.RowKit
set_option maxRecDepth 100000
section
variable {H : Type} {enc : TypeId × Value → H} {w : World}
instance : Inhabited RowV := ⟨⟨[], [], 0, 0, false⟩⟩
end
def rowsV : List Value → List Value → List RowV → List Value
  | c :: cs, p :: ps, r :: l => c :: p :: .int .i64 r.fr :: .int .i64 r.to :: .bool r.co :: rowsV cs ps l
  | _, _, _ => []
theorem rowsV_at : ∀ {cs ps : List Value} {l : List RowV} {j : Nat}, cs.length = l.length → ps.length = l.length → j < l.length → ((rowsV cs ps l).drop (j * 5)).take 5 = [cs.getD j undef, ps.getD j undef, .int .i64 (l.getD j default).fr, .int .i64 (l.getD j default).to, .bool (l.getD j default).co]
  | [], _, [], _, _, _, h => absurd h (Nat.not_lt_zero _)
  | _ :: cs, _ :: ps, _ :: l, 0, _, _, _ => rfl
  | _ :: cs, _ :: ps, _ :: l, j + 1, h1, h2, h => by
    rw [show (j + 1) * 5 = j * 5 + 5 by omega]
    exact rowsV_at (l := l) (j := j) (by simpa using h1) (by simpa using h2) (by simpa using h)
  | _ :: _, [], l, _, h1, h2, _ => by cases l <;> simp at h1 h2
def AllRow (F : Nat → Option Blk2) (cs ps : List Value) (l : List RowV) : Prop := cs.length = l.length ∧ ps.length = l.length ∧ ∀ j, j < l.length → SlF F 6 (cs.getD j undef) (l.getD j default).C.length (cC (l.getD j default).C) ∧ SlF F 1 (ps.getD j undef) (l.getD j default).P.length ((l.getD j default).P.map (Value.int .i64))
theorem AllRow.le {F F' : Nat → Option Blk2} {cs ps : List Value} {l : List RowV} (h : AllRow F cs ps l) (k : Le F F') : AllRow F' cs ps l := ⟨h.1, h.2.1, fun j hj => ⟨(h.2.2 j hj).1.le k, (h.2.2 j hj).2.le k⟩⟩
end Go.Proofs.YtmmapljeeccdnaaDoor
