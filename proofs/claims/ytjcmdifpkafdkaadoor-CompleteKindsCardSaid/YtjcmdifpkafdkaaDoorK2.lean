/-
  A slice of numbers among a law's arguments, in the second memory; nil has no room. Conditions: none.
  A slice of slices of numbers among a law's arguments, in the second memory: a row for each. Conditions: none.
  Rows of cells among a law's arguments, in the second memory. Conditions: none.
-/
import Derived.Test.YtjcmdifpkafdkaaDoorK1
import Derived.Test.YtjcmdifpkafdkaaDoorOpen
import Derived.Test.YtjcmdifpkafdkaaDoorS3
import Derived.Deep.Matrix
import Derived.Test.YtjcmdifpkafdkaaDoorRows
import Derived.Deep.Slices
namespace Go.Proofs.YtjcmdifpkafdkaaDoor
open Go.ChangeShapes Go.WideShapes Go.ChangeAt Go.RowKit
set_option maxRecDepth 100000
end Go.Proofs.YtjcmdifpkafdkaaDoor
namespace Go.Proofs.YtjcmdifpkafdkaaDoor
open Go.ChangeShapes Go.WideShapes Go.ChangeAt Go.RowKit
set_option maxRecDepth 100000
theorem addr_plain (b off j : Nat) : (⟨b, off, none⟩ : Addr).add j = ⟨b, off + j, none⟩ := by unfold Addr.add; split <;> simp_all
def AllF (F : Nat → Option Blk2) : List Value → List (List Int) → Prop
 | [], [] => True
 | v :: vs, l :: M => SlF F 1 v l.length (l.map (Value.int .i64)) ∧ AllF F vs M
 | _, _ => False
theorem AllF.le {F F' : Nat → Option Blk2} (k : Le F F') : ∀ {vs : List Value} {M : List (List Int)}, AllF F vs M → AllF F' vs M
 | [], [], _ => trivial
 | _ :: _, _ :: _, h => ⟨h.1.le k, AllF.le k h.2⟩
theorem AllF.len {F : Nat → Option Blk2} : ∀ {vs : List Value} {M : List (List Int)}, AllF F vs M → vs.length = M.length
 | [], [], _ => rfl
 | _ :: _, _ :: _, h => congrArg (· + 1) (AllF.len h.2)
theorem AllF.get {F : Nat → Option Blk2} : ∀ {vs : List Value} {M : List (List Int)} {i : Nat}, AllF F vs M → i < M.length → SlF F 1 (vs.getD i undef) (M.getD i []).length ((M.getD i []).map (Value.int .i64))
 | [], [], i, _, hi => absurd hi (Nat.not_lt_zero _)
 | _ :: _, _ :: _, 0, h, _ => h.1
 | _ :: _, _ :: _, i + 1, h, hi => AllF.get (i := i) h.2 (by simpa using hi)
end Go.Proofs.YtjcmdifpkafdkaaDoor
namespace Go.Proofs.YtjcmdifpkafdkaaDoor
open Go.ChangeShapes Go.WideShapes Go.ChangeAt Go.RowKit
set_option maxRecDepth 100000
structure Cel where
 a : Int
 b : Int
 c : Int
 d : Bool
 e : Bool
 f : Bool
instance : Inhabited Cel := ⟨⟨0, 0, 0, false, false, false⟩⟩
def Cel.vs (x : Cel) : List Value := [.int .i64 x.a, .int .i64 x.b, .int .i64 x.c, .bool x.d, .bool x.e, .bool x.f]
structure RowV where
 C : List Cel
 P : List Int
 fr : Int
 to : Int
 co : Bool
def FlatsA (w : World) (s : Nat) (v : Value) (n : Nat) (xs : List Value) : Prop :=
 ∃ A c, v = .slice A n c ∧ xs.length = n * s ∧ (A = none → c = 0) ∧ (∀ u ∈ xs, flatV u = true) ∧ (0 < n → ∃ b off, A = some ⟨b, off, none⟩ ∧ ∀ (i : Nat) u, xs[i]? = some u → w.cell? ⟨b, off + i, none⟩ = some u)
theorem arg_flatsF {w : World} {s : Nat} {v : Value} {n : Nat} {xs : List Value} (hs : 0 < s) (hh : FlatsA w s v n xs) (k : Nat) :
    ∃ (r : ARow) (v2 : Value), (∀ μ : Mu, μ (64 + k) = some ⟨r.blk, r.sh, r.cs.length, 0, 0⟩ → VRel μ v2 v) ∧ (∀ (i : Nat) u, r.cs[i]? = some u → w.cell? ⟨r.blk, r.sh + i, none⟩ = some u ∧ flatV u = true) ∧
      ∀ (σ : Mem), (r.cs ≠ [] → σ.get (64 + k) = some (.row ⟨r.cs, 0, true⟩)) → SlF σ.get s v2 n xs := by
  obtain ⟨A, c, rfl, hl, hn, hf, hA⟩ := hh
  by_cases h0 : 0 < n
  · obtain ⟨b, off, rfl, hc⟩ := hA h0
    have hpos : 0 < n * s := Nat.mul_pos h0 hs
    refine ⟨⟨b, off, xs⟩, .slice (some ⟨64 + k, 0, none⟩) n c, fun μ hm => ?_, fun i u hu => ⟨hc i u hu, hf u (List.mem_of_getElem? hu)⟩, fun σ hr => ?_⟩
    · have := VRel.sliceE (μ := μ) (64 + k) 0 n c _ hm
      simpa using this
    · have hr := hr (by intro e; have e : xs = [] := e; rw [e] at hl; simp at hl; omega)
      exact .some hr hl (by rw [List.drop_zero]; exact List.take_of_length_le (by rw [hl]; exact Nat.le_refl _))
  · obtain rfl : n = 0 := by omega
    obtain rfl : xs = [] := List.eq_nil_of_length_eq_zero (by rw [hl, Nat.zero_mul])
    cases A with
    | none =>
      obtain rfl := hn rfl
      exact ⟨⟨0, 0, []⟩, .slice none 0 0, fun μ _ => .flat _ rfl, fun i u hu => by simp at hu, fun σ _ => .nil _ rfl⟩
    | some x => exact ⟨⟨0, 0, []⟩, .chan (some c), fun μ _ => .void x c, fun i u hu => by simp at hu, fun σ _ => .void _ _ rfl⟩
section
variable {H : Type} {enc : TypeId × Value → H} {w : World}
end
end Go.Proofs.YtjcmdifpkafdkaaDoor
