/-
  The reference: Start, Record, Cancel, Drop, Count. Conditions: none.
  The reference: Stop, Rotate, Play, what only reads, Copy. Conditions: none.
-/
import Derived.Test.YthemeeiedlbhkaaGreatDoorK2
namespace Go.Proofs.YthemeeiedlbhkaaGreatDoor
set_option maxRecDepth 100000
def NowK (F : Nat → Option Blk2) (nv v : Value) : Prop := nv = v ∨ v = .slice none 0 0 ∧ ∃ b t g, nv = .slice (some ⟨b, 0, none⟩) 0 0 ∧ F b = some (.row ⟨[], t, g⟩)
theorem NowK.le {F F' : Nat → Option Blk2} {nv v : Value} (h : NowK F nv v) (k : Le F F') : NowK F' nv v := by
  rcases h with h | ⟨h1, b, t, g, h2, h3⟩
  · exact .inl h
  · exact .inr ⟨h1, b, t, g, h2, k _ _ h3⟩
theorem gr_slf {G : Nat} {σ : Mem} {e s n : Nat} {v : Value} {xs : List Value} (h : GRow G σ e s v n xs) : SlK σ.get s v n xs := by
  cases h with
  | nil => exact .nil
  | row _ hr _ hc hl hx => exact .some hr (by rw [← hx, List.length_take, hc]; have := Nat.mul_le_mul_right s hl; omega) (by rw [List.drop_zero]; exact hx) hl (.inr rfl)
section
variable {F : Nat → Option Blk2} {v m : Value}
end
theorem rot_neg (n : Int) {m : Nat} (h : 0 < m) (hn : Int.tmod n m < 0) : Int.tmod n m + (m : Int) = ((rotN n m : Nat) : Int) := by
  have h1 := tmod_in n (m := (m : Int)) (by omega)
  rw [← rot_is n h, Int.tmod_eq_emod_of_nonneg (a := Int.tmod n m + (m : Int)) (by omega), Int.emod_eq_of_lt (a := Int.tmod n m + (m : Int)) (by omega) (by omega)]
theorem rot_pos (n : Int) {m : Nat} (h : 0 < m) (hn : ¬ Int.tmod n m < 0) : Int.tmod n m = ((rotN n m : Nat) : Int) := by
  have h1 := tmod_in n (m := (m : Int)) (by omega)
  rw [← rot_is n h, Int.tmod_eq_emod_of_nonneg (a := Int.tmod n m + (m : Int)) (by omega), Int.add_emod_right, Int.emod_eq_of_lt (by omega) (by omega)]
section
variable {G : Nat} {A : Abs} {σ : Mem} {F : Nat → Option Blk2} {L : List Ent} {w : Nat} {mv nv v : Value} {on : Bool} {E : List Int} {M : List (List Int)} {ct : Int}
end
end Go.Proofs.YthemeeiedlbhkaaGreatDoor
namespace Go.Proofs.YthemeeiedlbhkaaGreatDoor
set_option maxRecDepth 100000
section
variable {G : Nat} {A : Abs} {σ : Mem} {F : Nat → Option Blk2} {L : List Ent} {w : Nat} {mv nv v : Value} {on : Bool} {E : List Int} {M : List (List Int)} {ct : Int}
end
section
variable {G : Nat} {A : Abs} {σ : Mem} {F : Nat → Option Blk2} {L : List Ent} {ev mv : Value} {vs : List Value} {on : Bool} {E : List Int} {M : List (List Int)} {ct : Int}
end
end Go.Proofs.YthemeeiedlbhkaaGreatDoor
