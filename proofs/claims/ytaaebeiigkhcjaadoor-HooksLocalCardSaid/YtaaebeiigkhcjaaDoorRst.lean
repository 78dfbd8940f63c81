/-
  A walk's registers put in order. Over any program. Conditions: none.
-/
import Derived.Test.YtaaebeiigkhcjaaDoorS4
import Derived.Test.YtaaebeiigkhcjaaDoorHg
namespace Go.Proofs.YtaaebeiigkhcjaaDoor
def OkL (ta : Nat → Value) : List (Nat × Value) → Prop
  | [] => True
  | (k, x) :: l => ta k = x ∧ OkL ta l
def updL (ta : Nat → Value) : List (Nat × Value) → Nat → Value
  | [] => ta
  | (k, x) :: l => upd (updL ta l) k x
theorem updL_same {ta : Nat → Value} : ∀ {L : List (Nat × Value)}, OkL ta L → updL ta L = ta
  | [], _ => rfl
  | (k, x) :: l, h => by
    show upd (updL ta l) k x = ta
    rw [updL_same h.2, upd_same h.1]
theorem W.reset {P : Program} {G nt : Nat} {rd : Option Nat} {c : Code} {ta : Nat → Value} {dm : List DItem} {σ : Mem} {Q : Exit → (Nat → Value) → List DItem → Mem → Prop} (L : List (Nat × Value)) (h : OkL ta L) (k : ∀ TA, W G P rd nt c (updL TA L) dm σ Q) : W G P rd nt c ta dm σ Q := by
  have := k ta
  rwa [updL_same h] at this
theorem resE {σ : Mem} {ta : Nat → Value} {a : Tmp} {b : Nat} {t : TypeId} {g : Bool} {v : Value} {vs : List Value} {rv : List ResultVar} (ha : ta a = .pointer (some ⟨b, 0, none⟩)) (hr : σ.get b = some (.row ⟨[v], t, g⟩)) (k : resL Tryd.prog ta σ rv = some vs) : resL Tryd.prog ta σ (.cell a 33 :: rv) = some (v :: vs) :=
  resL_cell (n := 1) ha hr ((uT_eq _ _).trans Tryd.underlying33) (by kernel_rfl) rfl (by kernel_rfl) k
theorem GRow.one {G : Nat} {σ : Mem} {e : TypeId} {s n : Nat} {v : Value} {xs : List Value} (g : GRow G σ e s v n xs) : v.cells.toList = [v] := by cases g <;> rfl
end Go.Proofs.YtaaebeiigkhcjaaDoor
