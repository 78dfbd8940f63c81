/-
  Prefix arguments and the table of names in plain words. Conditions: none.
  The table of names: made, and what it answers on two symbols. Conditions: none.
-/
import Derived.Test.YthemeeiedlbhkaaGreatDoorHka
import Derived.Test.YthemeeiedlbhkaaGreatDoorS4
namespace Go.Proofs.YthemeeiedlbhkaaGreatDoor
set_option maxRecDepth 100000
/-- A prefix argument that is valid: its kind, its number, whether it is closed. -/
def Pfx (k n : Int) (c : Bool) : Prop := (k = 0 ∧ n = 0 ∧ c = false) ∨ (k = 1 ∧ -2305843009213693952 ≤ n ∧ n ≤ 2305843009213693951 ∧ c = false) ∨ (k = 2 ∧ n = 0 ∧ c = false) ∨ (k = 3 ∧ -2305843009213693952 ≤ n ∧ n ≤ 2305843009213693951)
def preV (k n : Int) (c : Bool) : Value := .agg #[.int .i64 k, .int .i64 n, .bool c]
/-- The number that it stands for. -/
def valP (k n : Int) : Int := if k = 0 then 1 else if k = 2 then -1 else n
end Go.Proofs.YthemeeiedlbhkaaGreatDoor
namespace Go.Proofs.YthemeeiedlbhkaaGreatDoor
set_option maxRecDepth 100000
abbrev G65 : Nat := 65
noncomputable def es62 : List (Value × Value) := [(.string ⟨#[110, 105, 108]⟩, .int .i64 0), (.string ⟨#[116]⟩, .int .i64 1), (.string ⟨#[113, 117, 111, 116, 101]⟩, .int .i64 2), (.string ⟨#[102, 117, 110, 99, 116, 105, 111, 110]⟩, .int .i64 3), (.string ⟨#[96]⟩, .int .i64 4), (.string ⟨#[44]⟩, .int .i64 5), (.string ⟨#[44, 64]⟩, .int .i64 6), (.string ⟨#[108, 97, 109, 98, 100, 97]⟩, .int .i64 7), (.string ⟨#[99, 108, 111, 115, 117, 114, 101]⟩, .int .i64 8), (.string ⟨#[109, 97, 99, 114, 111]⟩, .int .i64 9), (.string ⟨#[38, 114, 101, 115, 116]⟩, .int .i64 10), (.string ⟨#[38, 111, 112, 116, 105, 111, 110, 97, 108]⟩, .int .i64 11), (.string ⟨#[105, 102]⟩, .int .i64 12), (.string ⟨#[99, 111, 110, 100]⟩, .int .i64 13), (.string ⟨#[97, 110, 100]⟩, .int .i64 14), (.string ⟨#[111, 114]⟩, .int .i64 15), (.string ⟨#[119, 104, 105, 108, 101]⟩, .int .i64 16), (.string ⟨#[112, 114, 111, 103, 110]⟩, .int .i64 17), (.string ⟨#[112, 114, 111, 103, 49]⟩, .int .i64 18), (.string ⟨#[115, 101, 116, 113]⟩, .int .i64 19), (.string ⟨#[108, 101, 116]⟩, .int .i64 20), (.string ⟨#[108, 101, 116, 42]⟩, .int .i64 21), (.string ⟨#[99, 97, 116, 99, 104]⟩, .int .i64 22), (.string ⟨#[117, 110, 119, 105, 110, 100, 45, 112, 114, 111, 116, 101, 99, 116]⟩, .int .i64 23), (.string ⟨#[99, 111, 110, 100, 105, 116, 105, 111, 110, 45, 99, 97, 115, 101]⟩, .int .i64 24), (.string ⟨#[100, 101, 102, 118, 97, 114]⟩, .int .i64 25), (.string ⟨#[100, 101, 102, 99, 111, 110, 115, 116]⟩, .int .i64 26), (.string ⟨#[100, 101, 102, 117, 110]⟩, .int .i64 27), (.string ⟨#[100, 101, 102, 109, 97, 99, 114, 111]⟩, .int .i64 28), (.string ⟨#[105, 110, 116, 101, 114, 97, 99, 116, 105, 118, 101]⟩, .int .i64 29), (.string ⟨#[102, 117, 110, 99, 97, 108, 108]⟩, .int .i64 30), (.string ⟨#[97, 112, 112, 108, 121]⟩, .int .i64 31), (.string ⟨#[109, 97, 112, 99, 97, 114]⟩, .int .i64 32), (.string ⟨#[109, 97, 112, 99]⟩, .int .i64 33), (.string ⟨#[101, 118, 97, 108]⟩, .int .i64 34), (.string ⟨#[116, 104, 114, 111, 119]⟩, .int .i64 35), (.string ⟨#[115, 105, 103, 110, 97, 108]⟩, .int .i64 36), (.string ⟨#[101, 114, 114, 111, 114]⟩, .int .i64 37), (.string ⟨#[113, 117, 105, 116]⟩, .int .i64 38), (.string ⟨#[118, 111, 105, 100, 45, 118, 97, 114, 105, 97, 98, 108, 101]⟩, .int .i64 39), (.string ⟨#[118, 111, 105, 100, 45, 102, 117, 110, 99, 116, 105, 111, 110]⟩, .int .i64 40), (.string ⟨#[119, 114, 111, 110, 103, 45, 116, 121, 112, 101, 45, 97, 114, 103, 117, 109, 101, 110, 116]⟩, .int .i64 41), (.string ⟨#[119, 114, 111, 110, 103, 45, 110, 117, 109, 98, 101, 114, 45, 111, 102, 45, 97, 114, 103, 117, 109, 101, 110, 116, 115]⟩, .int .i64 42), (.string ⟨#[97, 114, 103, 115, 45, 111, 117, 116, 45, 111, 102, 45, 114, 97, 110, 103, 101]⟩, .int .i64 43), (.string ⟨#[97, 114, 105, 116, 104, 45, 101, 114, 114, 111, 114]⟩, .int .i64 44), (.string ⟨#[111, 118, 101, 114, 102, 108, 111, 119, 45, 101, 114, 114, 111, 114]⟩, .int .i64 45), (.string ⟨#[115, 101, 116, 116, 105, 110, 103, 45, 99, 111, 110, 115, 116, 97, 110, 116]⟩, .int .i64 46), (.string ⟨#[110, 111, 45, 99, 97, 116, 99, 104]⟩, .int .i64 47), (.string ⟨#[105, 110, 118, 97, 108, 105, 100, 45, 102, 117, 110, 99, 116, 105, 111, 110]⟩, .int .i64 48), (.string ⟨#[105, 110, 118, 97, 108, 105, 100, 45, 114, 101, 97, 100, 45, 115, 121, 110, 116, 97, 120]⟩, .int .i64 49), (.string ⟨#[101, 110, 100, 45, 111, 102, 45, 102, 105, 108, 101]⟩, .int .i64 50), (.string ⟨#[99, 105, 114, 99, 117, 108, 97, 114, 45, 108, 105, 115, 116]⟩, .int .i64 51), (.string ⟨#[101, 120, 99, 101, 115, 115, 105, 118, 101, 45, 108, 105, 115, 112, 45, 110, 101, 115, 116, 105, 110, 103]⟩, .int .i64 52), (.string ⟨#[109, 101, 109, 111, 114, 121, 45, 102, 117, 108, 108]⟩, .int .i64 53), (.string ⟨#[116, 101, 120, 116, 45, 114, 101, 97, 100, 45, 111, 110, 108, 121]⟩, .int .i64 54), (.string ⟨#[98, 101, 103, 105, 110, 110, 105, 110, 103, 45, 111, 102, 45, 98, 117, 102, 102, 101, 114]⟩, .int .i64 55), (.string ⟨#[101, 110, 100, 45, 111, 102, 45, 98, 117, 102, 102, 101, 114]⟩, .int .i64 56), (.string ⟨#[115, 101, 97, 114, 99, 104, 45, 102, 97, 105, 108, 101, 100]⟩, .int .i64 57), (.string ⟨#[105, 110, 118, 97, 108, 105, 100, 45, 114, 101, 103, 101, 120, 112]⟩, .int .i64 58), (.string ⟨#[117, 115, 101, 114, 45, 101, 114, 114, 111, 114]⟩, .int .i64 59), (.string ⟨#[98, 117, 102, 102, 101, 114, 45, 114, 101, 97, 100, 45, 111, 110, 108, 121]⟩, .int .i64 60), (.string ⟨#[99, 121, 99, 108, 105, 99, 45, 102, 117, 110, 99, 116, 105, 111, 110, 45, 105, 110, 100, 105, 114, 101, 99, 116, 105, 111, 110]⟩, .int .i64 61)]
noncomputable def sy62 : List Value := [.int .i64 0, .int .i64 0, .bool false, .string ⟨#[110, 105, 108]⟩, .bool true, .map none, .int .i64 0, .int .i64 0, .bool false, .string ⟨#[116]⟩, .bool true, .map none, .int .i64 0, .int .i64 0, .bool false, .string ⟨#[113, 117, 111, 116, 101]⟩, .bool true, .map none, .int .i64 0, .int .i64 0, .bool false, .string ⟨#[102, 117, 110, 99, 116, 105, 111, 110]⟩, .bool true, .map none, .int .i64 0, .int .i64 0, .bool false, .string ⟨#[96]⟩, .bool true, .map none, .int .i64 0, .int .i64 0, .bool false, .string ⟨#[44]⟩, .bool true, .map none, .int .i64 0, .int .i64 0, .bool false, .string ⟨#[44, 64]⟩, .bool true, .map none, .int .i64 0, .int .i64 0, .bool false, .string ⟨#[108, 97, 109, 98, 100, 97]⟩, .bool true, .map none, .int .i64 0, .int .i64 0, .bool false, .string ⟨#[99, 108, 111, 115, 117, 114, 101]⟩, .bool true, .map none, .int .i64 0, .int .i64 0, .bool false, .string ⟨#[109, 97, 99, 114, 111]⟩, .bool true, .map none, .int .i64 0, .int .i64 0, .bool false, .string ⟨#[38, 114, 101, 115, 116]⟩, .bool true, .map none, .int .i64 0, .int .i64 0, .bool false, .string ⟨#[38, 111, 112, 116, 105, 111, 110, 97, 108]⟩, .bool true, .map none, .int .i64 0, .int .i64 0, .bool false, .string ⟨#[105, 102]⟩, .bool true, .map none, .int .i64 0, .int .i64 0, .bool false, .string ⟨#[99, 111, 110, 100]⟩, .bool true, .map none, .int .i64 0, .int .i64 0, .bool false, .string ⟨#[97, 110, 100]⟩, .bool true, .map none, .int .i64 0, .int .i64 0, .bool false, .string ⟨#[111, 114]⟩, .bool true, .map none, .int .i64 0, .int .i64 0, .bool false, .string ⟨#[119, 104, 105, 108, 101]⟩, .bool true, .map none, .int .i64 0, .int .i64 0, .bool false, .string ⟨#[112, 114, 111, 103, 110]⟩, .bool true, .map none, .int .i64 0, .int .i64 0, .bool false, .string ⟨#[112, 114, 111, 103, 49]⟩, .bool true, .map none, .int .i64 0, .int .i64 0, .bool false, .string ⟨#[115, 101, 116, 113]⟩, .bool true, .map none, .int .i64 0, .int .i64 0, .bool false, .string ⟨#[108, 101, 116]⟩, .bool true, .map none, .int .i64 0, .int .i64 0, .bool false, .string ⟨#[108, 101, 116, 42]⟩, .bool true, .map none, .int .i64 0, .int .i64 0, .bool false, .string ⟨#[99, 97, 116, 99, 104]⟩, .bool true, .map none, .int .i64 0, .int .i64 0, .bool false, .string ⟨#[117, 110, 119, 105, 110, 100, 45, 112, 114, 111, 116, 101, 99, 116]⟩, .bool true, .map none, .int .i64 0, .int .i64 0, .bool false, .string ⟨#[99, 111, 110, 100, 105, 116, 105, 111, 110, 45, 99, 97, 115, 101]⟩, .bool true, .map none, .int .i64 0, .int .i64 0, .bool false, .string ⟨#[100, 101, 102, 118, 97, 114]⟩, .bool true, .map none, .int .i64 0, .int .i64 0, .bool false, .string ⟨#[100, 101, 102, 99, 111, 110, 115, 116]⟩, .bool true, .map none, .int .i64 0, .int .i64 0, .bool false, .string ⟨#[100, 101, 102, 117, 110]⟩, .bool true, .map none, .int .i64 0, .int .i64 0, .bool false, .string ⟨#[100, 101, 102, 109, 97, 99, 114, 111]⟩, .bool true, .map none, .int .i64 0, .int .i64 0, .bool false, .string ⟨#[105, 110, 116, 101, 114, 97, 99, 116, 105, 118, 101]⟩, .bool true, .map none, .int .i64 0, .int .i64 0, .bool false, .string ⟨#[102, 117, 110, 99, 97, 108, 108]⟩, .bool true, .map none, .int .i64 0, .int .i64 0, .bool false, .string ⟨#[97, 112, 112, 108, 121]⟩, .bool true, .map none, .int .i64 0, .int .i64 0, .bool false, .string ⟨#[109, 97, 112, 99, 97, 114]⟩, .bool true, .map none, .int .i64 0, .int .i64 0, .bool false, .string ⟨#[109, 97, 112, 99]⟩, .bool true, .map none, .int .i64 0, .int .i64 0, .bool false, .string ⟨#[101, 118, 97, 108]⟩, .bool true, .map none, .int .i64 0, .int .i64 0, .bool false, .string ⟨#[116, 104, 114, 111, 119]⟩, .bool true, .map none, .int .i64 0, .int .i64 0, .bool false, .string ⟨#[115, 105, 103, 110, 97, 108]⟩, .bool true, .map none, .int .i64 0, .int .i64 0, .bool false, .string ⟨#[101, 114, 114, 111, 114]⟩, .bool true, .map none, .int .i64 0, .int .i64 0, .bool false, .string ⟨#[113, 117, 105, 116]⟩, .bool true, .map none, .int .i64 0, .int .i64 0, .bool false, .string ⟨#[118, 111, 105, 100, 45, 118, 97, 114, 105, 97, 98, 108, 101]⟩, .bool true, .map none, .int .i64 0, .int .i64 0, .bool false, .string ⟨#[118, 111, 105, 100, 45, 102, 117, 110, 99, 116, 105, 111, 110]⟩, .bool true, .map none, .int .i64 0, .int .i64 0, .bool false, .string ⟨#[119, 114, 111, 110, 103, 45, 116, 121, 112, 101, 45, 97, 114, 103, 117, 109, 101, 110, 116]⟩, .bool true, .map none, .int .i64 0, .int .i64 0, .bool false, .string ⟨#[119, 114, 111, 110, 103, 45, 110, 117, 109, 98, 101, 114, 45, 111, 102, 45, 97, 114, 103, 117, 109, 101, 110, 116, 115]⟩, .bool true, .map none, .int .i64 0, .int .i64 0, .bool false, .string ⟨#[97, 114, 103, 115, 45, 111, 117, 116, 45, 111, 102, 45, 114, 97, 110, 103, 101]⟩, .bool true, .map none, .int .i64 0, .int .i64 0, .bool false, .string ⟨#[97, 114, 105, 116, 104, 45, 101, 114, 114, 111, 114]⟩, .bool true, .map none, .int .i64 0, .int .i64 0, .bool false, .string ⟨#[111, 118, 101, 114, 102, 108, 111, 119, 45, 101, 114, 114, 111, 114]⟩, .bool true, .map none, .int .i64 0, .int .i64 0, .bool false, .string ⟨#[115, 101, 116, 116, 105, 110, 103, 45, 99, 111, 110, 115, 116, 97, 110, 116]⟩, .bool true, .map none, .int .i64 0, .int .i64 0, .bool false, .string ⟨#[110, 111, 45, 99, 97, 116, 99, 104]⟩, .bool true, .map none, .int .i64 0, .int .i64 0, .bool false, .string ⟨#[105, 110, 118, 97, 108, 105, 100, 45, 102, 117, 110, 99, 116, 105, 111, 110]⟩, .bool true, .map none, .int .i64 0, .int .i64 0, .bool false, .string ⟨#[105, 110, 118, 97, 108, 105, 100, 45, 114, 101, 97, 100, 45, 115, 121, 110, 116, 97, 120]⟩, .bool true, .map none, .int .i64 0, .int .i64 0, .bool false, .string ⟨#[101, 110, 100, 45, 111, 102, 45, 102, 105, 108, 101]⟩, .bool true, .map none, .int .i64 0, .int .i64 0, .bool false, .string ⟨#[99, 105, 114, 99, 117, 108, 97, 114, 45, 108, 105, 115, 116]⟩, .bool true, .map none, .int .i64 0, .int .i64 0, .bool false, .string ⟨#[101, 120, 99, 101, 115, 115, 105, 118, 101, 45, 108, 105, 115, 112, 45, 110, 101, 115, 116, 105, 110, 103]⟩, .bool true, .map none, .int .i64 0, .int .i64 0, .bool false, .string ⟨#[109, 101, 109, 111, 114, 121, 45, 102, 117, 108, 108]⟩, .bool true, .map none, .int .i64 0, .int .i64 0, .bool false, .string ⟨#[116, 101, 120, 116, 45, 114, 101, 97, 100, 45, 111, 110, 108, 121]⟩, .bool true, .map none, .int .i64 0, .int .i64 0, .bool false, .string ⟨#[98, 101, 103, 105, 110, 110, 105, 110, 103, 45, 111, 102, 45, 98, 117, 102, 102, 101, 114]⟩, .bool true, .map none, .int .i64 0, .int .i64 0, .bool false, .string ⟨#[101, 110, 100, 45, 111, 102, 45, 98, 117, 102, 102, 101, 114]⟩, .bool true, .map none, .int .i64 0, .int .i64 0, .bool false, .string ⟨#[115, 101, 97, 114, 99, 104, 45, 102, 97, 105, 108, 101, 100]⟩, .bool true, .map none, .int .i64 0, .int .i64 0, .bool false, .string ⟨#[105, 110, 118, 97, 108, 105, 100, 45, 114, 101, 103, 101, 120, 112]⟩, .bool true, .map none, .int .i64 0, .int .i64 0, .bool false, .string ⟨#[117, 115, 101, 114, 45, 101, 114, 114, 111, 114]⟩, .bool true, .map none, .int .i64 0, .int .i64 0, .bool false, .string ⟨#[98, 117, 102, 102, 101, 114, 45, 114, 101, 97, 100, 45, 111, 110, 108, 121]⟩, .bool true, .map none, .int .i64 0, .int .i64 0, .bool false, .string ⟨#[99, 121, 99, 108, 105, 99, 45, 102, 117, 110, 99, 116, 105, 111, 110, 45, 105, 110, 100, 105, 114, 101, 99, 116, 105, 111, 110]⟩, .bool true, .map none]
noncomputable def es63 : List (Value × Value) := es62 ++ [(.string ⟨#[45]⟩, .int .i64 62)]
noncomputable def sy63 : List Value := sy62 ++ [.int .i64 0, .int .i64 0, .bool false, .string ⟨#[45]⟩, .bool true, .map none]
/-- The table of names: d: has the minus sign been made a symbol? -/
noncomputable def tabL (T M : Nat) (u : Value) (d : Bool) : List Ent := [.at_ T (.row ⟨[u, .map (some M)], 138, false⟩), .sl 196 6 u (if d then 63 else 62) (if d then sy63 else sy62), .at_ M (.ents (if d then es63 else es62) (if d then 63 else 62))]
noncomputable def newT : Tr := ⟨33, [], [], 65, .pointer (some ⟨66, 0, none⟩), [(65, some (.ents es62 62)), (66, some (.row ⟨[.slice (some ⟨191, 0, some 6⟩) 62 62, .map (some 65)], 138, false⟩)), (191, some (.row ⟨sy62, 196, true⟩))], 192⟩
theorem newT_run : newT.run 65 Tryz.prog (noK []) 3000 = true := by kernel_rfl
theorem newT_right : newT.Right 65 Tryz.prog := Tr.right_of noK_right (by kernel_rfl) newT_run
theorem flat_sy : ∀ c ∈ sy62, flatV c = true := by
  have : sy62.all flatV = true := by kernel_rfl
  exact fun c hc => List.all_eq_true.1 this c hc
theorem flat_es : ∀ x ∈ es62, flatV x.1 = true ∧ flatV x.2 = true := by
  have : es62.all (fun x => flatV x.1 && flatV x.2) = true := by kernel_rfl
  intro x hx
  have := List.all_eq_true.1 this x hx
  rwa [Bool.and_eq_true] at this
theorem len_sy : sy62.length = 372 := by kernel_rfl
theorem new_wc {A : Abs} {σ : Mem} (hG : G65 ≤ σ.next) (ha : σ.abs = A) : WC G65 Tryz.prog 33 #[] σ fun v σ' => ∃ T M u, v = .pointer (some ⟨T, 0, none⟩) ∧ Lies G65 A σ.get σ' (tabL T M u false) := by
  obtain ⟨N, hN⟩ : ∃ N, N = σ.next := ⟨_, rfl⟩
  have hc : SCall 65 Tryz.prog 33 #[] newT.pre.mem (.pointer (some ⟨66, 0, none⟩)) newT.post.mem := newT_right.2
  have hpre : ∀ b, newT.pre.mem.get b = none := fun b => by
    have := litE_get [] 65 b
    show (litE [] 65).mem.get b = none
    rw [this]
    split <;> rfl
  have hpost : ∀ b, newT.post.mem.get b = if b < 192 then (match findB b newT.l1 with | some o => o | none => none) else none := fun b => litE_get _ 192 b
  have mv1 : ∀ k, mv G65 65 N (65 + k) = N + k := fun k => by
    unfold mv
    rw [if_neg (by show ¬ 65 + k < 65; omega)]
    omega
  obtain ⟨l, hl⟩ : ∃ l : List (Nat × Blk2), l = [(0, .ents es62 62), (1, .row ⟨[.slice (some ⟨N + 126, 0, some 6⟩) 62 62, .map (some (N + 0))], 138, false⟩), (126, .row ⟨sy62, 196, true⟩)] := ⟨_, rfl⟩
  have hmv : MovedB G65 newT.pre.mem.next σ.next newT.post.mem σ (σ.plus 127 l) := by
    refine ⟨rfl, rfl, fun b hb => plus_old hb, fun b x hb hx => ?_⟩
    have hx := plus_is hb hx
    show ∃ x0, newT.post.mem.get (b - σ.next + 65) = some x0 ∧ RenB (mv G65 65 σ.next) x0 x
    rw [← hN] at hx hb ⊢
    rw [hl] at hx
    simp only [lookB] at hx
    split at hx
    · rename_i e
      cases hx
      rw [e, hpost]
      exact ⟨_, rfl, .ents flat_es⟩
    · split at hx
      · rename_i e
        cases hx
        rw [e, hpost]
        refine ⟨_, rfl, .row ⟨rfl, rfl, rfl, fun i v v' h1 h2 => ?_⟩⟩
        match i, h1, h2 with
        | 0, h1, h2 =>
          cases h1; cases h2
          have := Ren.slice (f := mv G65 65 N) 191 0 62 62 (some 6)
          rwa [show (191 : Nat) = 65 + 126 from rfl, mv1] at this
        | 1, h1, h2 =>
          cases h1; cases h2
          have := Ren.map (f := mv G65 65 N) 65
          rwa [show (65 : Nat) = 65 + 0 from rfl, mv1] at this
        | i + 2, h1, _ => simp at h1
      · split at hx
        · rename_i e
          cases hx
          rw [e, hpost]
          exact ⟨_, rfl, .row (ren_flat flat_sy)⟩
        · cases hx
  have hv : Ren (mv G65 newT.pre.mem.next σ.next) (.pointer (some ⟨66, 0, none⟩)) (.pointer (some ⟨N + 1, 0, none⟩)) := by
    have := Ren.ptr (f := mv G65 65 N) 66 0
    rw [show (66 : Nat) = 65 + 1 from rfl, mv1] at this
    rw [← hN]
    exact this
  have hS : SCall G65 Tryz.prog 33 #[] σ (.pointer (some ⟨N + 1, 0, none⟩)) (σ.plus 127 l) :=
    SCall.movedB hc (fun b x hx => by rw [hpre] at hx; cases hx) (Nat.le_refl _) rfl rfl hmv hv
  have n0 := plus_new (σ := σ) (n := 127) (l := l) (k := 0) (by decide)
  have n1 := plus_new (σ := σ) (n := 127) (l := l) (k := 1) (by decide)
  have n2 := plus_new (σ := σ) (n := 127) (l := l) (k := 126) (by decide)
  rw [← hN] at n0 n1 n2
  have n0 : _ = some (Blk2.ents es62 62) := n0.trans (by rw [hl]; rfl)
  have n1 : _ = some (Blk2.row ⟨[.slice (some ⟨N + 126, 0, some 6⟩) 62 62, .map (some (N + 0))], 138, false⟩) := n1.trans (by rw [hl]; rfl)
  have n2 : _ = some (Blk2.row ⟨sy62, 196, true⟩) := n2.trans (by rw [hl]; rfl)
  have hGN : 65 ≤ N := by rw [hN]; exact hG
  refine ⟨_, _, hS, N + 1, N + 0, .slice (some ⟨N + 126, 0, some 6⟩) 62 62, rfl, Lies.plus hG ha ⟨⟨by show 65 ≤ _; omega, n1⟩, .row (c := 62) (by show 65 ≤ _; omega) n2 rfl (by rw [len_sy]) (Nat.le_refl _) (List.take_of_length_le (by rw [len_sy]; decide)), ⟨by show 65 ≤ _; omega, n0⟩, trivial⟩ ?_ ?_⟩
  · refine ⟨fun b hb => ⟨rfl, fun y hy hyb => ?_⟩, fun b hb => ⟨rfl, fun y hy hyb => ?_⟩, fun b hb => ⟨rfl, fun y hy _ => by cases hy⟩, trivial⟩
    · cases hb
      simp only [List.mem_cons, List.mem_nil_iff, or_false] at hy
      rcases hy with rfl | rfl
      · simp [Ent.blk, blkOf] at hyb
      · simp [Ent.blk] at hyb
    · have hb : N + 126 = b := by simpa [Ent.blk, blkOf] using hb
      subst hb
      simp only [List.mem_cons, List.mem_nil_iff, or_false] at hy
      subst hy
      simp [Ent.blk] at hyb
  · intro x hx b hb
    rw [← hN]
    simp only [tabL, List.mem_cons, List.mem_nil_iff, or_false] at hx
    rcases hx with rfl | rfl | rfl
    · have : N + 1 = b := by simpa [Ent.blk] using hb
      omega
    · have : N + 126 = b := by simpa [Ent.blk, blkOf] using hb
      omega
    · have : N + 0 = b := by simpa [Ent.blk] using hb
      omega
section
variable {A : Abs} {σ : Mem} {F : Nat → Option Blk2} {L : List Ent} {T M : Nat} {u : Value} {d : Bool}
theorem valid_run : (match doCall 16 Tryz.prog (ev 16 Tryz.prog (noK []) 3000) 63 [.string ⟨#[45]⟩].toArray (startE 16 (noK []).rows) with | some (u, _) => eqV 3 u (.bool true) | _ => false) = true := by kernel_rfl
theorem len_run : (match doCall 16 Tryz.prog (ev 16 Tryz.prog (noK []) 3000) 69 [.string ⟨#[45]⟩].toArray (startE 16 (noK []).rows) with | some (u, _) => eqV 3 u (.int .i64 1) | _ => false) = true := by kernel_rfl
theorem valid_m : SCall G65 Tryz.prog 63 #[.string ⟨#[45]⟩] σ (.bool true) σ := closed_scall noK_right valid_run rfl rfl (fun _ _ h => by cases h) (fun _ _ h => by cases h) (fun _ _ h => by cases h) σ (fun _ _ h => by cases h)
theorem len_m : SCall G65 Tryz.prog 69 #[.string ⟨#[45]⟩] σ (.int .i64 1) σ := closed_scall noK_right len_run rfl rfl (fun _ _ h => by cases h) (fun _ _ h => by cases h) (fun _ _ h => by cases h) σ (fun _ _ h => by cases h)
set_option maxHeartbeats 4000000 in
theorem intern_wc (H : Lies G65 A F σ (tabL T M u d ++ L)) : WC G65 Tryz.prog 85 #[.pointer (some ⟨T, 0, none⟩), .string ⟨#[45]⟩] σ fun v σ' => v = .tuple #[.int .i64 62, .int .i64 0] ∧ ∃ u', Lies G65 A F σ' (tabL T M u' true ++ L) := by
  cases d
  · replace H : Lies G65 A F σ (.at_ T (.row ⟨[u, .map (some M)], 138, false⟩) :: .sl 196 6 u 62 sy62 :: .at_ M (.ents es62 62) :: L) := H
    refine WC.enter (fn := Tryz.f85) Tryz.func85 rfl ?_
    refine W.rg [(0, .pointer (some ⟨T, 0, none⟩)), (1, .string ⟨#[45]⟩)] fun TA => ?_
    refine W.seq (W.region ?_)
    iterate 2 refine RW.v ?_
    refine RW.nil ?_
    refine W.rg [(0, .pointer (some ⟨T, 0, none⟩)), (1, .string ⟨#[45]⟩)] fun TA => ?_
    refine W.seq ?_
    refine W.seq (W.region ?_)
    iterate 2 refine RW.v ?_
    refine RW.cl ?_
    refine WC.enter (fn := Tryz.f127) Tryz.func127 rfl ?_
    refine W.rg [(0, .pointer (some ⟨T, 0, none⟩)), (1, .string ⟨#[45]⟩)] fun TA => ?_
    refine W.seq (W.region ?_)
    refine RW.v ?_
    refine RW.nil ?_
    refine W.rg [(0, .pointer (some ⟨T, 0, none⟩)), (1, .string ⟨#[45]⟩)] fun TA => ?_
    refine W.seq ?_
    refine W.block ?_
    refine W.seq (W.region ?_)
    refine RW.v ?_
    refine RW.cl ?_
    refine WC.enter (fn := Tryz.f159) Tryz.func159 rfl ?_
    refine W.rg [(0, .pointer (some ⟨T, 0, none⟩))] fun TA => ?_
    refine W.seq (W.region ?_)
    refine RW.v ?_
    refine RW.nil ?_
    refine W.rg [(0, .pointer (some ⟨T, 0, none⟩))] fun TA => ?_
    refine W.seq (W.region ?_)
    iterate 3 refine RW.v ?_
    refine RW.val (by rfl) (by kernel_rfl) rfl (by kernel_rfl) ?_
    refine RW.val (by rfl) (by kernel_rfl) rfl (by kernel_rfl) ?_
    refine RW.val (by rfl) (by kernel_rfl) rfl (by kernel_rfl) ?_
    refine RW.ldL H 0 1 (by rfl) (by kernel_rfl) rfl rfl rfl rfl rfl (by kernel_rfl) ?_
    refine RW.val (by rfl) (by kernel_rfl) rfl (by kernel_rfl) ?_
    iterate 2 refine RW.v ?_
    refine RW.nil ?_
    refine W.rg [(2, .bool true)] fun TA => ?_
    refine W.ret ?_
    refine endG (by rfl) (by exact resL_tmp rfl) ?_
    iterate 2 refine RW.v ?_
    refine RW.nil ?_
    refine W.rg [(1, .string ⟨#[45]⟩), (5, .bool false)] fun TA => ?_
    refine W.c0 ?_
    refine W.seq (W.region ?_)
    refine RW.v ?_
    refine RW.call (by kernel_rfl) (by kernel_rfl) rfl rfl rfl (by kernel_rfl) (by kernel_rfl) ⟨_, _, valid_m, ?_⟩
    iterate 2 refine RW.v ?_
    refine RW.nil ?_
    refine W.rg [(1, .string ⟨#[45]⟩), (9, .bool false)] fun TA => ?_
    refine W.c0 ?_
    refine W.seq (W.region ?_)
    refine RW.v ?_
    refine RW.call (by kernel_rfl) (by kernel_rfl) rfl rfl rfl (by kernel_rfl) (by kernel_rfl) ⟨_, _, len_m, ?_⟩
    iterate 2 refine RW.v ?_
    refine RW.nil ?_
    refine W.rg [(13, .bool false)] fun TA => ?_
    refine W.c0 ?_
    refine W.skip ?_
    refine blkQ_normal ?_
    refine W.seq (W.region ?_)
    refine RW.v ?_
    refine RW.nil ?_
    refine W.rg [(4, .int .i64 0)] fun TA => ?_
    refine W.ret ?_
    refine endG (by rfl) (by exact resL_tmp rfl) ?_
    refine RW.v ?_
    refine RW.nil ?_
    refine W.rg [(0, .pointer (some ⟨T, 0, none⟩)), (1, .string ⟨#[45]⟩), (6, .int .i64 0)] fun TA => ?_
    refine W.seq (W.region ?_)
    iterate 2 refine RW.v ?_
    refine RW.nil ?_
    refine W.rg [(0, .pointer (some ⟨T, 0, none⟩)), (1, .string ⟨#[45]⟩), (6, .int .i64 0), (13, .bool false)] fun TA => ?_
    refine W.c0 ?_
    refine W.skip ?_
    refine W.seq ?_
    refine W.seq (W.region ?_)
    iterate 3 refine RW.v ?_
    refine RW.ld H 0 1 ?_
    refine RW.v ?_
    refine RW.lkL H 2 (.tuple #[.int .i64 0, .bool false]) ?_
    iterate 5 refine RW.v ?_
    refine RW.nil ?_
    refine W.rg [(0, .pointer (some ⟨T, 0, none⟩)), (1, .string ⟨#[45]⟩), (7, .int .i64 0), (8, .bool false)] fun TA => ?_
    refine W.seq (W.region ?_)
    refine RW.v ?_
    refine RW.nil ?_
    refine W.rg [(0, .pointer (some ⟨T, 0, none⟩)), (1, .string ⟨#[45]⟩), (7, .int .i64 0), (24, .bool false)] fun TA => ?_
    refine W.c0 ?_
    refine W.skip ?_
    refine W.seq ?_
    refine W.seq (W.region ?_)
    iterate 3 refine RW.v ?_
    refine RW.ld H 0 1 ?_
    refine RW.len (by kernel_rfl) (by kernel_rfl) rfl rfl rfl rfl ((H.sl 1 rfl).len (by kernel_rfl)) (by kernel_rfl) ?_
    refine RW.v ?_
    refine RW.nil ?_
    refine W.rg [(0, .pointer (some ⟨T, 0, none⟩)), (1, .string ⟨#[45]⟩), (31, .bool false)] fun TA => ?_
    refine W.c0 ?_
    refine W.skip ?_
    refine W.seq (W.region ?_)
    iterate 2 refine RW.v ?_
    refine RW.cl ?_
    refine WC.enter (fn := Tryz.f113) Tryz.func113 rfl ?_
    refine W.rg [(0, .pointer (some ⟨T, 0, none⟩)), (1, .string ⟨#[45]⟩), (2, .bool true)] fun TA => ?_
    refine W.seq (W.region ?_)
    refine RW.v ?_
    refine RW.nil ?_
    refine W.rg [(0, .pointer (some ⟨T, 0, none⟩)), (1, .string ⟨#[45]⟩), (2, .bool true)] fun TA => ?_
    refine W.seq (W.region ?_)
    iterate 3 refine RW.v ?_
    refine RW.ld H 0 1 ?_
    refine RW.len (by kernel_rfl) (by kernel_rfl) rfl rfl rfl rfl ((H.sl 1 rfl).len (by kernel_rfl)) (by kernel_rfl) ?_
    refine RW.v ?_
    refine RW.nil ?_
    refine W.rg [(0, .pointer (some ⟨T, 0, none⟩)), (1, .string ⟨#[45]⟩), (2, .bool true), (7, .int .i64 62)] fun TA => ?_
    refine W.seq (W.region ?_)
    iterate 4 refine RW.v ?_
    refine RW.ld H 0 1 ?_
    iterate 2 refine RW.v ?_
    refine RW.val (v := .agg #[.int .i64 0, .int .i64 0, .bool false, .string ⟨#[45]⟩, .bool true, .map none]) (by kernel_rfl) (by kernel_rfl) (by kernel_rfl) (by kernel_rfl) ?_
    refine RW.mkL H (x := .row ⟨[.int .i64 0, .int .i64 0, .bool false, .string ⟨#[45]⟩, .bool true, .map none], 196, false⟩) (fm := fun b => .slice (some ⟨b, 0, none⟩) 1 1) (by kernel_rfl) (by kernel_rfl) (by kernel_rfl) (by kernel_rfl) ?_
    clear H; intro _ b1 _ H
    refine RW.appL H 2 0 (n := 1) (e2 := 196) (by kernel_rfl) (by kernel_rfl) rfl rfl rfl rfl rfl rfl rfl rfl (by kernel_rfl) (by kernel_rfl) (by kernel_rfl) (by decide) (by decide) rfl rfl (by omega) (by kernel_rfl) ?_
    clear H; intro _ v2 _ H
    dsimp only [setL, delL] at H
    iterate 2 refine RW.v ?_
    refine RW.stL H 0 (vs := [v2]) (cs' := [v2, .map (some M)]) (by kernel_rfl) (by kernel_rfl) rfl rfl rfl (H.sl 1 rfl).one (gr_all (H.sl 1 rfl)) (by kernel_rfl) (Nat.le_of_ble_eq_true rfl) rfl (by kernel_rfl) ?_
    clear H; intro _ _ H; dsimp only [setL, delL] at H
    refine RW.nil ?_
    refine W.rg [(0, .pointer (some ⟨T, 0, none⟩)), (1, .string ⟨#[45]⟩), (2, .bool true), (7, .int .i64 62)] fun TA => ?_
    refine W.seq ?_
    refine W.seq (W.region ?_)
    refine RW.v ?_
    refine RW.nil ?_
    refine W.rg [(0, .pointer (some ⟨T, 0, none⟩)), (1, .string ⟨#[45]⟩), (7, .int .i64 62), (25, .bool true)] fun TA => ?_
    refine W.c1 ?_
    refine W.region ?_
    iterate 3 refine RW.v ?_
    refine RW.ld H 0 1 ?_
    iterate 2 refine RW.v ?_
    refine RW.upL H 2 (es62 ++ [(.string ⟨#[45]⟩, .int .i64 62)]) 63 ?_
    clear H; intro _ _ H; dsimp only [setL, delL] at H
    refine RW.nil ?_
    refine W.rg [(7, .int .i64 62)] fun TA => ?_
    refine W.seq (W.region ?_)
    iterate 2 refine RW.v ?_
    refine RW.nil ?_
    refine W.rg [(6, .int .i64 62)] fun TA => ?_
    refine W.ret ?_
    refine endG (by rfl) (by exact resL_tmp rfl) ?_
    iterate 2 refine RW.v ?_
    refine RW.nil ?_
    refine W.rg [(4, .int .i64 62), (5, .int .i64 0)] fun TA => ?_
    refine W.ret ?_
    refine endG (by rfl) (by exact resL_tmp (by exact resL_tmp rfl)) ?_
    exact ⟨rfl, _, H⟩
  · replace H : Lies G65 A F σ (.at_ T (.row ⟨[u, .map (some M)], 138, false⟩) :: .sl 196 6 u 63 sy63 :: .at_ M (.ents es63 63) :: L) := H
    refine WC.enter (fn := Tryz.f85) Tryz.func85 rfl ?_
    refine W.rg [(0, .pointer (some ⟨T, 0, none⟩)), (1, .string ⟨#[45]⟩)] fun TA => ?_
    refine W.seq (W.region ?_)
    iterate 2 refine RW.v ?_
    refine RW.nil ?_
    refine W.rg [(0, .pointer (some ⟨T, 0, none⟩)), (1, .string ⟨#[45]⟩)] fun TA => ?_
    refine W.seq ?_
    refine W.seq (W.region ?_)
    iterate 2 refine RW.v ?_
    refine RW.cl ?_
    refine WC.enter (fn := Tryz.f127) Tryz.func127 rfl ?_
    refine W.rg [(0, .pointer (some ⟨T, 0, none⟩)), (1, .string ⟨#[45]⟩)] fun TA => ?_
    refine W.seq (W.region ?_)
    refine RW.v ?_
    refine RW.nil ?_
    refine W.rg [(0, .pointer (some ⟨T, 0, none⟩)), (1, .string ⟨#[45]⟩)] fun TA => ?_
    refine W.seq ?_
    refine W.block ?_
    refine W.seq (W.region ?_)
    refine RW.v ?_
    refine RW.cl ?_
    refine WC.enter (fn := Tryz.f159) Tryz.func159 rfl ?_
    refine W.rg [(0, .pointer (some ⟨T, 0, none⟩))] fun TA => ?_
    refine W.seq (W.region ?_)
    refine RW.v ?_
    refine RW.nil ?_
    refine W.rg [(0, .pointer (some ⟨T, 0, none⟩))] fun TA => ?_
    refine W.seq (W.region ?_)
    iterate 3 refine RW.v ?_
    refine RW.val (by rfl) (by kernel_rfl) rfl (by kernel_rfl) ?_
    refine RW.val (by rfl) (by kernel_rfl) rfl (by kernel_rfl) ?_
    refine RW.val (by rfl) (by kernel_rfl) rfl (by kernel_rfl) ?_
    refine RW.ldL H 0 1 (by rfl) (by kernel_rfl) rfl rfl rfl rfl rfl (by kernel_rfl) ?_
    refine RW.val (by rfl) (by kernel_rfl) rfl (by kernel_rfl) ?_
    iterate 2 refine RW.v ?_
    refine RW.nil ?_
    refine W.rg [(2, .bool true)] fun TA => ?_
    refine W.ret ?_
    refine endG (by rfl) (by exact resL_tmp rfl) ?_
    iterate 2 refine RW.v ?_
    refine RW.nil ?_
    refine W.rg [(1, .string ⟨#[45]⟩), (5, .bool false)] fun TA => ?_
    refine W.c0 ?_
    refine W.seq (W.region ?_)
    refine RW.v ?_
    refine RW.call (by kernel_rfl) (by kernel_rfl) rfl rfl rfl (by kernel_rfl) (by kernel_rfl) ⟨_, _, valid_m, ?_⟩
    iterate 2 refine RW.v ?_
    refine RW.nil ?_
    refine W.rg [(1, .string ⟨#[45]⟩), (9, .bool false)] fun TA => ?_
    refine W.c0 ?_
    refine W.seq (W.region ?_)
    refine RW.v ?_
    refine RW.call (by kernel_rfl) (by kernel_rfl) rfl rfl rfl (by kernel_rfl) (by kernel_rfl) ⟨_, _, len_m, ?_⟩
    iterate 2 refine RW.v ?_
    refine RW.nil ?_
    refine W.rg [(13, .bool false)] fun TA => ?_
    refine W.c0 ?_
    refine W.skip ?_
    refine blkQ_normal ?_
    refine W.seq (W.region ?_)
    refine RW.v ?_
    refine RW.nil ?_
    refine W.rg [(4, .int .i64 0)] fun TA => ?_
    refine W.ret ?_
    refine endG (by rfl) (by exact resL_tmp rfl) ?_
    refine RW.v ?_
    refine RW.nil ?_
    refine W.rg [(0, .pointer (some ⟨T, 0, none⟩)), (1, .string ⟨#[45]⟩), (6, .int .i64 0)] fun TA => ?_
    refine W.seq (W.region ?_)
    iterate 2 refine RW.v ?_
    refine RW.nil ?_
    refine W.rg [(0, .pointer (some ⟨T, 0, none⟩)), (1, .string ⟨#[45]⟩), (6, .int .i64 0), (13, .bool false)] fun TA => ?_
    refine W.c0 ?_
    refine W.skip ?_
    refine W.seq ?_
    refine W.seq (W.region ?_)
    iterate 3 refine RW.v ?_
    refine RW.ld H 0 1 ?_
    refine RW.v ?_
    refine RW.lkL H 2 (.tuple #[.int .i64 62, .bool true]) ?_
    iterate 5 refine RW.v ?_
    refine RW.nil ?_
    refine W.rg [(0, .pointer (some ⟨T, 0, none⟩)), (1, .string ⟨#[45]⟩), (7, .int .i64 62), (8, .bool true)] fun TA => ?_
    refine W.seq (W.region ?_)
    refine RW.v ?_
    refine RW.nil ?_
    refine W.rg [(0, .pointer (some ⟨T, 0, none⟩)), (1, .string ⟨#[45]⟩), (7, .int .i64 62), (24, .bool true)] fun TA => ?_
    refine W.c1 ?_
    refine W.seq (W.region ?_)
    iterate 3 refine RW.v ?_
    refine RW.nil ?_
    refine W.rg [(4, .int .i64 62), (5, .int .i64 0)] fun TA => ?_
    refine W.ret ?_
    refine seqQ_ret ?_
    refine endG (by rfl) (by exact resL_tmp (by exact resL_tmp rfl)) ?_
    exact ⟨rfl, _, H⟩
set_option maxHeartbeats 4000000 in
theorem name0_wc (H : Lies G65 A F σ (tabL T M u d ++ L)) : WC G65 Tryz.prog 88 #[.pointer (some ⟨T, 0, none⟩), .int .i64 0] σ fun v σ' => v = .tuple #[.string ⟨#[110, 105, 108]⟩, .bool true] ∧ ∃ u', Lies G65 A F σ' (tabL T M u' d ++ L) := by
  cases d
  · replace H : Lies G65 A F σ (.at_ T (.row ⟨[u, .map (some M)], 138, false⟩) :: .sl 196 6 u 62 sy62 :: .at_ M (.ents es62 62) :: L) := H
    refine WC.enter (fn := Tryz.f88) Tryz.func88 rfl ?_
    refine W.rg [(0, .pointer (some ⟨T, 0, none⟩)), (1, .int .i64 0)] fun TA => ?_
    refine W.seq (W.region ?_)
    iterate 2 refine RW.v ?_
    refine RW.nil ?_
    refine W.rg [(0, .pointer (some ⟨T, 0, none⟩)), (1, .int .i64 0)] fun TA => ?_
    refine W.seq ?_
    refine W.seq (W.region ?_)
    iterate 2 refine RW.v ?_
    refine RW.cl ?_
    refine WC.enter (fn := Tryz.f130) Tryz.func130 rfl ?_
    refine W.rg [(0, .pointer (some ⟨T, 0, none⟩)), (1, .int .i64 0)] fun TA => ?_
    refine W.seq (W.region ?_)
    refine RW.v ?_
    refine RW.nil ?_
    refine W.rg [(0, .pointer (some ⟨T, 0, none⟩)), (1, .int .i64 0)] fun TA => ?_
    refine W.seq (W.region ?_)
    refine RW.v ?_
    refine RW.cl ?_
    refine WC.enter (fn := Tryz.f159) Tryz.func159 rfl ?_
    refine W.rg [(0, .pointer (some ⟨T, 0, none⟩))] fun TA => ?_
    refine W.seq (W.region ?_)
    refine RW.v ?_
    refine RW.nil ?_
    refine W.rg [(0, .pointer (some ⟨T, 0, none⟩))] fun TA => ?_
    refine W.seq (W.region ?_)
    iterate 3 refine RW.v ?_
    refine RW.val (by rfl) (by kernel_rfl) rfl (by kernel_rfl) ?_
    refine RW.val (by rfl) (by kernel_rfl) rfl (by kernel_rfl) ?_
    refine RW.val (by rfl) (by kernel_rfl) rfl (by kernel_rfl) ?_
    refine RW.ldL H 0 1 (by rfl) (by kernel_rfl) rfl rfl rfl rfl rfl (by kernel_rfl) ?_
    refine RW.val (by rfl) (by kernel_rfl) rfl (by kernel_rfl) ?_
    iterate 2 refine RW.v ?_
    refine RW.nil ?_
    refine W.rg [(2, .bool true)] fun TA => ?_
    refine W.ret ?_
    refine endG (by rfl) (by exact resL_tmp rfl) ?_
    refine RW.v ?_
    refine RW.val (by rfl) (by kernel_rfl) rfl (by kernel_rfl) ?_
    refine RW.val (by rfl) (by kernel_rfl) rfl (by kernel_rfl) ?_
    iterate 2 refine RW.v ?_
    refine RW.val (by rfl) (by kernel_rfl) rfl (by kernel_rfl) ?_
    refine RW.val (by rfl) (by kernel_rfl) rfl (by kernel_rfl) ?_
    refine RW.val (by rfl) (by kernel_rfl) rfl (by kernel_rfl) ?_
    refine RW.val (by rfl) (by kernel_rfl) rfl (by kernel_rfl) ?_
    refine RW.ldL H 0 1 (by rfl) (by kernel_rfl) rfl rfl rfl rfl rfl (by kernel_rfl) ?_
    refine RW.len (by rfl) (by kernel_rfl) rfl rfl rfl rfl ((H.sl 1 rfl).len (by kernel_rfl)) (by kernel_rfl) ?_
    refine RW.val (by rfl) (by kernel_rfl) rfl (by kernel_rfl) ?_
    iterate 2 refine RW.v ?_
    refine RW.nil ?_
    refine W.rg [(4, .bool true)] fun TA => ?_
    refine W.ret ?_
    refine endG (by rfl) (by exact resL_tmp rfl) ?_
    refine RW.v ?_
    refine RW.nil ?_
    refine W.rg [(0, .pointer (some ⟨T, 0, none⟩)), (1, .int .i64 0), (9, .bool false)] fun TA => ?_
    refine W.c0 ?_
    refine W.skip ?_
    refine W.seq (W.region ?_)
    iterate 3 refine RW.v ?_
    refine RW.ld H 0 1 ?_
    refine RW.v ?_
    refine RW.idxG H 1 rfl (by kernel_rfl) (by kernel_rfl) rfl Tryz.underlying136 (by kernel_rfl) rfl rfl ⟨by decide, by decide⟩ (by kernel_rfl) ?_
    intro b1 q2 r3 hF4 hE5
    replace hE5 : (r3.cs.drop q2).take 6 = [.int .i64 0, .int .i64 0, .bool false, .string ⟨#[110, 105, 108]⟩, .bool true, .map none] := hE5.trans (by kernel_rfl)
    refine RW.v ?_
    refine RW.loads 1 (by kernel_rfl) (by kernel_rfl) rfl rfl (hF4) (sub_take hE5 3 1 (by decide)) rfl (by kernel_rfl) ?_
    iterate 2 refine RW.v ?_
    refine RW.nil ?_
    refine W.rg [(4, .string ⟨#[110, 105, 108]⟩), (5, .bool true)] fun TA => ?_
    refine W.ret ?_
    refine endG (by rfl) (by exact resL_tmp (by exact resL_tmp rfl)) ?_
    exact ⟨rfl, _, H⟩
  · replace H : Lies G65 A F σ (.at_ T (.row ⟨[u, .map (some M)], 138, false⟩) :: .sl 196 6 u 63 sy63 :: .at_ M (.ents es63 63) :: L) := H
    refine WC.enter (fn := Tryz.f88) Tryz.func88 rfl ?_
    refine W.rg [(0, .pointer (some ⟨T, 0, none⟩)), (1, .int .i64 0)] fun TA => ?_
    refine W.seq (W.region ?_)
    iterate 2 refine RW.v ?_
    refine RW.nil ?_
    refine W.rg [(0, .pointer (some ⟨T, 0, none⟩)), (1, .int .i64 0)] fun TA => ?_
    refine W.seq ?_
    refine W.seq (W.region ?_)
    iterate 2 refine RW.v ?_
    refine RW.cl ?_
    refine WC.enter (fn := Tryz.f130) Tryz.func130 rfl ?_
    refine W.rg [(0, .pointer (some ⟨T, 0, none⟩)), (1, .int .i64 0)] fun TA => ?_
    refine W.seq (W.region ?_)
    refine RW.v ?_
    refine RW.nil ?_
    refine W.rg [(0, .pointer (some ⟨T, 0, none⟩)), (1, .int .i64 0)] fun TA => ?_
    refine W.seq (W.region ?_)
    refine RW.v ?_
    refine RW.cl ?_
    refine WC.enter (fn := Tryz.f159) Tryz.func159 rfl ?_
    refine W.rg [(0, .pointer (some ⟨T, 0, none⟩))] fun TA => ?_
    refine W.seq (W.region ?_)
    refine RW.v ?_
    refine RW.nil ?_
    refine W.rg [(0, .pointer (some ⟨T, 0, none⟩))] fun TA => ?_
    refine W.seq (W.region ?_)
    iterate 3 refine RW.v ?_
    refine RW.val (by rfl) (by kernel_rfl) rfl (by kernel_rfl) ?_
    refine RW.val (by rfl) (by kernel_rfl) rfl (by kernel_rfl) ?_
    refine RW.val (by rfl) (by kernel_rfl) rfl (by kernel_rfl) ?_
    refine RW.ldL H 0 1 (by rfl) (by kernel_rfl) rfl rfl rfl rfl rfl (by kernel_rfl) ?_
    refine RW.val (by rfl) (by kernel_rfl) rfl (by kernel_rfl) ?_
    iterate 2 refine RW.v ?_
    refine RW.nil ?_
    refine W.rg [(2, .bool true)] fun TA => ?_
    refine W.ret ?_
    refine endG (by rfl) (by exact resL_tmp rfl) ?_
    refine RW.v ?_
    refine RW.val (by rfl) (by kernel_rfl) rfl (by kernel_rfl) ?_
    refine RW.val (by rfl) (by kernel_rfl) rfl (by kernel_rfl) ?_
    iterate 2 refine RW.v ?_
    refine RW.val (by rfl) (by kernel_rfl) rfl (by kernel_rfl) ?_
    refine RW.val (by rfl) (by kernel_rfl) rfl (by kernel_rfl) ?_
    refine RW.val (by rfl) (by kernel_rfl) rfl (by kernel_rfl) ?_
    refine RW.val (by rfl) (by kernel_rfl) rfl (by kernel_rfl) ?_
    refine RW.ldL H 0 1 (by rfl) (by kernel_rfl) rfl rfl rfl rfl rfl (by kernel_rfl) ?_
    refine RW.len (by rfl) (by kernel_rfl) rfl rfl rfl rfl ((H.sl 1 rfl).len (by kernel_rfl)) (by kernel_rfl) ?_
    refine RW.val (by rfl) (by kernel_rfl) rfl (by kernel_rfl) ?_
    iterate 2 refine RW.v ?_
    refine RW.nil ?_
    refine W.rg [(4, .bool true)] fun TA => ?_
    refine W.ret ?_
    refine endG (by rfl) (by exact resL_tmp rfl) ?_
    refine RW.v ?_
    refine RW.nil ?_
    refine W.rg [(0, .pointer (some ⟨T, 0, none⟩)), (1, .int .i64 0), (9, .bool false)] fun TA => ?_
    refine W.c0 ?_
    refine W.skip ?_
    refine W.seq (W.region ?_)
    iterate 3 refine RW.v ?_
    refine RW.ld H 0 1 ?_
    refine RW.v ?_
    refine RW.idxG H 1 rfl (by kernel_rfl) (by kernel_rfl) rfl Tryz.underlying136 (by kernel_rfl) rfl rfl ⟨by decide, by decide⟩ (by kernel_rfl) ?_
    intro b6 q7 r8 hF9 hE10
    replace hE10 : (r8.cs.drop q7).take 6 = [.int .i64 0, .int .i64 0, .bool false, .string ⟨#[110, 105, 108]⟩, .bool true, .map none] := hE10.trans (by kernel_rfl)
    refine RW.v ?_
    refine RW.loads 1 (by kernel_rfl) (by kernel_rfl) rfl rfl (hF9) (sub_take hE10 3 1 (by decide)) rfl (by kernel_rfl) ?_
    iterate 2 refine RW.v ?_
    refine RW.nil ?_
    refine W.rg [(4, .string ⟨#[110, 105, 108]⟩), (5, .bool true)] fun TA => ?_
    refine W.ret ?_
    refine endG (by rfl) (by exact resL_tmp (by exact resL_tmp rfl)) ?_
    exact ⟨rfl, _, H⟩
set_option maxHeartbeats 4000000 in
theorem name62_wc (H : Lies G65 A F σ (tabL T M u true ++ L)) : WC G65 Tryz.prog 88 #[.pointer (some ⟨T, 0, none⟩), .int .i64 62] σ fun v σ' => v = .tuple #[.string ⟨#[45]⟩, .bool true] ∧ ∃ u', Lies G65 A F σ' (tabL T M u' true ++ L) := by
  replace H : Lies G65 A F σ (.at_ T (.row ⟨[u, .map (some M)], 138, false⟩) :: .sl 196 6 u 63 sy63 :: .at_ M (.ents es63 63) :: L) := H
  refine WC.enter (fn := Tryz.f88) Tryz.func88 rfl ?_
  refine W.rg [(0, .pointer (some ⟨T, 0, none⟩)), (1, .int .i64 62)] fun TA => ?_
  refine W.seq (W.region ?_)
  iterate 2 refine RW.v ?_
  refine RW.nil ?_
  refine W.rg [(0, .pointer (some ⟨T, 0, none⟩)), (1, .int .i64 62)] fun TA => ?_
  refine W.seq ?_
  refine W.seq (W.region ?_)
  iterate 2 refine RW.v ?_
  refine RW.cl ?_
  refine WC.enter (fn := Tryz.f130) Tryz.func130 rfl ?_
  refine W.rg [(0, .pointer (some ⟨T, 0, none⟩)), (1, .int .i64 62)] fun TA => ?_
  refine W.seq (W.region ?_)
  refine RW.v ?_
  refine RW.nil ?_
  refine W.rg [(0, .pointer (some ⟨T, 0, none⟩)), (1, .int .i64 62)] fun TA => ?_
  refine W.seq (W.region ?_)
  refine RW.v ?_
  refine RW.cl ?_
  refine WC.enter (fn := Tryz.f159) Tryz.func159 rfl ?_
  refine W.rg [(0, .pointer (some ⟨T, 0, none⟩))] fun TA => ?_
  refine W.seq (W.region ?_)
  refine RW.v ?_
  refine RW.nil ?_
  refine W.rg [(0, .pointer (some ⟨T, 0, none⟩))] fun TA => ?_
  refine W.seq (W.region ?_)
  iterate 3 refine RW.v ?_
  refine RW.val (by rfl) (by kernel_rfl) rfl (by kernel_rfl) ?_
  refine RW.val (by rfl) (by kernel_rfl) rfl (by kernel_rfl) ?_
  refine RW.val (by rfl) (by kernel_rfl) rfl (by kernel_rfl) ?_
  refine RW.ldL H 0 1 (by rfl) (by kernel_rfl) rfl rfl rfl rfl rfl (by kernel_rfl) ?_
  refine RW.val (by rfl) (by kernel_rfl) rfl (by kernel_rfl) ?_
  iterate 2 refine RW.v ?_
  refine RW.nil ?_
  refine W.rg [(2, .bool true)] fun TA => ?_
  refine W.ret ?_
  refine endG (by rfl) (by exact resL_tmp rfl) ?_
  refine RW.v ?_
  refine RW.val (by rfl) (by kernel_rfl) rfl (by kernel_rfl) ?_
  refine RW.val (by rfl) (by kernel_rfl) rfl (by kernel_rfl) ?_
  iterate 2 refine RW.v ?_
  refine RW.val (by rfl) (by kernel_rfl) rfl (by kernel_rfl) ?_
  refine RW.val (by rfl) (by kernel_rfl) rfl (by kernel_rfl) ?_
  refine RW.val (by rfl) (by kernel_rfl) rfl (by kernel_rfl) ?_
  refine RW.val (by rfl) (by kernel_rfl) rfl (by kernel_rfl) ?_
  refine RW.ldL H 0 1 (by rfl) (by kernel_rfl) rfl rfl rfl rfl rfl (by kernel_rfl) ?_
  refine RW.len (by rfl) (by kernel_rfl) rfl rfl rfl rfl ((H.sl 1 rfl).len (by kernel_rfl)) (by kernel_rfl) ?_
  refine RW.val (by rfl) (by kernel_rfl) rfl (by kernel_rfl) ?_
  iterate 2 refine RW.v ?_
  refine RW.nil ?_
  refine W.rg [(4, .bool true)] fun TA => ?_
  refine W.ret ?_
  refine endG (by rfl) (by exact resL_tmp rfl) ?_
  refine RW.v ?_
  refine RW.nil ?_
  refine W.rg [(0, .pointer (some ⟨T, 0, none⟩)), (1, .int .i64 62), (9, .bool false)] fun TA => ?_
  refine W.c0 ?_
  refine W.skip ?_
  refine W.seq (W.region ?_)
  iterate 3 refine RW.v ?_
  refine RW.ld H 0 1 ?_
  refine RW.v ?_
  refine RW.idxG H 1 rfl (by kernel_rfl) (by kernel_rfl) rfl Tryz.underlying136 (by kernel_rfl) rfl rfl ⟨by decide, by decide⟩ (by kernel_rfl) ?_
  intro b1 q2 r3 hF4 hE5
  replace hE5 : (r3.cs.drop q2).take 6 = [.int .i64 0, .int .i64 0, .bool false, .string ⟨#[45]⟩, .bool true, .map none] := hE5.trans (by kernel_rfl)
  refine RW.v ?_
  refine RW.loads 1 (by kernel_rfl) (by kernel_rfl) rfl rfl (hF4) (sub_take hE5 3 1 (by decide)) rfl (by kernel_rfl) ?_
  iterate 2 refine RW.v ?_
  refine RW.nil ?_
  refine W.rg [(4, .string ⟨#[45]⟩), (5, .bool true)] fun TA => ?_
  refine W.ret ?_
  refine endG (by rfl) (by exact resL_tmp (by exact resL_tmp rfl)) ?_
  exact ⟨rfl, _, H⟩
set_option maxHeartbeats 4000000 in
theorem inter62_wc (H : Lies G65 A F σ (tabL T M u true ++ L)) : WC G65 Tryz.prog 89 #[.pointer (some ⟨T, 0, none⟩), .int .i64 62] σ fun v σ' => v = .bool true ∧ ∃ u', Lies G65 A F σ' (tabL T M u' true ++ L) := by
  replace H : Lies G65 A F σ (.at_ T (.row ⟨[u, .map (some M)], 138, false⟩) :: .sl 196 6 u 63 sy63 :: .at_ M (.ents es63 63) :: L) := H
  refine WC.enter (fn := Tryz.f89) Tryz.func89 rfl ?_
  refine W.rg [(0, .pointer (some ⟨T, 0, none⟩)), (1, .int .i64 62)] fun TA => ?_
  refine W.seq (W.region ?_)
  refine RW.v ?_
  refine RW.nil ?_
  refine W.rg [(0, .pointer (some ⟨T, 0, none⟩)), (1, .int .i64 62)] fun TA => ?_
  refine W.seq (W.region ?_)
  iterate 2 refine RW.v ?_
  refine RW.cl ?_
  refine WC.enter (fn := Tryz.f130) Tryz.func130 rfl ?_
  refine W.rg [(0, .pointer (some ⟨T, 0, none⟩)), (1, .int .i64 62)] fun TA => ?_
  refine W.seq (W.region ?_)
  refine RW.v ?_
  refine RW.nil ?_
  refine W.rg [(0, .pointer (some ⟨T, 0, none⟩)), (1, .int .i64 62)] fun TA => ?_
  refine W.seq (W.region ?_)
  refine RW.v ?_
  refine RW.cl ?_
  refine WC.enter (fn := Tryz.f159) Tryz.func159 rfl ?_
  refine W.rg [(0, .pointer (some ⟨T, 0, none⟩))] fun TA => ?_
  refine W.seq (W.region ?_)
  refine RW.v ?_
  refine RW.nil ?_
  refine W.rg [(0, .pointer (some ⟨T, 0, none⟩))] fun TA => ?_
  refine W.seq (W.region ?_)
  iterate 3 refine RW.v ?_
  refine RW.val (by rfl) (by kernel_rfl) rfl (by kernel_rfl) ?_
  refine RW.val (by rfl) (by kernel_rfl) rfl (by kernel_rfl) ?_
  refine RW.val (by rfl) (by kernel_rfl) rfl (by kernel_rfl) ?_
  refine RW.ldL H 0 1 (by rfl) (by kernel_rfl) rfl rfl rfl rfl rfl (by kernel_rfl) ?_
  refine RW.val (by rfl) (by kernel_rfl) rfl (by kernel_rfl) ?_
  iterate 2 refine RW.v ?_
  refine RW.nil ?_
  refine W.rg [(2, .bool true)] fun TA => ?_
  refine W.ret ?_
  refine endG (by rfl) (by exact resL_tmp rfl) ?_
  refine RW.v ?_
  refine RW.val (by rfl) (by kernel_rfl) rfl (by kernel_rfl) ?_
  refine RW.val (by rfl) (by kernel_rfl) rfl (by kernel_rfl) ?_
  iterate 2 refine RW.v ?_
  refine RW.val (by rfl) (by kernel_rfl) rfl (by kernel_rfl) ?_
  refine RW.val (by rfl) (by kernel_rfl) rfl (by kernel_rfl) ?_
  refine RW.val (by rfl) (by kernel_rfl) rfl (by kernel_rfl) ?_
  refine RW.val (by rfl) (by kernel_rfl) rfl (by kernel_rfl) ?_
  refine RW.ldL H 0 1 (by rfl) (by kernel_rfl) rfl rfl rfl rfl rfl (by kernel_rfl) ?_
  refine RW.len (by rfl) (by kernel_rfl) rfl rfl rfl rfl ((H.sl 1 rfl).len (by kernel_rfl)) (by kernel_rfl) ?_
  refine RW.val (by rfl) (by kernel_rfl) rfl (by kernel_rfl) ?_
  iterate 2 refine RW.v ?_
  refine RW.nil ?_
  refine W.rg [(4, .bool true)] fun TA => ?_
  refine W.ret ?_
  refine endG (by rfl) (by exact resL_tmp rfl) ?_
  refine RW.v ?_
  refine RW.val (by rfl) (by kernel_rfl) rfl (by kernel_rfl) ?_
  refine RW.val (by rfl) (by kernel_rfl) rfl (by kernel_rfl) ?_
  refine RW.val (by rfl) (by kernel_rfl) rfl (by kernel_rfl) ?_
  refine RW.ldL H 0 1 (by rfl) (by kernel_rfl) rfl rfl rfl rfl rfl (by kernel_rfl) ?_
  refine RW.val (by rfl) (by kernel_rfl) rfl (by kernel_rfl) ?_
  refine RW.idxG H 1 rfl (by rfl) (by kernel_rfl) rfl Tryz.underlying136 (by kernel_rfl) rfl rfl ⟨by decide, by decide⟩ (by kernel_rfl) ?_
  intro b1 q2 r3 hF4 hE5
  replace hE5 : (r3.cs.drop q2).take 6 = [.int .i64 0, .int .i64 0, .bool false, .string ⟨#[45]⟩, .bool true, .map none] := hE5.trans (by kernel_rfl)
  refine RW.val (by rfl) (by kernel_rfl) rfl (by kernel_rfl) ?_
  refine RW.loads 1 (by rfl) (by kernel_rfl) rfl rfl (hF4) (sub_take hE5 4 1 (by decide)) rfl (by kernel_rfl) ?_
  iterate 2 refine RW.v ?_
  refine RW.nil ?_
  refine W.rg [(4, .bool true)] fun TA => ?_
  refine W.ret ?_
  refine endG (by rfl) (by exact resL_tmp rfl) ?_
  exact ⟨rfl, _, H⟩
end
end Go.Proofs.YthemeeiedlbhkaaGreatDoor
