/-
 The table of names with the five symbols of keymap's laws. Conditions: none.
-/
import Derived.Test.YtdbmflnkdoeaoaaDoorKra
import Derived.Test.YtdbmflnkdoeaoaaDoorS4
namespace Go.Proofs.YtdbmflnkdoeaoaaDoor
set_option maxRecDepth 100000
noncomputable def es62 : List (Value × Value) := [(.string ⟨#[110, 105, 108]⟩, .int .i64 0), (.string ⟨#[116]⟩, .int .i64 1), (.string ⟨#[113, 117, 111, 116, 101]⟩, .int .i64 2), (.string ⟨#[102, 117, 110, 99, 116, 105, 111, 110]⟩, .int .i64 3), (.string ⟨#[96]⟩, .int .i64 4), (.string ⟨#[44]⟩, .int .i64 5), (.string ⟨#[44, 64]⟩, .int .i64 6), (.string ⟨#[108, 97, 109, 98, 100, 97]⟩, .int .i64 7), (.string ⟨#[99, 108, 111, 115, 117, 114, 101]⟩, .int .i64 8), (.string ⟨#[109, 97, 99, 114, 111]⟩, .int .i64 9), (.string ⟨#[38, 114, 101, 115, 116]⟩, .int .i64 10), (.string ⟨#[38, 111, 112, 116, 105, 111, 110, 97, 108]⟩, .int .i64 11), (.string ⟨#[105, 102]⟩, .int .i64 12), (.string ⟨#[99, 111, 110, 100]⟩, .int .i64 13), (.string ⟨#[97, 110, 100]⟩, .int .i64 14), (.string ⟨#[111, 114]⟩, .int .i64 15), (.string ⟨#[119, 104, 105, 108, 101]⟩, .int .i64 16), (.string ⟨#[112, 114, 111, 103, 110]⟩, .int .i64 17), (.string ⟨#[112, 114, 111, 103, 49]⟩, .int .i64 18), (.string ⟨#[115, 101, 116, 113]⟩, .int .i64 19), (.string ⟨#[108, 101, 116]⟩, .int .i64 20), (.string ⟨#[108, 101, 116, 42]⟩, .int .i64 21), (.string ⟨#[99, 97, 116, 99, 104]⟩, .int .i64 22), (.string ⟨#[117, 110, 119, 105, 110, 100, 45, 112, 114, 111, 116, 101, 99, 116]⟩, .int .i64 23), (.string ⟨#[99, 111, 110, 100, 105, 116, 105, 111, 110, 45, 99, 97, 115, 101]⟩, .int .i64 24), (.string ⟨#[100, 101, 102, 118, 97, 114]⟩, .int .i64 25), (.string ⟨#[100, 101, 102, 99, 111, 110, 115, 116]⟩, .int .i64 26), (.string ⟨#[100, 101, 102, 117, 110]⟩, .int .i64 27), (.string ⟨#[100, 101, 102, 109, 97, 99, 114, 111]⟩, .int .i64 28), (.string ⟨#[105, 110, 116, 101, 114, 97, 99, 116, 105, 118, 101]⟩, .int .i64 29), (.string ⟨#[102, 117, 110, 99, 97, 108, 108]⟩, .int .i64 30), (.string ⟨#[97, 112, 112, 108, 121]⟩, .int .i64 31), (.string ⟨#[109, 97, 112, 99, 97, 114]⟩, .int .i64 32), (.string ⟨#[109, 97, 112, 99]⟩, .int .i64 33), (.string ⟨#[101, 118, 97, 108]⟩, .int .i64 34), (.string ⟨#[116, 104, 114, 111, 119]⟩, .int .i64 35), (.string ⟨#[115, 105, 103, 110, 97, 108]⟩, .int .i64 36), (.string ⟨#[101, 114, 114, 111, 114]⟩, .int .i64 37), (.string ⟨#[113, 117, 105, 116]⟩, .int .i64 38), (.string ⟨#[118, 111, 105, 100, 45, 118, 97, 114, 105, 97, 98, 108, 101]⟩, .int .i64 39), (.string ⟨#[118, 111, 105, 100, 45, 102, 117, 110, 99, 116, 105, 111, 110]⟩, .int .i64 40), (.string ⟨#[119, 114, 111, 110, 103, 45, 116, 121, 112, 101, 45, 97, 114, 103, 117, 109, 101, 110, 116]⟩, .int .i64 41), (.string ⟨#[119, 114, 111, 110, 103, 45, 110, 117, 109, 98, 101, 114, 45, 111, 102, 45, 97, 114, 103, 117, 109, 101, 110, 116, 115]⟩, .int .i64 42), (.string ⟨#[97, 114, 103, 115, 45, 111, 117, 116, 45, 111, 102, 45, 114, 97, 110, 103, 101]⟩, .int .i64 43), (.string ⟨#[97, 114, 105, 116, 104, 45, 101, 114, 114, 111, 114]⟩, .int .i64 44), (.string ⟨#[111, 118, 101, 114, 102, 108, 111, 119, 45, 101, 114, 114, 111, 114]⟩, .int .i64 45), (.string ⟨#[115, 101, 116, 116, 105, 110, 103, 45, 99, 111, 110, 115, 116, 97, 110, 116]⟩, .int .i64 46), (.string ⟨#[110, 111, 45, 99, 97, 116, 99, 104]⟩, .int .i64 47), (.string ⟨#[105, 110, 118, 97, 108, 105, 100, 45, 102, 117, 110, 99, 116, 105, 111, 110]⟩, .int .i64 48), (.string ⟨#[105, 110, 118, 97, 108, 105, 100, 45, 114, 101, 97, 100, 45, 115, 121, 110, 116, 97, 120]⟩, .int .i64 49), (.string ⟨#[101, 110, 100, 45, 111, 102, 45, 102, 105, 108, 101]⟩, .int .i64 50), (.string ⟨#[99, 105, 114, 99, 117, 108, 97, 114, 45, 108, 105, 115, 116]⟩, .int .i64 51), (.string ⟨#[101, 120, 99, 101, 115, 115, 105, 118, 101, 45, 108, 105, 115, 112, 45, 110, 101, 115, 116, 105, 110, 103]⟩, .int .i64 52), (.string ⟨#[109, 101, 109, 111, 114, 121, 45, 102, 117, 108, 108]⟩, .int .i64 53), (.string ⟨#[116, 101, 120, 116, 45, 114, 101, 97, 100, 45, 111, 110, 108, 121]⟩, .int .i64 54), (.string ⟨#[98, 101, 103, 105, 110, 110, 105, 110, 103, 45, 111, 102, 45, 98, 117, 102, 102, 101, 114]⟩, .int .i64 55), (.string ⟨#[101, 110, 100, 45, 111, 102, 45, 98, 117, 102, 102, 101, 114]⟩, .int .i64 56), (.string ⟨#[115, 101, 97, 114, 99, 104, 45, 102, 97, 105, 108, 101, 100]⟩, .int .i64 57), (.string ⟨#[105, 110, 118, 97, 108, 105, 100, 45, 114, 101, 103, 101, 120, 112]⟩, .int .i64 58), (.string ⟨#[117, 115, 101, 114, 45, 101, 114, 114, 111, 114]⟩, .int .i64 59), (.string ⟨#[98, 117, 102, 102, 101, 114, 45, 114, 101, 97, 100, 45, 111, 110, 108, 121]⟩, .int .i64 60), (.string ⟨#[99, 121, 99, 108, 105, 99, 45, 102, 117, 110, 99, 116, 105, 111, 110, 45, 105, 110, 100, 105, 114, 101, 99, 116, 105, 111, 110]⟩, .int .i64 61)]
noncomputable def sy62 : List Value := [.int .i64 0, .int .i64 0, .bool false, .string ⟨#[110, 105, 108]⟩, .bool true, .map none, .int .i64 0, .int .i64 0, .bool false, .string ⟨#[116]⟩, .bool true, .map none, .int .i64 0, .int .i64 0, .bool false, .string ⟨#[113, 117, 111, 116, 101]⟩, .bool true, .map none, .int .i64 0, .int .i64 0, .bool false, .string ⟨#[102, 117, 110, 99, 116, 105, 111, 110]⟩, .bool true, .map none, .int .i64 0, .int .i64 0, .bool false, .string ⟨#[96]⟩, .bool true, .map none, .int .i64 0, .int .i64 0, .bool false, .string ⟨#[44]⟩, .bool true, .map none, .int .i64 0, .int .i64 0, .bool false, .string ⟨#[44, 64]⟩, .bool true, .map none, .int .i64 0, .int .i64 0, .bool false, .string ⟨#[108, 97, 109, 98, 100, 97]⟩, .bool true, .map none, .int .i64 0, .int .i64 0, .bool false, .string ⟨#[99, 108, 111, 115, 117, 114, 101]⟩, .bool true, .map none, .int .i64 0, .int .i64 0, .bool false, .string ⟨#[109, 97, 99, 114, 111]⟩, .bool true, .map none, .int .i64 0, .int .i64 0, .bool false, .string ⟨#[38, 114, 101, 115, 116]⟩, .bool true, .map none, .int .i64 0, .int .i64 0, .bool false, .string ⟨#[38, 111, 112, 116, 105, 111, 110, 97, 108]⟩, .bool true, .map none, .int .i64 0, .int .i64 0, .bool false, .string ⟨#[105, 102]⟩, .bool true, .map none, .int .i64 0, .int .i64 0, .bool false, .string ⟨#[99, 111, 110, 100]⟩, .bool true, .map none, .int .i64 0, .int .i64 0, .bool false, .string ⟨#[97, 110, 100]⟩, .bool true, .map none, .int .i64 0, .int .i64 0, .bool false, .string ⟨#[111, 114]⟩, .bool true, .map none, .int .i64 0, .int .i64 0, .bool false, .string ⟨#[119, 104, 105, 108, 101]⟩, .bool true, .map none, .int .i64 0, .int .i64 0, .bool false, .string ⟨#[112, 114, 111, 103, 110]⟩, .bool true, .map none, .int .i64 0, .int .i64 0, .bool false, .string ⟨#[112, 114, 111, 103, 49]⟩, .bool true, .map none, .int .i64 0, .int .i64 0, .bool false, .string ⟨#[115, 101, 116, 113]⟩, .bool true, .map none, .int .i64 0, .int .i64 0, .bool false, .string ⟨#[108, 101, 116]⟩, .bool true, .map none, .int .i64 0, .int .i64 0, .bool false, .string ⟨#[108, 101, 116, 42]⟩, .bool true, .map none, .int .i64 0, .int .i64 0, .bool false, .string ⟨#[99, 97, 116, 99, 104]⟩, .bool true, .map none, .int .i64 0, .int .i64 0, .bool false, .string ⟨#[117, 110, 119, 105, 110, 100, 45, 112, 114, 111, 116, 101, 99, 116]⟩, .bool true, .map none, .int .i64 0, .int .i64 0, .bool false, .string ⟨#[99, 111, 110, 100, 105, 116, 105, 111, 110, 45, 99, 97, 115, 101]⟩, .bool true, .map none, .int .i64 0, .int .i64 0, .bool false, .string ⟨#[100, 101, 102, 118, 97, 114]⟩, .bool true, .map none, .int .i64 0, .int .i64 0, .bool false, .string ⟨#[100, 101, 102, 99, 111, 110, 115, 116]⟩, .bool true, .map none, .int .i64 0, .int .i64 0, .bool false, .string ⟨#[100, 101, 102, 117, 110]⟩, .bool true, .map none, .int .i64 0, .int .i64 0, .bool false, .string ⟨#[100, 101, 102, 109, 97, 99, 114, 111]⟩, .bool true, .map none, .int .i64 0, .int .i64 0, .bool false, .string ⟨#[105, 110, 116, 101, 114, 97, 99, 116, 105, 118, 101]⟩, .bool true, .map none, .int .i64 0, .int .i64 0, .bool false, .string ⟨#[102, 117, 110, 99, 97, 108, 108]⟩, .bool true, .map none, .int .i64 0, .int .i64 0, .bool false, .string ⟨#[97, 112, 112, 108, 121]⟩, .bool true, .map none, .int .i64 0, .int .i64 0, .bool false, .string ⟨#[109, 97, 112, 99, 97, 114]⟩, .bool true, .map none, .int .i64 0, .int .i64 0, .bool false, .string ⟨#[109, 97, 112, 99]⟩, .bool true, .map none, .int .i64 0, .int .i64 0, .bool false, .string ⟨#[101, 118, 97, 108]⟩, .bool true, .map none, .int .i64 0, .int .i64 0, .bool false, .string ⟨#[116, 104, 114, 111, 119]⟩, .bool true, .map none, .int .i64 0, .int .i64 0, .bool false, .string ⟨#[115, 105, 103, 110, 97, 108]⟩, .bool true, .map none, .int .i64 0, .int .i64 0, .bool false, .string ⟨#[101, 114, 114, 111, 114]⟩, .bool true, .map none, .int .i64 0, .int .i64 0, .bool false, .string ⟨#[113, 117, 105, 116]⟩, .bool true, .map none, .int .i64 0, .int .i64 0, .bool false, .string ⟨#[118, 111, 105, 100, 45, 118, 97, 114, 105, 97, 98, 108, 101]⟩, .bool true, .map none, .int .i64 0, .int .i64 0, .bool false, .string ⟨#[118, 111, 105, 100, 45, 102, 117, 110, 99, 116, 105, 111, 110]⟩, .bool true, .map none, .int .i64 0, .int .i64 0, .bool false, .string ⟨#[119, 114, 111, 110, 103, 45, 116, 121, 112, 101, 45, 97, 114, 103, 117, 109, 101, 110, 116]⟩, .bool true, .map none, .int .i64 0, .int .i64 0, .bool false, .string ⟨#[119, 114, 111, 110, 103, 45, 110, 117, 109, 98, 101, 114, 45, 111, 102, 45, 97, 114, 103, 117, 109, 101, 110, 116, 115]⟩, .bool true, .map none, .int .i64 0, .int .i64 0, .bool false, .string ⟨#[97, 114, 103, 115, 45, 111, 117, 116, 45, 111, 102, 45, 114, 97, 110, 103, 101]⟩, .bool true, .map none, .int .i64 0, .int .i64 0, .bool false, .string ⟨#[97, 114, 105, 116, 104, 45, 101, 114, 114, 111, 114]⟩, .bool true, .map none, .int .i64 0, .int .i64 0, .bool false, .string ⟨#[111, 118, 101, 114, 102, 108, 111, 119, 45, 101, 114, 114, 111, 114]⟩, .bool true, .map none, .int .i64 0, .int .i64 0, .bool false, .string ⟨#[115, 101, 116, 116, 105, 110, 103, 45, 99, 111, 110, 115, 116, 97, 110, 116]⟩, .bool true, .map none, .int .i64 0, .int .i64 0, .bool false, .string ⟨#[110, 111, 45, 99, 97, 116, 99, 104]⟩, .bool true, .map none, .int .i64 0, .int .i64 0, .bool false, .string ⟨#[105, 110, 118, 97, 108, 105, 100, 45, 102, 117, 110, 99, 116, 105, 111, 110]⟩, .bool true, .map none, .int .i64 0, .int .i64 0, .bool false, .string ⟨#[105, 110, 118, 97, 108, 105, 100, 45, 114, 101, 97, 100, 45, 115, 121, 110, 116, 97, 120]⟩, .bool true, .map none, .int .i64 0, .int .i64 0, .bool false, .string ⟨#[101, 110, 100, 45, 111, 102, 45, 102, 105, 108, 101]⟩, .bool true, .map none, .int .i64 0, .int .i64 0, .bool false, .string ⟨#[99, 105, 114, 99, 117, 108, 97, 114, 45, 108, 105, 115, 116]⟩, .bool true, .map none, .int .i64 0, .int .i64 0, .bool false, .string ⟨#[101, 120, 99, 101, 115, 115, 105, 118, 101, 45, 108, 105, 115, 112, 45, 110, 101, 115, 116, 105, 110, 103]⟩, .bool true, .map none, .int .i64 0, .int .i64 0, .bool false, .string ⟨#[109, 101, 109, 111, 114, 121, 45, 102, 117, 108, 108]⟩, .bool true, .map none, .int .i64 0, .int .i64 0, .bool false, .string ⟨#[116, 101, 120, 116, 45, 114, 101, 97, 100, 45, 111, 110, 108, 121]⟩, .bool true, .map none, .int .i64 0, .int .i64 0, .bool false, .string ⟨#[98, 101, 103, 105, 110, 110, 105, 110, 103, 45, 111, 102, 45, 98, 117, 102, 102, 101, 114]⟩, .bool true, .map none, .int .i64 0, .int .i64 0, .bool false, .string ⟨#[101, 110, 100, 45, 111, 102, 45, 98, 117, 102, 102, 101, 114]⟩, .bool true, .map none, .int .i64 0, .int .i64 0, .bool false, .string ⟨#[115, 101, 97, 114, 99, 104, 45, 102, 97, 105, 108, 101, 100]⟩, .bool true, .map none, .int .i64 0, .int .i64 0, .bool false, .string ⟨#[105, 110, 118, 97, 108, 105, 100, 45, 114, 101, 103, 101, 120, 112]⟩, .bool true, .map none, .int .i64 0, .int .i64 0, .bool false, .string ⟨#[117, 115, 101, 114, 45, 101, 114, 114, 111, 114]⟩, .bool true, .map none, .int .i64 0, .int .i64 0, .bool false, .string ⟨#[98, 117, 102, 102, 101, 114, 45, 114, 101, 97, 100, 45, 111, 110, 108, 121]⟩, .bool true, .map none, .int .i64 0, .int .i64 0, .bool false, .string ⟨#[99, 121, 99, 108, 105, 99, 45, 102, 117, 110, 99, 116, 105, 111, 110, 45, 105, 110, 100, 105, 114, 101, 99, 116, 105, 111, 110]⟩, .bool true, .map none]
noncomputable def es63 : List (Value × Value) := es62 ++ [(.string ⟨#[102, 105, 110, 100]⟩, .int .i64 62)]
noncomputable def sy63 : List Value := sy62 ++ [.int .i64 0, .int .i64 0, .bool false, .string ⟨#[102, 105, 110, 100]⟩, .bool true, .map none]
noncomputable def es64 : List (Value × Value) := es63 ++ [(.string ⟨#[115, 101, 108, 102]⟩, .int .i64 63)]
noncomputable def sy64 : List Value := sy63 ++ [.int .i64 0, .int .i64 0, .bool false, .string ⟨#[115, 101, 108, 102]⟩, .bool true, .map none]
noncomputable def es65 : List (Value × Value) := es64 ++ [(.string ⟨#[120]⟩, .int .i64 64)]
noncomputable def sy65 : List Value := sy64 ++ [.int .i64 0, .int .i64 0, .bool false, .string ⟨#[120]⟩, .bool true, .map none]
noncomputable def es66 : List (Value × Value) := es65 ++ [(.string ⟨#[114, 101, 109, 97, 112]⟩, .int .i64 65)]
noncomputable def sy66 : List Value := sy65 ++ [.int .i64 0, .int .i64 0, .bool false, .string ⟨#[114, 101, 109, 97, 112]⟩, .bool true, .map none]
noncomputable def es67 : List (Value × Value) := es66 ++ [(.string ⟨#[107, 101, 121, 109, 97, 112]⟩, .int .i64 66)]
noncomputable def sy67 : List Value := sy66 ++ [.int .i64 0, .int .i64 0, .bool false, .string ⟨#[107, 101, 121, 109, 97, 112]⟩, .bool true, .map none]
noncomputable def tabL (T M : Nat) (u : Value) : List Ent := [.at_ T (.row ⟨[u, .map (some M)], 103, false⟩), .sl 129 6 u 62 sy62, .at_ M (.ents es62 62)]
noncomputable def newT : Tr := ⟨28, [], [], 65, .pointer (some ⟨66, 0, none⟩), [(65, some (.ents es62 62)), (66, some (.row ⟨[.slice (some ⟨191, 0, some 6⟩) 62 62, .map (some 65)], 103, false⟩)), (191, some (.row ⟨sy62, 129, true⟩))], 192⟩
theorem newT_run : newT.run 65 Tryd.prog (noK []) 3000 = true := by kernel_rfl
theorem newT_right : newT.Right 65 Tryd.prog := Tr.right_of noK_right (by kernel_rfl) newT_run
theorem flat_sy : ∀ c ∈ sy62, flatV c = true := by
 have : sy62.all flatV = true := by kernel_rfl
 exact fun c hc => List.all_eq_true.1 this c hc
theorem flat_es : ∀ x ∈ es62, flatV x.1 = true ∧ flatV x.2 = true := by
 have : es62.all (fun x => flatV x.1 && flatV x.2) = true := by kernel_rfl
 intro x hx
 have := List.all_eq_true.1 this x hx
 rwa [Bool.and_eq_true] at this
theorem len_sy : sy62.length = 372 := by kernel_rfl
theorem new_wc {A : Abs} {σ : Mem} (hG : G65 ≤ σ.next) (ha : σ.abs = A) : WC G65 Tryd.prog 28 #[] σ fun v σ' => ∃ T M u, v = .pointer (some ⟨T, 0, none⟩) ∧ Lies G65 A σ.get σ' (tabL T M u) := by
 obtain ⟨N, hN⟩ : ∃ N, N = σ.next := ⟨_, rfl⟩
 have hc : SCall 65 Tryd.prog 28 #[] newT.pre.mem (.pointer (some ⟨66, 0, none⟩)) newT.post.mem := newT_right.2
 have hpre : ∀ b, newT.pre.mem.get b = none := fun b => by
  have := litE_get [] 65 b
  show (litE [] 65).mem.get b = none
  rw [this]
  split <;> rfl
 have hpost : ∀ b, newT.post.mem.get b = if b < 192 then (match findB b newT.l1 with | some o => o | none => none) else none := fun b => litE_get _ 192 b
 have mv1 : ∀ k, mv G65 65 N (65 + k) = N + k := fun k => by
  unfold mv
  rw [if_neg (by show ¬ 65 + k < 65; omega)]
  omega
 obtain ⟨l, hl⟩ : ∃ l : List (Nat × Blk2), l = [(0, .ents es62 62), (1, .row ⟨[.slice (some ⟨N + 126, 0, some 6⟩) 62 62, .map (some (N + 0))], 103, false⟩), (126, .row ⟨sy62, 129, true⟩)] := ⟨_, rfl⟩
 have hmv : MovedB G65 newT.pre.mem.next σ.next newT.post.mem σ (σ.plus 127 l) := by
  refine ⟨rfl, rfl, fun b hb => plus_old hb, fun b x hb hx => ?_⟩
  have hx := plus_is hb hx
  show ∃ x0, newT.post.mem.get (b - σ.next + 65) = some x0 ∧ RenB (mv G65 65 σ.next) x0 x
  rw [← hN] at hx hb ⊢
  rw [hl] at hx
  simp only [lookB] at hx
  split at hx
  ·rename_i e
   cases hx
   rw [e, hpost]
   exact ⟨_, rfl, .ents flat_es⟩
  ·split at hx
   ·rename_i e
    cases hx
    rw [e, hpost]
    refine ⟨_, rfl, .row ⟨rfl, rfl, rfl, fun i v v' h1 h2 => ?_⟩⟩
    match i, h1, h2 with
    | 0, h1, h2 =>
     cases h1; cases h2
     have := Ren.slice (f := mv G65 65 N) 191 0 62 62 (some 6)
     rwa [show (191 : Nat) = 65 + 126 from rfl, mv1] at this
    | 1, h1, h2 =>
     cases h1; cases h2
     have := Ren.map (f := mv G65 65 N) 65
     rwa [show (65 : Nat) = 65 + 0 from rfl, mv1] at this
    | i + 2, h1, _ => simp at h1
   ·split at hx
    ·rename_i e
     cases hx
     rw [e, hpost]
     exact ⟨_, rfl, .row (ren_flat flat_sy)⟩
    ·cases hx
 have hv : Ren (mv G65 newT.pre.mem.next σ.next) (.pointer (some ⟨66, 0, none⟩)) (.pointer (some ⟨N + 1, 0, none⟩)) := by
  have := Ren.ptr (f := mv G65 65 N) 66 0
  rw [show (66 : Nat) = 65 + 1 from rfl, mv1] at this
  rw [← hN]
  exact this
 have hS : SCall G65 Tryd.prog 28 #[] σ (.pointer (some ⟨N + 1, 0, none⟩)) (σ.plus 127 l) :=
  SCall.movedB hc (fun b x hx => by rw [hpre] at hx; cases hx) (Nat.le_refl _) rfl rfl hmv hv
 have n0 := plus_new (σ := σ) (n := 127) (l := l) (k := 0) (by decide)
 have n1 := plus_new (σ := σ) (n := 127) (l := l) (k := 1) (by decide)
 have n2 := plus_new (σ := σ) (n := 127) (l := l) (k := 126) (by decide)
 rw [← hN] at n0 n1 n2
 have n0 : _ = some (Blk2.ents es62 62) := n0.trans (by rw [hl]; rfl)
 have n1 : _ = some (Blk2.row ⟨[.slice (some ⟨N + 126, 0, some 6⟩) 62 62, .map (some (N + 0))], 103, false⟩) := n1.trans (by rw [hl]; rfl)
 have n2 : _ = some (Blk2.row ⟨sy62, 129, true⟩) := n2.trans (by rw [hl]; rfl)
 have hGN : 65 ≤ N := by rw [hN]; exact hG
 refine ⟨_, _, hS, N + 1, N + 0, .slice (some ⟨N + 126, 0, some 6⟩) 62 62, rfl, Lies.plus hG ha ⟨⟨by show 65 ≤ _; omega, n1⟩, .row (c := 62) (by show 65 ≤ _; omega) n2 rfl (by rw [len_sy]) (Nat.le_refl _) (List.take_of_length_le (by rw [len_sy]; decide)), ⟨by show 65 ≤ _; omega, n0⟩, trivial⟩ ?_ ?_⟩
 ·refine ⟨fun b hb => ⟨rfl, fun y hy hyb => ?_⟩, fun b hb => ⟨rfl, fun y hy hyb => ?_⟩, fun b hb => ⟨rfl, fun y hy _ => by cases hy⟩, trivial⟩
  ·cases hb
   simp only [List.mem_cons, List.mem_nil_iff, or_false] at hy
   rcases hy with rfl | rfl
   ·simp [Ent.blk, blkOf] at hyb
   ·simp [Ent.blk] at hyb
  ·have hb : N + 126 = b := by simpa [Ent.blk, blkOf] using hb
   subst hb
   simp only [List.mem_cons, List.mem_nil_iff, or_false] at hy
   subst hy
   simp [Ent.blk] at hyb
 ·intro x hx b hb
  rw [← hN]
  simp only [tabL, List.mem_cons, List.mem_nil_iff, or_false] at hx
  rcases hx with rfl | rfl | rfl
  ·have : N + 1 = b := by simpa [Ent.blk] using hb
   omega
  ·have : N + 126 = b := by simpa [Ent.blk, blkOf] using hb
   omega
  ·have : N + 0 = b := by simpa [Ent.blk] using hb
   omega
section
variable {A : Abs} {σ σ0 : Mem} {F : Nat → Option Blk2} {L : List Ent} {T M : Nat} {u : Value}
theorem valid0_run : (match doCall 16 Tryd.prog (ev 16 Tryd.prog (noK []) 3000) 73 [.string ⟨#[102, 105, 110, 100]⟩].toArray (startE 16 (noK []).rows) with | some (u, _) => eqV 3 u (.bool true) | _ => false) = true := by kernel_rfl
theorem valid0_m : SCall G65 Tryd.prog 73 #[.string ⟨#[102, 105, 110, 100]⟩] σ (.bool true) σ := closed_scall noK_right valid0_run rfl rfl (fun _ _ h => by cases h) (fun _ _ h => by cases h) (fun _ _ h => by cases h) σ (fun _ _ h => by cases h)
theorem len0_run : (match doCall 16 Tryd.prog (ev 16 Tryd.prog (noK []) 3000) 74 [.string ⟨#[102, 105, 110, 100]⟩].toArray (startE 16 (noK []).rows) with | some (u, _) => eqV 3 u (.int .i64 4) | _ => false) = true := by kernel_rfl
theorem len0_m : SCall G65 Tryd.prog 74 #[.string ⟨#[102, 105, 110, 100]⟩] σ (.int .i64 4) σ := closed_scall noK_right len0_run rfl rfl (fun _ _ h => by cases h) (fun _ _ h => by cases h) (fun _ _ h => by cases h) σ (fun _ _ h => by cases h)
theorem valid1_run : (match doCall 16 Tryd.prog (ev 16 Tryd.prog (noK []) 3000) 73 [.string ⟨#[115, 101, 108, 102]⟩].toArray (startE 16 (noK []).rows) with | some (u, _) => eqV 3 u (.bool true) | _ => false) = true := by kernel_rfl
theorem valid1_m : SCall G65 Tryd.prog 73 #[.string ⟨#[115, 101, 108, 102]⟩] σ (.bool true) σ := closed_scall noK_right valid1_run rfl rfl (fun _ _ h => by cases h) (fun _ _ h => by cases h) (fun _ _ h => by cases h) σ (fun _ _ h => by cases h)
theorem len1_run : (match doCall 16 Tryd.prog (ev 16 Tryd.prog (noK []) 3000) 74 [.string ⟨#[115, 101, 108, 102]⟩].toArray (startE 16 (noK []).rows) with | some (u, _) => eqV 3 u (.int .i64 4) | _ => false) = true := by kernel_rfl
theorem len1_m : SCall G65 Tryd.prog 74 #[.string ⟨#[115, 101, 108, 102]⟩] σ (.int .i64 4) σ := closed_scall noK_right len1_run rfl rfl (fun _ _ h => by cases h) (fun _ _ h => by cases h) (fun _ _ h => by cases h) σ (fun _ _ h => by cases h)
theorem valid2_run : (match doCall 16 Tryd.prog (ev 16 Tryd.prog (noK []) 3000) 73 [.string ⟨#[120]⟩].toArray (startE 16 (noK []).rows) with | some (u, _) => eqV 3 u (.bool true) | _ => false) = true := by kernel_rfl
theorem valid2_m : SCall G65 Tryd.prog 73 #[.string ⟨#[120]⟩] σ (.bool true) σ := closed_scall noK_right valid2_run rfl rfl (fun _ _ h => by cases h) (fun _ _ h => by cases h) (fun _ _ h => by cases h) σ (fun _ _ h => by cases h)
theorem len2_run : (match doCall 16 Tryd.prog (ev 16 Tryd.prog (noK []) 3000) 74 [.string ⟨#[120]⟩].toArray (startE 16 (noK []).rows) with | some (u, _) => eqV 3 u (.int .i64 1) | _ => false) = true := by kernel_rfl
theorem len2_m : SCall G65 Tryd.prog 74 #[.string ⟨#[120]⟩] σ (.int .i64 1) σ := closed_scall noK_right len2_run rfl rfl (fun _ _ h => by cases h) (fun _ _ h => by cases h) (fun _ _ h => by cases h) σ (fun _ _ h => by cases h)
theorem valid3_run : (match doCall 16 Tryd.prog (ev 16 Tryd.prog (noK []) 3000) 73 [.string ⟨#[114, 101, 109, 97, 112]⟩].toArray (startE 16 (noK []).rows) with | some (u, _) => eqV 3 u (.bool true) | _ => false) = true := by kernel_rfl
theorem valid3_m : SCall G65 Tryd.prog 73 #[.string ⟨#[114, 101, 109, 97, 112]⟩] σ (.bool true) σ := closed_scall noK_right valid3_run rfl rfl (fun _ _ h => by cases h) (fun _ _ h => by cases h) (fun _ _ h => by cases h) σ (fun _ _ h => by cases h)
theorem len3_run : (match doCall 16 Tryd.prog (ev 16 Tryd.prog (noK []) 3000) 74 [.string ⟨#[114, 101, 109, 97, 112]⟩].toArray (startE 16 (noK []).rows) with | some (u, _) => eqV 3 u (.int .i64 5) | _ => false) = true := by kernel_rfl
theorem len3_m : SCall G65 Tryd.prog 74 #[.string ⟨#[114, 101, 109, 97, 112]⟩] σ (.int .i64 5) σ := closed_scall noK_right len3_run rfl rfl (fun _ _ h => by cases h) (fun _ _ h => by cases h) (fun _ _ h => by cases h) σ (fun _ _ h => by cases h)
theorem valid4_run : (match doCall 16 Tryd.prog (ev 16 Tryd.prog (noK []) 3000) 73 [.string ⟨#[107, 101, 121, 109, 97, 112]⟩].toArray (startE 16 (noK []).rows) with | some (u, _) => eqV 3 u (.bool true) | _ => false) = true := by kernel_rfl
theorem valid4_m : SCall G65 Tryd.prog 73 #[.string ⟨#[107, 101, 121, 109, 97, 112]⟩] σ (.bool true) σ := closed_scall noK_right valid4_run rfl rfl (fun _ _ h => by cases h) (fun _ _ h => by cases h) (fun _ _ h => by cases h) σ (fun _ _ h => by cases h)
theorem len4_run : (match doCall 16 Tryd.prog (ev 16 Tryd.prog (noK []) 3000) 74 [.string ⟨#[107, 101, 121, 109, 97, 112]⟩].toArray (startE 16 (noK []).rows) with | some (u, _) => eqV 3 u (.int .i64 6) | _ => false) = true := by kernel_rfl
theorem len4_m : SCall G65 Tryd.prog 74 #[.string ⟨#[107, 101, 121, 109, 97, 112]⟩] σ (.int .i64 6) σ := closed_scall noK_right len4_run rfl rfl (fun _ _ h => by cases h) (fun _ _ h => by cases h) (fun _ _ h => by cases h) σ (fun _ _ h => by cases h)
set_option maxHeartbeats 4000000 in
theorem intern0_wc (H : Lies G65 A F σ (.at_ T (.row ⟨[u, .map (some M)], 103, false⟩) :: .sl 129 6 u 62 sy62 :: .at_ M (.ents es62 62) :: L)) : WC G65 Tryd.prog 29 #[pp T, .string ⟨#[102, 105, 110, 100]⟩] σ fun v σ' => v = .tuple #[.int .i64 62, .int .i64 0] ∧ ∃ u', Lies G65 A F σ' (.at_ T (.row ⟨[u', .map (some M)], 103, false⟩) :: .sl 129 6 u' 63 sy63 :: .at_ M (.ents es63 63) :: L) := by
 refine WC.enter (fn := Tryd.f29) Tryd.func29 rfl ?_
 refine W.rg [(0, pp T), (1, .string ⟨#[102, 105, 110, 100]⟩)] fun TA => ?_
 refine W.seq (W.region ?_)
 iterate 2 refine RW.v ?_
 refine RW.nil ?_
 refine W.rg [(0, pp T), (1, .string ⟨#[102, 105, 110, 100]⟩)] fun TA => ?_
 refine W.seq ?_
 refine W.seq (W.region ?_)
 iterate 2 refine RW.v ?_
 refine RW.cl ?_
 refine WC.enter (fn := Tryd.f58) Tryd.func58 rfl ?_
 refine W.rg [(0, pp T), (1, .string ⟨#[102, 105, 110, 100]⟩)] fun TA => ?_
 refine W.seq (W.region ?_)
 refine RW.v ?_
 refine RW.nil ?_
 refine W.rg [(0, pp T), (1, .string ⟨#[102, 105, 110, 100]⟩)] fun TA => ?_
 refine W.seq ?_
 refine W.block ?_
 refine W.seq (W.region ?_)
 refine RW.v ?_
 refine RW.cl ?_
 refine WC.enter (fn := Tryd.f69) Tryd.func69 rfl ?_
 refine W.rg [(0, pp T)] fun TA => ?_
 refine W.seq (W.region ?_)
 refine RW.v ?_
 refine RW.nil ?_
 refine W.rg [(0, pp T)] fun TA => ?_
 refine W.seq (W.region ?_)
 iterate 3 refine RW.v ?_
 refine RW.val (by rfl) (by kernel_rfl) rfl (by kernel_rfl) ?_
 refine RW.val (by rfl) (by kernel_rfl) rfl (by kernel_rfl) ?_
 refine RW.val (by rfl) (by kernel_rfl) rfl (by kernel_rfl) ?_
 refine RW.ldL H 0 1 (by rfl) (by kernel_rfl) rfl rfl rfl rfl rfl (by kernel_rfl) ?_
 refine RW.val (by rfl) (by kernel_rfl) rfl (by kernel_rfl) ?_
 iterate 2 refine RW.v ?_
 refine RW.nil ?_
 refine W.ret ?_
 refine endG (by rfl) (by exact resL_tmp rfl) ?_
 iterate 2 refine RW.v ?_
 refine RW.nil ?_
 refine W.c0 ?_
 refine W.seq (W.region ?_)
 refine RW.v ?_
 refine RW.cl ?_
 refine ⟨_, _, valid0_m, ?_⟩
 iterate 2 refine RW.v ?_
 refine RW.nil ?_
 refine W.c0 ?_
 refine W.seq (W.region ?_)
 refine RW.v ?_
 refine RW.cl ?_
 refine ⟨_, _, len0_m, ?_⟩
 iterate 2 refine RW.v ?_
 refine RW.nil ?_
 refine W.c0 ?_
 refine W.skip ?_
 refine blkQ_normal ?_
 refine W.seq (W.region ?_)
 refine RW.v ?_
 refine RW.nil ?_
 refine W.ret ?_
 refine endG (by rfl) (by exact resL_tmp rfl) ?_
 refine RW.v ?_
 refine RW.nil ?_
 refine W.rg [(0, pp T), (1, .string ⟨#[102, 105, 110, 100]⟩), (6, .int .i64 0)] fun TA => ?_
 refine W.seq (W.region ?_)
 iterate 2 refine RW.v ?_
 refine RW.nil ?_
 refine W.c0 ?_
 refine W.skip ?_
 refine W.seq ?_
 refine W.seq (W.region ?_)
 iterate 3 refine RW.v ?_
 refine RW.ld H 0 1 ?_
 refine RW.v ?_
 refine RW.lkL H 2 (.tuple #[.int .i64 0, .bool false]) ?_
 iterate 5 refine RW.v ?_
 refine RW.nil ?_
 refine W.rg [(0, pp T), (1, .string ⟨#[102, 105, 110, 100]⟩), (7, .int .i64 0), (8, .bool false)] fun TA => ?_
 refine W.seq (W.region ?_)
 refine RW.v ?_
 refine RW.nil ?_
 refine W.c0 ?_
 refine W.skip ?_
 refine W.seq ?_
 refine W.seq (W.region ?_)
 iterate 3 refine RW.v ?_
 refine RW.ld H 0 1 ?_
 refine RW.len (by kernel_rfl) (by kernel_rfl) rfl rfl rfl rfl ((H.sl 1 rfl).len (by kernel_rfl)) (by kernel_rfl) ?_
 refine RW.v ?_
 refine RW.nil ?_
 refine W.c0 ?_
 refine W.skip ?_
 refine W.seq (W.region ?_)
 iterate 2 refine RW.v ?_
 refine RW.cl ?_
 refine WC.enter (fn := Tryd.f59) Tryd.func59 rfl ?_
 refine W.rg [(0, pp T), (1, .string ⟨#[102, 105, 110, 100]⟩), (2, .bool true)] fun TA => ?_
 refine W.seq (W.region ?_)
 refine RW.v ?_
 refine RW.nil ?_
 refine W.rg [(0, pp T), (1, .string ⟨#[102, 105, 110, 100]⟩), (2, .bool true)] fun TA => ?_
 refine W.seq (W.region ?_)
 iterate 3 refine RW.v ?_
 refine RW.ld H 0 1 ?_
 refine RW.len (by kernel_rfl) (by kernel_rfl) rfl rfl rfl rfl ((H.sl 1 rfl).len (by kernel_rfl)) (by kernel_rfl) ?_
 refine RW.v ?_
 refine RW.nil ?_
 refine W.rg [(0, pp T), (1, .string ⟨#[102, 105, 110, 100]⟩), (2, .bool true), (7, .int .i64 62)] fun TA => ?_
 refine W.seq (W.region ?_)
 iterate 4 refine RW.v ?_
 refine RW.ld H 0 1 ?_
 iterate 2 refine RW.v ?_
 refine RW.val (v := .agg #[.int .i64 0, .int .i64 0, .bool false, .string ⟨#[102, 105, 110, 100]⟩, .bool true, .map none]) (by kernel_rfl) (by kernel_rfl) (by kernel_rfl) (by kernel_rfl) ?_
 refine RW.mkL H (x := .row ⟨[.int .i64 0, .int .i64 0, .bool false, .string ⟨#[102, 105, 110, 100]⟩, .bool true, .map none], 129, false⟩) (fm := fun b => .slice (some ⟨b, 0, none⟩) 1 1) (by kernel_rfl) (by kernel_rfl) (by kernel_rfl) (by kernel_rfl) ?_
 clear H; intro _ b1 _ H
 refine RW.appL H 2 0 (n := 1) (e2 := 129) (by kernel_rfl) (by kernel_rfl) rfl rfl rfl rfl rfl rfl rfl rfl (by kernel_rfl) (by kernel_rfl) (by kernel_rfl) (by decide) (by decide) rfl rfl (by omega) (by kernel_rfl) ?_
 clear H; intro _ v2 _ H
 dsimp only [setL, delL] at H
 iterate 2 refine RW.v ?_
 refine RW.stL H 0 (vs := [v2]) (cs' := [v2, .map (some M)]) (by kernel_rfl) (by kernel_rfl) rfl rfl rfl (H.sl 1 rfl).one (gr_all (H.sl 1 rfl)) (by kernel_rfl) (Nat.le_of_ble_eq_true rfl) rfl (by kernel_rfl) ?_
 clear H; intro _ _ H; dsimp only [setL, delL] at H
 refine RW.nil ?_
 refine W.rg [(0, pp T), (1, .string ⟨#[102, 105, 110, 100]⟩), (2, .bool true), (7, .int .i64 62)] fun TA => ?_
 refine W.seq ?_
 refine W.seq (W.region ?_)
 refine RW.v ?_
 refine RW.nil ?_
 refine W.c1 ?_
 refine W.region ?_
 iterate 3 refine RW.v ?_
 refine RW.ld H 0 1 ?_
 iterate 2 refine RW.v ?_
 refine RW.upL H 2 (es62 ++ [(.string ⟨#[102, 105, 110, 100]⟩, .int .i64 62)]) 63 ?_
 clear H; intro _ _ H; dsimp only [setL, delL] at H
 refine RW.nil ?_
 refine W.rg [(7, .int .i64 62)] fun TA => ?_
 refine W.seq (W.region ?_)
 iterate 2 refine RW.v ?_
 refine RW.nil ?_
 refine W.ret ?_
 refine endG (by rfl) (by exact resL_tmp rfl) ?_
 iterate 2 refine RW.v ?_
 refine RW.nil ?_
 refine W.ret ?_
 refine endG (by rfl) (by exact resL_tmp (by exact resL_tmp rfl)) ?_
 exact ⟨rfl, _, H⟩
set_option maxHeartbeats 4000000 in
theorem intern1_wc (H : Lies G65 A F σ (.at_ T (.row ⟨[u, .map (some M)], 103, false⟩) :: .sl 129 6 u 63 sy63 :: .at_ M (.ents es63 63) :: L)) : WC G65 Tryd.prog 29 #[pp T, .string ⟨#[115, 101, 108, 102]⟩] σ fun v σ' => v = .tuple #[.int .i64 63, .int .i64 0] ∧ ∃ u', Lies G65 A F σ' (.at_ T (.row ⟨[u', .map (some M)], 103, false⟩) :: .sl 129 6 u' 64 sy64 :: .at_ M (.ents es64 64) :: L) := by
 refine WC.enter (fn := Tryd.f29) Tryd.func29 rfl ?_
 refine W.rg [(0, pp T), (1, .string ⟨#[115, 101, 108, 102]⟩)] fun TA => ?_
 refine W.seq (W.region ?_)
 iterate 2 refine RW.v ?_
 refine RW.nil ?_
 refine W.rg [(0, pp T), (1, .string ⟨#[115, 101, 108, 102]⟩)] fun TA => ?_
 refine W.seq ?_
 refine W.seq (W.region ?_)
 iterate 2 refine RW.v ?_
 refine RW.cl ?_
 refine WC.enter (fn := Tryd.f58) Tryd.func58 rfl ?_
 refine W.rg [(0, pp T), (1, .string ⟨#[115, 101, 108, 102]⟩)] fun TA => ?_
 refine W.seq (W.region ?_)
 refine RW.v ?_
 refine RW.nil ?_
 refine W.rg [(0, pp T), (1, .string ⟨#[115, 101, 108, 102]⟩)] fun TA => ?_
 refine W.seq ?_
 refine W.block ?_
 refine W.seq (W.region ?_)
 refine RW.v ?_
 refine RW.cl ?_
 refine WC.enter (fn := Tryd.f69) Tryd.func69 rfl ?_
 refine W.rg [(0, pp T)] fun TA => ?_
 refine W.seq (W.region ?_)
 refine RW.v ?_
 refine RW.nil ?_
 refine W.rg [(0, pp T)] fun TA => ?_
 refine W.seq (W.region ?_)
 iterate 3 refine RW.v ?_
 refine RW.val (by rfl) (by kernel_rfl) rfl (by kernel_rfl) ?_
 refine RW.val (by rfl) (by kernel_rfl) rfl (by kernel_rfl) ?_
 refine RW.val (by rfl) (by kernel_rfl) rfl (by kernel_rfl) ?_
 refine RW.ldL H 0 1 (by rfl) (by kernel_rfl) rfl rfl rfl rfl rfl (by kernel_rfl) ?_
 refine RW.val (by rfl) (by kernel_rfl) rfl (by kernel_rfl) ?_
 iterate 2 refine RW.v ?_
 refine RW.nil ?_
 refine W.ret ?_
 refine endG (by rfl) (by exact resL_tmp rfl) ?_
 iterate 2 refine RW.v ?_
 refine RW.nil ?_
 refine W.c0 ?_
 refine W.seq (W.region ?_)
 refine RW.v ?_
 refine RW.cl ?_
 refine ⟨_, _, valid1_m, ?_⟩
 iterate 2 refine RW.v ?_
 refine RW.nil ?_
 refine W.c0 ?_
 refine W.seq (W.region ?_)
 refine RW.v ?_
 refine RW.cl ?_
 refine ⟨_, _, len1_m, ?_⟩
 iterate 2 refine RW.v ?_
 refine RW.nil ?_
 refine W.c0 ?_
 refine W.skip ?_
 refine blkQ_normal ?_
 refine W.seq (W.region ?_)
 refine RW.v ?_
 refine RW.nil ?_
 refine W.ret ?_
 refine endG (by rfl) (by exact resL_tmp rfl) ?_
 refine RW.v ?_
 refine RW.nil ?_
 refine W.rg [(0, pp T), (1, .string ⟨#[115, 101, 108, 102]⟩), (6, .int .i64 0)] fun TA => ?_
 refine W.seq (W.region ?_)
 iterate 2 refine RW.v ?_
 refine RW.nil ?_
 refine W.c0 ?_
 refine W.skip ?_
 refine W.seq ?_
 refine W.seq (W.region ?_)
 iterate 3 refine RW.v ?_
 refine RW.ld H 0 1 ?_
 refine RW.v ?_
 refine RW.lkL H 2 (.tuple #[.int .i64 0, .bool false]) ?_
 iterate 5 refine RW.v ?_
 refine RW.nil ?_
 refine W.rg [(0, pp T), (1, .string ⟨#[115, 101, 108, 102]⟩), (7, .int .i64 0), (8, .bool false)] fun TA => ?_
 refine W.seq (W.region ?_)
 refine RW.v ?_
 refine RW.nil ?_
 refine W.c0 ?_
 refine W.skip ?_
 refine W.seq ?_
 refine W.seq (W.region ?_)
 iterate 3 refine RW.v ?_
 refine RW.ld H 0 1 ?_
 refine RW.len (by kernel_rfl) (by kernel_rfl) rfl rfl rfl rfl ((H.sl 1 rfl).len (by kernel_rfl)) (by kernel_rfl) ?_
 refine RW.v ?_
 refine RW.nil ?_
 refine W.c0 ?_
 refine W.skip ?_
 refine W.seq (W.region ?_)
 iterate 2 refine RW.v ?_
 refine RW.cl ?_
 refine WC.enter (fn := Tryd.f59) Tryd.func59 rfl ?_
 refine W.rg [(0, pp T), (1, .string ⟨#[115, 101, 108, 102]⟩), (2, .bool true)] fun TA => ?_
 refine W.seq (W.region ?_)
 refine RW.v ?_
 refine RW.nil ?_
 refine W.rg [(0, pp T), (1, .string ⟨#[115, 101, 108, 102]⟩), (2, .bool true)] fun TA => ?_
 refine W.seq (W.region ?_)
 iterate 3 refine RW.v ?_
 refine RW.ld H 0 1 ?_
 refine RW.len (by kernel_rfl) (by kernel_rfl) rfl rfl rfl rfl ((H.sl 1 rfl).len (by kernel_rfl)) (by kernel_rfl) ?_
 refine RW.v ?_
 refine RW.nil ?_
 refine W.rg [(0, pp T), (1, .string ⟨#[115, 101, 108, 102]⟩), (2, .bool true), (7, .int .i64 63)] fun TA => ?_
 refine W.seq (W.region ?_)
 iterate 4 refine RW.v ?_
 refine RW.ld H 0 1 ?_
 iterate 2 refine RW.v ?_
 refine RW.val (v := .agg #[.int .i64 0, .int .i64 0, .bool false, .string ⟨#[115, 101, 108, 102]⟩, .bool true, .map none]) (by kernel_rfl) (by kernel_rfl) (by kernel_rfl) (by kernel_rfl) ?_
 refine RW.mkL H (x := .row ⟨[.int .i64 0, .int .i64 0, .bool false, .string ⟨#[115, 101, 108, 102]⟩, .bool true, .map none], 129, false⟩) (fm := fun b => .slice (some ⟨b, 0, none⟩) 1 1) (by kernel_rfl) (by kernel_rfl) (by kernel_rfl) (by kernel_rfl) ?_
 clear H; intro _ b1 _ H
 refine RW.appL H 2 0 (n := 1) (e2 := 129) (by kernel_rfl) (by kernel_rfl) rfl rfl rfl rfl rfl rfl rfl rfl (by kernel_rfl) (by kernel_rfl) (by kernel_rfl) (by decide) (by decide) rfl rfl (by omega) (by kernel_rfl) ?_
 clear H; intro _ v2 _ H
 dsimp only [setL, delL] at H
 iterate 2 refine RW.v ?_
 refine RW.stL H 0 (vs := [v2]) (cs' := [v2, .map (some M)]) (by kernel_rfl) (by kernel_rfl) rfl rfl rfl (H.sl 1 rfl).one (gr_all (H.sl 1 rfl)) (by kernel_rfl) (Nat.le_of_ble_eq_true rfl) rfl (by kernel_rfl) ?_
 clear H; intro _ _ H; dsimp only [setL, delL] at H
 refine RW.nil ?_
 refine W.rg [(0, pp T), (1, .string ⟨#[115, 101, 108, 102]⟩), (2, .bool true), (7, .int .i64 63)] fun TA => ?_
 refine W.seq ?_
 refine W.seq (W.region ?_)
 refine RW.v ?_
 refine RW.nil ?_
 refine W.c1 ?_
 refine W.region ?_
 iterate 3 refine RW.v ?_
 refine RW.ld H 0 1 ?_
 iterate 2 refine RW.v ?_
 refine RW.upL H 2 (es63 ++ [(.string ⟨#[115, 101, 108, 102]⟩, .int .i64 63)]) 64 ?_
 clear H; intro _ _ H; dsimp only [setL, delL] at H
 refine RW.nil ?_
 refine W.rg [(7, .int .i64 63)] fun TA => ?_
 refine W.seq (W.region ?_)
 iterate 2 refine RW.v ?_
 refine RW.nil ?_
 refine W.ret ?_
 refine endG (by rfl) (by exact resL_tmp rfl) ?_
 iterate 2 refine RW.v ?_
 refine RW.nil ?_
 refine W.ret ?_
 refine endG (by rfl) (by exact resL_tmp (by exact resL_tmp rfl)) ?_
 exact ⟨rfl, _, H⟩
set_option maxHeartbeats 4000000 in
theorem intern2_wc (H : Lies G65 A F σ (.at_ T (.row ⟨[u, .map (some M)], 103, false⟩) :: .sl 129 6 u 64 sy64 :: .at_ M (.ents es64 64) :: L)) : WC G65 Tryd.prog 29 #[pp T, .string ⟨#[120]⟩] σ fun v σ' => v = .tuple #[.int .i64 64, .int .i64 0] ∧ ∃ u', Lies G65 A F σ' (.at_ T (.row ⟨[u', .map (some M)], 103, false⟩) :: .sl 129 6 u' 65 sy65 :: .at_ M (.ents es65 65) :: L) := by
 refine WC.enter (fn := Tryd.f29) Tryd.func29 rfl ?_
 refine W.rg [(0, pp T), (1, .string ⟨#[120]⟩)] fun TA => ?_
 refine W.seq (W.region ?_)
 iterate 2 refine RW.v ?_
 refine RW.nil ?_
 refine W.rg [(0, pp T), (1, .string ⟨#[120]⟩)] fun TA => ?_
 refine W.seq ?_
 refine W.seq (W.region ?_)
 iterate 2 refine RW.v ?_
 refine RW.cl ?_
 refine WC.enter (fn := Tryd.f58) Tryd.func58 rfl ?_
 refine W.rg [(0, pp T), (1, .string ⟨#[120]⟩)] fun TA => ?_
 refine W.seq (W.region ?_)
 refine RW.v ?_
 refine RW.nil ?_
 refine W.rg [(0, pp T), (1, .string ⟨#[120]⟩)] fun TA => ?_
 refine W.seq ?_
 refine W.block ?_
 refine W.seq (W.region ?_)
 refine RW.v ?_
 refine RW.cl ?_
 refine WC.enter (fn := Tryd.f69) Tryd.func69 rfl ?_
 refine W.rg [(0, pp T)] fun TA => ?_
 refine W.seq (W.region ?_)
 refine RW.v ?_
 refine RW.nil ?_
 refine W.rg [(0, pp T)] fun TA => ?_
 refine W.seq (W.region ?_)
 iterate 3 refine RW.v ?_
 refine RW.val (by rfl) (by kernel_rfl) rfl (by kernel_rfl) ?_
 refine RW.val (by rfl) (by kernel_rfl) rfl (by kernel_rfl) ?_
 refine RW.val (by rfl) (by kernel_rfl) rfl (by kernel_rfl) ?_
 refine RW.ldL H 0 1 (by rfl) (by kernel_rfl) rfl rfl rfl rfl rfl (by kernel_rfl) ?_
 refine RW.val (by rfl) (by kernel_rfl) rfl (by kernel_rfl) ?_
 iterate 2 refine RW.v ?_
 refine RW.nil ?_
 refine W.ret ?_
 refine endG (by rfl) (by exact resL_tmp rfl) ?_
 iterate 2 refine RW.v ?_
 refine RW.nil ?_
 refine W.c0 ?_
 refine W.seq (W.region ?_)
 refine RW.v ?_
 refine RW.cl ?_
 refine ⟨_, _, valid2_m, ?_⟩
 iterate 2 refine RW.v ?_
 refine RW.nil ?_
 refine W.c0 ?_
 refine W.seq (W.region ?_)
 refine RW.v ?_
 refine RW.cl ?_
 refine ⟨_, _, len2_m, ?_⟩
 iterate 2 refine RW.v ?_
 refine RW.nil ?_
 refine W.c0 ?_
 refine W.skip ?_
 refine blkQ_normal ?_
 refine W.seq (W.region ?_)
 refine RW.v ?_
 refine RW.nil ?_
 refine W.ret ?_
 refine endG (by rfl) (by exact resL_tmp rfl) ?_
 refine RW.v ?_
 refine RW.nil ?_
 refine W.rg [(0, pp T), (1, .string ⟨#[120]⟩), (6, .int .i64 0)] fun TA => ?_
 refine W.seq (W.region ?_)
 iterate 2 refine RW.v ?_
 refine RW.nil ?_
 refine W.c0 ?_
 refine W.skip ?_
 refine W.seq ?_
 refine W.seq (W.region ?_)
 iterate 3 refine RW.v ?_
 refine RW.ld H 0 1 ?_
 refine RW.v ?_
 refine RW.lkL H 2 (.tuple #[.int .i64 0, .bool false]) ?_
 iterate 5 refine RW.v ?_
 refine RW.nil ?_
 refine W.rg [(0, pp T), (1, .string ⟨#[120]⟩), (7, .int .i64 0), (8, .bool false)] fun TA => ?_
 refine W.seq (W.region ?_)
 refine RW.v ?_
 refine RW.nil ?_
 refine W.c0 ?_
 refine W.skip ?_
 refine W.seq ?_
 refine W.seq (W.region ?_)
 iterate 3 refine RW.v ?_
 refine RW.ld H 0 1 ?_
 refine RW.len (by kernel_rfl) (by kernel_rfl) rfl rfl rfl rfl ((H.sl 1 rfl).len (by kernel_rfl)) (by kernel_rfl) ?_
 refine RW.v ?_
 refine RW.nil ?_
 refine W.c0 ?_
 refine W.skip ?_
 refine W.seq (W.region ?_)
 iterate 2 refine RW.v ?_
 refine RW.cl ?_
 refine WC.enter (fn := Tryd.f59) Tryd.func59 rfl ?_
 refine W.rg [(0, pp T), (1, .string ⟨#[120]⟩), (2, .bool true)] fun TA => ?_
 refine W.seq (W.region ?_)
 refine RW.v ?_
 refine RW.nil ?_
 refine W.rg [(0, pp T), (1, .string ⟨#[120]⟩), (2, .bool true)] fun TA => ?_
 refine W.seq (W.region ?_)
 iterate 3 refine RW.v ?_
 refine RW.ld H 0 1 ?_
 refine RW.len (by kernel_rfl) (by kernel_rfl) rfl rfl rfl rfl ((H.sl 1 rfl).len (by kernel_rfl)) (by kernel_rfl) ?_
 refine RW.v ?_
 refine RW.nil ?_
 refine W.rg [(0, pp T), (1, .string ⟨#[120]⟩), (2, .bool true), (7, .int .i64 64)] fun TA => ?_
 refine W.seq (W.region ?_)
 iterate 4 refine RW.v ?_
 refine RW.ld H 0 1 ?_
 iterate 2 refine RW.v ?_
 refine RW.val (v := .agg #[.int .i64 0, .int .i64 0, .bool false, .string ⟨#[120]⟩, .bool true, .map none]) (by kernel_rfl) (by kernel_rfl) (by kernel_rfl) (by kernel_rfl) ?_
 refine RW.mkL H (x := .row ⟨[.int .i64 0, .int .i64 0, .bool false, .string ⟨#[120]⟩, .bool true, .map none], 129, false⟩) (fm := fun b => .slice (some ⟨b, 0, none⟩) 1 1) (by kernel_rfl) (by kernel_rfl) (by kernel_rfl) (by kernel_rfl) ?_
 clear H; intro _ b1 _ H
 refine RW.appL H 2 0 (n := 1) (e2 := 129) (by kernel_rfl) (by kernel_rfl) rfl rfl rfl rfl rfl rfl rfl rfl (by kernel_rfl) (by kernel_rfl) (by kernel_rfl) (by decide) (by decide) rfl rfl (by omega) (by kernel_rfl) ?_
 clear H; intro _ v2 _ H
 dsimp only [setL, delL] at H
 iterate 2 refine RW.v ?_
 refine RW.stL H 0 (vs := [v2]) (cs' := [v2, .map (some M)]) (by kernel_rfl) (by kernel_rfl) rfl rfl rfl (H.sl 1 rfl).one (gr_all (H.sl 1 rfl)) (by kernel_rfl) (Nat.le_of_ble_eq_true rfl) rfl (by kernel_rfl) ?_
 clear H; intro _ _ H; dsimp only [setL, delL] at H
 refine RW.nil ?_
 refine W.rg [(0, pp T), (1, .string ⟨#[120]⟩), (2, .bool true), (7, .int .i64 64)] fun TA => ?_
 refine W.seq ?_
 refine W.seq (W.region ?_)
 refine RW.v ?_
 refine RW.nil ?_
 refine W.c1 ?_
 refine W.region ?_
 iterate 3 refine RW.v ?_
 refine RW.ld H 0 1 ?_
 iterate 2 refine RW.v ?_
 refine RW.upL H 2 (es64 ++ [(.string ⟨#[120]⟩, .int .i64 64)]) 65 ?_
 clear H; intro _ _ H; dsimp only [setL, delL] at H
 refine RW.nil ?_
 refine W.rg [(7, .int .i64 64)] fun TA => ?_
 refine W.seq (W.region ?_)
 iterate 2 refine RW.v ?_
 refine RW.nil ?_
 refine W.ret ?_
 refine endG (by rfl) (by exact resL_tmp rfl) ?_
 iterate 2 refine RW.v ?_
 refine RW.nil ?_
 refine W.ret ?_
 refine endG (by rfl) (by exact resL_tmp (by exact resL_tmp rfl)) ?_
 exact ⟨rfl, _, H⟩
set_option maxHeartbeats 4000000 in
theorem intern3_wc (H : Lies G65 A F σ (.at_ T (.row ⟨[u, .map (some M)], 103, false⟩) :: .sl 129 6 u 65 sy65 :: .at_ M (.ents es65 65) :: L)) : WC G65 Tryd.prog 29 #[pp T, .string ⟨#[114, 101, 109, 97, 112]⟩] σ fun v σ' => v = .tuple #[.int .i64 65, .int .i64 0] ∧ ∃ u', Lies G65 A F σ' (.at_ T (.row ⟨[u', .map (some M)], 103, false⟩) :: .sl 129 6 u' 66 sy66 :: .at_ M (.ents es66 66) :: L) := by
 refine WC.enter (fn := Tryd.f29) Tryd.func29 rfl ?_
 refine W.rg [(0, pp T), (1, .string ⟨#[114, 101, 109, 97, 112]⟩)] fun TA => ?_
 refine W.seq (W.region ?_)
 iterate 2 refine RW.v ?_
 refine RW.nil ?_
 refine W.rg [(0, pp T), (1, .string ⟨#[114, 101, 109, 97, 112]⟩)] fun TA => ?_
 refine W.seq ?_
 refine W.seq (W.region ?_)
 iterate 2 refine RW.v ?_
 refine RW.cl ?_
 refine WC.enter (fn := Tryd.f58) Tryd.func58 rfl ?_
 refine W.rg [(0, pp T), (1, .string ⟨#[114, 101, 109, 97, 112]⟩)] fun TA => ?_
 refine W.seq (W.region ?_)
 refine RW.v ?_
 refine RW.nil ?_
 refine W.rg [(0, pp T), (1, .string ⟨#[114, 101, 109, 97, 112]⟩)] fun TA => ?_
 refine W.seq ?_
 refine W.block ?_
 refine W.seq (W.region ?_)
 refine RW.v ?_
 refine RW.cl ?_
 refine WC.enter (fn := Tryd.f69) Tryd.func69 rfl ?_
 refine W.rg [(0, pp T)] fun TA => ?_
 refine W.seq (W.region ?_)
 refine RW.v ?_
 refine RW.nil ?_
 refine W.rg [(0, pp T)] fun TA => ?_
 refine W.seq (W.region ?_)
 iterate 3 refine RW.v ?_
 refine RW.val (by rfl) (by kernel_rfl) rfl (by kernel_rfl) ?_
 refine RW.val (by rfl) (by kernel_rfl) rfl (by kernel_rfl) ?_
 refine RW.val (by rfl) (by kernel_rfl) rfl (by kernel_rfl) ?_
 refine RW.ldL H 0 1 (by rfl) (by kernel_rfl) rfl rfl rfl rfl rfl (by kernel_rfl) ?_
 refine RW.val (by rfl) (by kernel_rfl) rfl (by kernel_rfl) ?_
 iterate 2 refine RW.v ?_
 refine RW.nil ?_
 refine W.ret ?_
 refine endG (by rfl) (by exact resL_tmp rfl) ?_
 iterate 2 refine RW.v ?_
 refine RW.nil ?_
 refine W.c0 ?_
 refine W.seq (W.region ?_)
 refine RW.v ?_
 refine RW.cl ?_
 refine ⟨_, _, valid3_m, ?_⟩
 iterate 2 refine RW.v ?_
 refine RW.nil ?_
 refine W.c0 ?_
 refine W.seq (W.region ?_)
 refine RW.v ?_
 refine RW.cl ?_
 refine ⟨_, _, len3_m, ?_⟩
 iterate 2 refine RW.v ?_
 refine RW.nil ?_
 refine W.c0 ?_
 refine W.skip ?_
 refine blkQ_normal ?_
 refine W.seq (W.region ?_)
 refine RW.v ?_
 refine RW.nil ?_
 refine W.ret ?_
 refine endG (by rfl) (by exact resL_tmp rfl) ?_
 refine RW.v ?_
 refine RW.nil ?_
 refine W.rg [(0, pp T), (1, .string ⟨#[114, 101, 109, 97, 112]⟩), (6, .int .i64 0)] fun TA => ?_
 refine W.seq (W.region ?_)
 iterate 2 refine RW.v ?_
 refine RW.nil ?_
 refine W.c0 ?_
 refine W.skip ?_
 refine W.seq ?_
 refine W.seq (W.region ?_)
 iterate 3 refine RW.v ?_
 refine RW.ld H 0 1 ?_
 refine RW.v ?_
 refine RW.lkL H 2 (.tuple #[.int .i64 0, .bool false]) ?_
 iterate 5 refine RW.v ?_
 refine RW.nil ?_
 refine W.rg [(0, pp T), (1, .string ⟨#[114, 101, 109, 97, 112]⟩), (7, .int .i64 0), (8, .bool false)] fun TA => ?_
 refine W.seq (W.region ?_)
 refine RW.v ?_
 refine RW.nil ?_
 refine W.c0 ?_
 refine W.skip ?_
 refine W.seq ?_
 refine W.seq (W.region ?_)
 iterate 3 refine RW.v ?_
 refine RW.ld H 0 1 ?_
 refine RW.len (by kernel_rfl) (by kernel_rfl) rfl rfl rfl rfl ((H.sl 1 rfl).len (by kernel_rfl)) (by kernel_rfl) ?_
 refine RW.v ?_
 refine RW.nil ?_
 refine W.c0 ?_
 refine W.skip ?_
 refine W.seq (W.region ?_)
 iterate 2 refine RW.v ?_
 refine RW.cl ?_
 refine WC.enter (fn := Tryd.f59) Tryd.func59 rfl ?_
 refine W.rg [(0, pp T), (1, .string ⟨#[114, 101, 109, 97, 112]⟩), (2, .bool true)] fun TA => ?_
 refine W.seq (W.region ?_)
 refine RW.v ?_
 refine RW.nil ?_
 refine W.rg [(0, pp T), (1, .string ⟨#[114, 101, 109, 97, 112]⟩), (2, .bool true)] fun TA => ?_
 refine W.seq (W.region ?_)
 iterate 3 refine RW.v ?_
 refine RW.ld H 0 1 ?_
 refine RW.len (by kernel_rfl) (by kernel_rfl) rfl rfl rfl rfl ((H.sl 1 rfl).len (by kernel_rfl)) (by kernel_rfl) ?_
 refine RW.v ?_
 refine RW.nil ?_
 refine W.rg [(0, pp T), (1, .string ⟨#[114, 101, 109, 97, 112]⟩), (2, .bool true), (7, .int .i64 65)] fun TA => ?_
 refine W.seq (W.region ?_)
 iterate 4 refine RW.v ?_
 refine RW.ld H 0 1 ?_
 iterate 2 refine RW.v ?_
 refine RW.val (v := .agg #[.int .i64 0, .int .i64 0, .bool false, .string ⟨#[114, 101, 109, 97, 112]⟩, .bool true, .map none]) (by kernel_rfl) (by kernel_rfl) (by kernel_rfl) (by kernel_rfl) ?_
 refine RW.mkL H (x := .row ⟨[.int .i64 0, .int .i64 0, .bool false, .string ⟨#[114, 101, 109, 97, 112]⟩, .bool true, .map none], 129, false⟩) (fm := fun b => .slice (some ⟨b, 0, none⟩) 1 1) (by kernel_rfl) (by kernel_rfl) (by kernel_rfl) (by kernel_rfl) ?_
 clear H; intro _ b1 _ H
 refine RW.appL H 2 0 (n := 1) (e2 := 129) (by kernel_rfl) (by kernel_rfl) rfl rfl rfl rfl rfl rfl rfl rfl (by kernel_rfl) (by kernel_rfl) (by kernel_rfl) (by decide) (by decide) rfl rfl (by omega) (by kernel_rfl) ?_
 clear H; intro _ v2 _ H
 dsimp only [setL, delL] at H
 iterate 2 refine RW.v ?_
 refine RW.stL H 0 (vs := [v2]) (cs' := [v2, .map (some M)]) (by kernel_rfl) (by kernel_rfl) rfl rfl rfl (H.sl 1 rfl).one (gr_all (H.sl 1 rfl)) (by kernel_rfl) (Nat.le_of_ble_eq_true rfl) rfl (by kernel_rfl) ?_
 clear H; intro _ _ H; dsimp only [setL, delL] at H
 refine RW.nil ?_
 refine W.rg [(0, pp T), (1, .string ⟨#[114, 101, 109, 97, 112]⟩), (2, .bool true), (7, .int .i64 65)] fun TA => ?_
 refine W.seq ?_
 refine W.seq (W.region ?_)
 refine RW.v ?_
 refine RW.nil ?_
 refine W.c1 ?_
 refine W.region ?_
 iterate 3 refine RW.v ?_
 refine RW.ld H 0 1 ?_
 iterate 2 refine RW.v ?_
 refine RW.upL H 2 (es65 ++ [(.string ⟨#[114, 101, 109, 97, 112]⟩, .int .i64 65)]) 66 ?_
 clear H; intro _ _ H; dsimp only [setL, delL] at H
 refine RW.nil ?_
 refine W.rg [(7, .int .i64 65)] fun TA => ?_
 refine W.seq (W.region ?_)
 iterate 2 refine RW.v ?_
 refine RW.nil ?_
 refine W.ret ?_
 refine endG (by rfl) (by exact resL_tmp rfl) ?_
 iterate 2 refine RW.v ?_
 refine RW.nil ?_
 refine W.ret ?_
 refine endG (by rfl) (by exact resL_tmp (by exact resL_tmp rfl)) ?_
 exact ⟨rfl, _, H⟩
set_option maxHeartbeats 4000000 in
theorem intern4_wc (H : Lies G65 A F σ (.at_ T (.row ⟨[u, .map (some M)], 103, false⟩) :: .sl 129 6 u 66 sy66 :: .at_ M (.ents es66 66) :: L)) : WC G65 Tryd.prog 29 #[pp T, .string ⟨#[107, 101, 121, 109, 97, 112]⟩] σ fun v σ' => v = .tuple #[.int .i64 66, .int .i64 0] ∧ ∃ u', Lies G65 A F σ' (.at_ T (.row ⟨[u', .map (some M)], 103, false⟩) :: .sl 129 6 u' 67 sy67 :: .at_ M (.ents es67 67) :: L) := by
 refine WC.enter (fn := Tryd.f29) Tryd.func29 rfl ?_
 refine W.rg [(0, pp T), (1, .string ⟨#[107, 101, 121, 109, 97, 112]⟩)] fun TA => ?_
 refine W.seq (W.region ?_)
 iterate 2 refine RW.v ?_
 refine RW.nil ?_
 refine W.rg [(0, pp T), (1, .string ⟨#[107, 101, 121, 109, 97, 112]⟩)] fun TA => ?_
 refine W.seq ?_
 refine W.seq (W.region ?_)
 iterate 2 refine RW.v ?_
 refine RW.cl ?_
 refine WC.enter (fn := Tryd.f58) Tryd.func58 rfl ?_
 refine W.rg [(0, pp T), (1, .string ⟨#[107, 101, 121, 109, 97, 112]⟩)] fun TA => ?_
 refine W.seq (W.region ?_)
 refine RW.v ?_
 refine RW.nil ?_
 refine W.rg [(0, pp T), (1, .string ⟨#[107, 101, 121, 109, 97, 112]⟩)] fun TA => ?_
 refine W.seq ?_
 refine W.block ?_
 refine W.seq (W.region ?_)
 refine RW.v ?_
 refine RW.cl ?_
 refine WC.enter (fn := Tryd.f69) Tryd.func69 rfl ?_
 refine W.rg [(0, pp T)] fun TA => ?_
 refine W.seq (W.region ?_)
 refine RW.v ?_
 refine RW.nil ?_
 refine W.rg [(0, pp T)] fun TA => ?_
 refine W.seq (W.region ?_)
 iterate 3 refine RW.v ?_
 refine RW.val (by rfl) (by kernel_rfl) rfl (by kernel_rfl) ?_
 refine RW.val (by rfl) (by kernel_rfl) rfl (by kernel_rfl) ?_
 refine RW.val (by rfl) (by kernel_rfl) rfl (by kernel_rfl) ?_
 refine RW.ldL H 0 1 (by rfl) (by kernel_rfl) rfl rfl rfl rfl rfl (by kernel_rfl) ?_
 refine RW.val (by rfl) (by kernel_rfl) rfl (by kernel_rfl) ?_
 iterate 2 refine RW.v ?_
 refine RW.nil ?_
 refine W.ret ?_
 refine endG (by rfl) (by exact resL_tmp rfl) ?_
 iterate 2 refine RW.v ?_
 refine RW.nil ?_
 refine W.c0 ?_
 refine W.seq (W.region ?_)
 refine RW.v ?_
 refine RW.cl ?_
 refine ⟨_, _, valid4_m, ?_⟩
 iterate 2 refine RW.v ?_
 refine RW.nil ?_
 refine W.c0 ?_
 refine W.seq (W.region ?_)
 refine RW.v ?_
 refine RW.cl ?_
 refine ⟨_, _, len4_m, ?_⟩
 iterate 2 refine RW.v ?_
 refine RW.nil ?_
 refine W.c0 ?_
 refine W.skip ?_
 refine blkQ_normal ?_
 refine W.seq (W.region ?_)
 refine RW.v ?_
 refine RW.nil ?_
 refine W.ret ?_
 refine endG (by rfl) (by exact resL_tmp rfl) ?_
 refine RW.v ?_
 refine RW.nil ?_
 refine W.rg [(0, pp T), (1, .string ⟨#[107, 101, 121, 109, 97, 112]⟩), (6, .int .i64 0)] fun TA => ?_
 refine W.seq (W.region ?_)
 iterate 2 refine RW.v ?_
 refine RW.nil ?_
 refine W.c0 ?_
 refine W.skip ?_
 refine W.seq ?_
 refine W.seq (W.region ?_)
 iterate 3 refine RW.v ?_
 refine RW.ld H 0 1 ?_
 refine RW.v ?_
 refine RW.lkL H 2 (.tuple #[.int .i64 0, .bool false]) ?_
 iterate 5 refine RW.v ?_
 refine RW.nil ?_
 refine W.rg [(0, pp T), (1, .string ⟨#[107, 101, 121, 109, 97, 112]⟩), (7, .int .i64 0), (8, .bool false)] fun TA => ?_
 refine W.seq (W.region ?_)
 refine RW.v ?_
 refine RW.nil ?_
 refine W.c0 ?_
 refine W.skip ?_
 refine W.seq ?_
 refine W.seq (W.region ?_)
 iterate 3 refine RW.v ?_
 refine RW.ld H 0 1 ?_
 refine RW.len (by kernel_rfl) (by kernel_rfl) rfl rfl rfl rfl ((H.sl 1 rfl).len (by kernel_rfl)) (by kernel_rfl) ?_
 refine RW.v ?_
 refine RW.nil ?_
 refine W.c0 ?_
 refine W.skip ?_
 refine W.seq (W.region ?_)
 iterate 2 refine RW.v ?_
 refine RW.cl ?_
 refine WC.enter (fn := Tryd.f59) Tryd.func59 rfl ?_
 refine W.rg [(0, pp T), (1, .string ⟨#[107, 101, 121, 109, 97, 112]⟩), (2, .bool true)] fun TA => ?_
 refine W.seq (W.region ?_)
 refine RW.v ?_
 refine RW.nil ?_
 refine W.rg [(0, pp T), (1, .string ⟨#[107, 101, 121, 109, 97, 112]⟩), (2, .bool true)] fun TA => ?_
 refine W.seq (W.region ?_)
 iterate 3 refine RW.v ?_
 refine RW.ld H 0 1 ?_
 refine RW.len (by kernel_rfl) (by kernel_rfl) rfl rfl rfl rfl ((H.sl 1 rfl).len (by kernel_rfl)) (by kernel_rfl) ?_
 refine RW.v ?_
 refine RW.nil ?_
 refine W.rg [(0, pp T), (1, .string ⟨#[107, 101, 121, 109, 97, 112]⟩), (2, .bool true), (7, .int .i64 66)] fun TA => ?_
 refine W.seq (W.region ?_)
 iterate 4 refine RW.v ?_
 refine RW.ld H 0 1 ?_
 iterate 2 refine RW.v ?_
 refine RW.val (v := .agg #[.int .i64 0, .int .i64 0, .bool false, .string ⟨#[107, 101, 121, 109, 97, 112]⟩, .bool true, .map none]) (by kernel_rfl) (by kernel_rfl) (by kernel_rfl) (by kernel_rfl) ?_
 refine RW.mkL H (x := .row ⟨[.int .i64 0, .int .i64 0, .bool false, .string ⟨#[107, 101, 121, 109, 97, 112]⟩, .bool true, .map none], 129, false⟩) (fm := fun b => .slice (some ⟨b, 0, none⟩) 1 1) (by kernel_rfl) (by kernel_rfl) (by kernel_rfl) (by kernel_rfl) ?_
 clear H; intro _ b1 _ H
 refine RW.appL H 2 0 (n := 1) (e2 := 129) (by kernel_rfl) (by kernel_rfl) rfl rfl rfl rfl rfl rfl rfl rfl (by kernel_rfl) (by kernel_rfl) (by kernel_rfl) (by decide) (by decide) rfl rfl (by omega) (by kernel_rfl) ?_
 clear H; intro _ v2 _ H
 dsimp only [setL, delL] at H
 iterate 2 refine RW.v ?_
 refine RW.stL H 0 (vs := [v2]) (cs' := [v2, .map (some M)]) (by kernel_rfl) (by kernel_rfl) rfl rfl rfl (H.sl 1 rfl).one (gr_all (H.sl 1 rfl)) (by kernel_rfl) (Nat.le_of_ble_eq_true rfl) rfl (by kernel_rfl) ?_
 clear H; intro _ _ H; dsimp only [setL, delL] at H
 refine RW.nil ?_
 refine W.rg [(0, pp T), (1, .string ⟨#[107, 101, 121, 109, 97, 112]⟩), (2, .bool true), (7, .int .i64 66)] fun TA => ?_
 refine W.seq ?_
 refine W.seq (W.region ?_)
 refine RW.v ?_
 refine RW.nil ?_
 refine W.c1 ?_
 refine W.region ?_
 iterate 3 refine RW.v ?_
 refine RW.ld H 0 1 ?_
 iterate 2 refine RW.v ?_
 refine RW.upL H 2 (es66 ++ [(.string ⟨#[107, 101, 121, 109, 97, 112]⟩, .int .i64 66)]) 67 ?_
 clear H; intro _ _ H; dsimp only [setL, delL] at H
 refine RW.nil ?_
 refine W.rg [(7, .int .i64 66)] fun TA => ?_
 refine W.seq (W.region ?_)
 iterate 2 refine RW.v ?_
 refine RW.nil ?_
 refine W.ret ?_
 refine endG (by rfl) (by exact resL_tmp rfl) ?_
 iterate 2 refine RW.v ?_
 refine RW.nil ?_
 refine W.ret ?_
 refine endG (by rfl) (by exact resL_tmp (by exact resL_tmp rfl)) ?_
 exact ⟨rfl, _, H⟩
def TabF (F : Nat → Option Blk2) (T : Nat) : Prop := ∃ u M tt gg, F T = some (.row ⟨[u, .map (some M)], tt, gg⟩) ∧ SlF F 6 u 67 sy67 ∧ F M = some (.ents es67 67)
theorem TabF.le {F' : Nat → Option Blk2} (h : TabF F T) (k : Le F F') : TabF F' T := by
 obtain ⟨u, M, tt, gg, h1, h2, h3⟩ := h
 exact ⟨u, M, tt, gg, k _ _ h1, h2.le k, k _ _ h3⟩
set_option maxHeartbeats 8000000 in
theorem fresh_wc (hG : G65 ≤ σ0.next) (ha : σ0.abs = Abs.no) : WC G65 Tryd.prog 8 #[] σ0 fun v σ' => ∃ h T F', v = .tuple #[pp h, pp T] ∧ Le σ0.get F' ∧ TabF F' T ∧ Lies G65 (heapAbs h (hmP [])) F' σ' [] := by
 have H := Lies.start hG ha
 generalize σ0.get = F at H ⊢
 refine WC.enter (fn := Tryd.f8) Tryd.func8 rfl ?_
 refine W.rg [] fun TA => ?_
 refine W.seq (W.region ?_)
 iterate 2 refine RW.v ?_
 refine RW.nil ?_
 refine W.rg [] fun TA => ?_
 refine W.seq (W.region ?_)
 refine RW.cl ?_
 refine ((newP H).mono ?_)
 clear H
 rintro _ _ ⟨h, rfl, H⟩
 iterate 5 refine RW.v ?_
 refine RW.nil ?_
 refine W.rg [(2, pp h)] fun TA => ?_
 refine W.seq (W.region ?_)
 refine RW.cl ?_
 refine ((new_wc H.gn H.abs).mono ?_)
 rintro _ _ ⟨T, M, u0, rfl, K⟩
 replace H := H.then K
 clear K
 dsimp only [tabL, List.nil_append, List.cons_append] at H
 refine RW.v ?_
 refine RW.nil ?_
 refine W.rg [(2, pp h), (4, pp T)] fun TA => ?_
 refine W.seq (W.region ?_)
 refine RW.mkL H (x := .row ⟨[.string ⟨#[102, 105, 110, 100]⟩, .string ⟨#[115, 101, 108, 102]⟩, .string ⟨#[120]⟩, .string ⟨#[114, 101, 109, 97, 112]⟩, .string ⟨#[107, 101, 121, 109, 97, 112]⟩], 9, false⟩) (fm := fun b => .slice (some ⟨b, 0, none⟩) 5 5) (by kernel_rfl) (by kernel_rfl) (by kernel_rfl) (by kernel_rfl) ?_
 clear H; intro _ b1 _ H
 refine RW.v ?_
 refine RW.nil ?_
 refine W.rg [(2, pp h), (4, pp T), (5, .slice (some ⟨b1, 0, none⟩) 5 5)] fun TA => ?_
 refine W.seq ?_
 refine W.seq (W.region ?_)
 refine RW.v ?_
 refine RW.nil ?_
 refine W.rg [(2, pp h), (4, pp T), (5, .slice (some ⟨b1, 0, none⟩) 5 5), (6, .int .i64 0)] fun TA => ?_
 refine W.block ?_
 refine W.unroll (WL.once ?_)
 refine W.seq ?_
 refine W.seq (W.region ?_)
 iterate 4 refine RW.v ?_
 refine RW.nil ?_
 refine W.c1 ?_
 refine W.skip ?_
 refine W.seq ?_
 refine W.block ?_
 refine W.region ?_
 iterate 3 refine RW.v ?_
 refine RW.idx (s := 1) (by kernel_rfl) (by kernel_rfl) rfl Tryd.underlying61 (by kernel_rfl) rfl rfl ⟨by decide, by decide⟩ (by kernel_rfl) ?_
 refine RW.ld H 0 1 ?_
 replace H := H.front 3 rfl
 dsimp only [setL, delL] at H
 replace H := H.front 3 rfl
 dsimp only [setL, delL] at H
 replace H := H.front 3 rfl
 dsimp only [setL, delL] at H
 refine RW.cl ?_
 refine ((intern0_wc H).mono ?_)
 clear H
 rintro _ _ ⟨rfl, u1, H⟩
 refine RW.nil ?_
 refine blkQ_normal ?_
 refine W.rg [(2, pp h), (4, pp T), (5, .slice (some ⟨b1, 0, none⟩) 5 5), (6, .int .i64 0)] fun TA => ?_
 refine W.region ?_
 iterate 3 refine RW.v ?_
 refine RW.nil ?_
 refine WL.once ?_
 refine W.rg [(2, pp h), (4, pp T), (5, .slice (some ⟨b1, 0, none⟩) 5 5), (6, .int .i64 1)] fun TA => ?_
 refine W.seq ?_
 refine W.seq (W.region ?_)
 iterate 4 refine RW.v ?_
 refine RW.nil ?_
 refine W.c1 ?_
 refine W.skip ?_
 refine W.seq ?_
 refine W.block ?_
 refine W.region ?_
 iterate 3 refine RW.v ?_
 refine RW.idx (s := 1) (by kernel_rfl) (by kernel_rfl) rfl Tryd.underlying61 (by kernel_rfl) rfl rfl ⟨by decide, by decide⟩ (by kernel_rfl) ?_
 refine RW.ld H 3 1 ?_
 replace H := H.front 2 rfl
 dsimp only [setL, delL] at H
 replace H := H.front 2 rfl
 dsimp only [setL, delL] at H
 replace H := H.front 2 rfl
 dsimp only [setL, delL] at H
 refine RW.cl ?_
 refine ((intern1_wc H).mono ?_)
 clear H
 rintro _ _ ⟨rfl, u2, H⟩
 refine RW.nil ?_
 refine blkQ_normal ?_
 refine W.rg [(2, pp h), (4, pp T), (5, .slice (some ⟨b1, 0, none⟩) 5 5), (6, .int .i64 1)] fun TA => ?_
 refine W.region ?_
 iterate 3 refine RW.v ?_
 refine RW.nil ?_
 refine WL.once ?_
 refine W.rg [(2, pp h), (4, pp T), (5, .slice (some ⟨b1, 0, none⟩) 5 5), (6, .int .i64 2)] fun TA => ?_
 refine W.seq ?_
 refine W.seq (W.region ?_)
 iterate 4 refine RW.v ?_
 refine RW.nil ?_
 refine W.c1 ?_
 refine W.skip ?_
 refine W.seq ?_
 refine W.block ?_
 refine W.region ?_
 iterate 3 refine RW.v ?_
 refine RW.idx (s := 1) (by kernel_rfl) (by kernel_rfl) rfl Tryd.underlying61 (by kernel_rfl) rfl rfl ⟨by decide, by decide⟩ (by kernel_rfl) ?_
 refine RW.ld H 3 1 ?_
 replace H := H.front 2 rfl
 dsimp only [setL, delL] at H
 replace H := H.front 2 rfl
 dsimp only [setL, delL] at H
 replace H := H.front 2 rfl
 dsimp only [setL, delL] at H
 refine RW.cl ?_
 refine ((intern2_wc H).mono ?_)
 clear H
 rintro _ _ ⟨rfl, u3, H⟩
 refine RW.nil ?_
 refine blkQ_normal ?_
 refine W.rg [(2, pp h), (4, pp T), (5, .slice (some ⟨b1, 0, none⟩) 5 5), (6, .int .i64 2)] fun TA => ?_
 refine W.region ?_
 iterate 3 refine RW.v ?_
 refine RW.nil ?_
 refine WL.once ?_
 refine W.rg [(2, pp h), (4, pp T), (5, .slice (some ⟨b1, 0, none⟩) 5 5), (6, .int .i64 3)] fun TA => ?_
 refine W.seq ?_
 refine W.seq (W.region ?_)
 iterate 4 refine RW.v ?_
 refine RW.nil ?_
 refine W.c1 ?_
 refine W.skip ?_
 refine W.seq ?_
 refine W.block ?_
 refine W.region ?_
 iterate 3 refine RW.v ?_
 refine RW.idx (s := 1) (by kernel_rfl) (by kernel_rfl) rfl Tryd.underlying61 (by kernel_rfl) rfl rfl ⟨by decide, by decide⟩ (by kernel_rfl) ?_
 refine RW.ld H 3 1 ?_
 replace H := H.front 2 rfl
 dsimp only [setL, delL] at H
 replace H := H.front 2 rfl
 dsimp only [setL, delL] at H
 replace H := H.front 2 rfl
 dsimp only [setL, delL] at H
 refine RW.cl ?_
 refine ((intern3_wc H).mono ?_)
 clear H
 rintro _ _ ⟨rfl, u4, H⟩
 refine RW.nil ?_
 refine blkQ_normal ?_
 refine W.rg [(2, pp h), (4, pp T), (5, .slice (some ⟨b1, 0, none⟩) 5 5), (6, .int .i64 3)] fun TA => ?_
 refine W.region ?_
 iterate 3 refine RW.v ?_
 refine RW.nil ?_
 refine WL.once ?_
 refine W.rg [(2, pp h), (4, pp T), (5, .slice (some ⟨b1, 0, none⟩) 5 5), (6, .int .i64 4)] fun TA => ?_
 refine W.seq ?_
 refine W.seq (W.region ?_)
 iterate 4 refine RW.v ?_
 refine RW.nil ?_
 refine W.c1 ?_
 refine W.skip ?_
 refine W.seq ?_
 refine W.block ?_
 refine W.region ?_
 iterate 3 refine RW.v ?_
 refine RW.idx (s := 1) (by kernel_rfl) (by kernel_rfl) rfl Tryd.underlying61 (by kernel_rfl) rfl rfl ⟨by decide, by decide⟩ (by kernel_rfl) ?_
 refine RW.ld H 3 1 ?_
 replace H := H.front 2 rfl
 dsimp only [setL, delL] at H
 replace H := H.front 2 rfl
 dsimp only [setL, delL] at H
 replace H := H.front 2 rfl
 dsimp only [setL, delL] at H
 refine RW.cl ?_
 refine ((intern4_wc H).mono ?_)
 clear H
 rintro _ _ ⟨rfl, u5, H⟩
 refine RW.nil ?_
 refine blkQ_normal ?_
 refine W.rg [(2, pp h), (4, pp T), (5, .slice (some ⟨b1, 0, none⟩) 5 5), (6, .int .i64 4)] fun TA => ?_
 refine W.region ?_
 iterate 3 refine RW.v ?_
 refine RW.nil ?_
 refine WL.once ?_
 refine W.rg [(2, pp h), (4, pp T), (5, .slice (some ⟨b1, 0, none⟩) 5 5), (6, .int .i64 5)] fun TA => ?_
 refine W.seq ?_
 refine W.seq (W.region ?_)
 iterate 4 refine RW.v ?_
 refine RW.nil ?_
 refine W.c0 ?_
 refine W.exit _ ?_
 refine seqQ_exit ?_
 refine onceQ_exit ?_
 refine blkQ_here ?_
 refine W.seq (W.region ?_)
 iterate 4 refine RW.v ?_
 refine RW.nil ?_
 replace H := (H.del 3)
 dsimp only [setL, delL] at H
 refine W.ret ?_
 refine endG (by rfl) (by exact resL_tmp (by exact resL_tmp rfl)) ?_
 replace H := H
 obtain ⟨F1, l1, hT, H⟩ := H.freeze 0 rfl
 obtain ⟨F2, l2, hu, H⟩ := H.freezeSl 0 rfl
 obtain ⟨F3, l3, hM, H⟩ := H.freeze 0 rfl
 exact ⟨_, _, F3, rfl, l1.trans (l2.trans l3), ⟨_, _, _, _, l3 _ _ (l2 _ _ hT), hu.le l3, hM⟩, H⟩
theorem sy67_at : ∀ k, k < 67 → ∃ s, (sy67.drop (k * 6)).take 6 = [.int .i64 0, .int .i64 0, .bool false, .string s, .bool true, .map none]
 | 0, _ => ⟨_, rfl⟩
 | 1, _ => ⟨_, rfl⟩
 | 2, _ => ⟨_, rfl⟩
 | 3, _ => ⟨_, rfl⟩
 | 4, _ => ⟨_, rfl⟩
 | 5, _ => ⟨_, rfl⟩
 | 6, _ => ⟨_, rfl⟩
 | 7, _ => ⟨_, rfl⟩
 | 8, _ => ⟨_, rfl⟩
 | 9, _ => ⟨_, rfl⟩
 | 10, _ => ⟨_, rfl⟩
 | 11, _ => ⟨_, rfl⟩
 | 12, _ => ⟨_, rfl⟩
 | 13, _ => ⟨_, rfl⟩
 | 14, _ => ⟨_, rfl⟩
 | 15, _ => ⟨_, rfl⟩
 | 16, _ => ⟨_, rfl⟩
 | 17, _ => ⟨_, rfl⟩
 | 18, _ => ⟨_, rfl⟩
 | 19, _ => ⟨_, rfl⟩
 | 20, _ => ⟨_, rfl⟩
 | 21, _ => ⟨_, rfl⟩
 | 22, _ => ⟨_, rfl⟩
 | 23, _ => ⟨_, rfl⟩
 | 24, _ => ⟨_, rfl⟩
 | 25, _ => ⟨_, rfl⟩
 | 26, _ => ⟨_, rfl⟩
 | 27, _ => ⟨_, rfl⟩
 | 28, _ => ⟨_, rfl⟩
 | 29, _ => ⟨_, rfl⟩
 | 30, _ => ⟨_, rfl⟩
 | 31, _ => ⟨_, rfl⟩
 | 32, _ => ⟨_, rfl⟩
 | 33, _ => ⟨_, rfl⟩
 | 34, _ => ⟨_, rfl⟩
 | 35, _ => ⟨_, rfl⟩
 | 36, _ => ⟨_, rfl⟩
 | 37, _ => ⟨_, rfl⟩
 | 38, _ => ⟨_, rfl⟩
 | 39, _ => ⟨_, rfl⟩
 | 40, _ => ⟨_, rfl⟩
 | 41, _ => ⟨_, rfl⟩
 | 42, _ => ⟨_, rfl⟩
 | 43, _ => ⟨_, rfl⟩
 | 44, _ => ⟨_, rfl⟩
 | 45, _ => ⟨_, rfl⟩
 | 46, _ => ⟨_, rfl⟩
 | 47, _ => ⟨_, rfl⟩
 | 48, _ => ⟨_, rfl⟩
 | 49, _ => ⟨_, rfl⟩
 | 50, _ => ⟨_, rfl⟩
 | 51, _ => ⟨_, rfl⟩
 | 52, _ => ⟨_, rfl⟩
 | 53, _ => ⟨_, rfl⟩
 | 54, _ => ⟨_, rfl⟩
 | 55, _ => ⟨_, rfl⟩
 | 56, _ => ⟨_, rfl⟩
 | 57, _ => ⟨_, rfl⟩
 | 58, _ => ⟨_, rfl⟩
 | 59, _ => ⟨_, rfl⟩
 | 60, _ => ⟨_, rfl⟩
 | 61, _ => ⟨_, rfl⟩
 | 62, _ => ⟨_, rfl⟩
 | 63, _ => ⟨_, rfl⟩
 | 64, _ => ⟨_, rfl⟩
 | 65, _ => ⟨_, rfl⟩
 | 66, _ => ⟨_, rfl⟩
 | k + 67, h => absurd h (by omega)
set_option maxHeartbeats 4000000 in
theorem find66_wc (hG : G65 ≤ σ0.next) (ha : σ0.abs = A) (hT : TabF σ0.get T) : WC G65 Tryd.prog 45 #[pp T, .string ⟨#[107, 101, 121, 109, 97, 112]⟩] σ0 fun v σ' => v = .tuple #[.int .i64 66, .bool true] ∧ Lies G65 A σ0.get σ' [] := by
 obtain ⟨u, M, tt, gg, hT, hu, hM⟩ := hT
 have H := Lies.start hG ha
 generalize σ0.get = F at H hT hu hM ⊢
 refine WC.enter (fn := Tryd.f45) Tryd.func45 rfl ?_
 refine W.rg [(0, pp T), (1, .string ⟨#[107, 101, 121, 109, 97, 112]⟩)] fun TA => ?_
 refine W.seq (W.region ?_)
 iterate 2 refine RW.v ?_
 refine RW.nil ?_
 refine W.rg [(0, pp T), (1, .string ⟨#[107, 101, 121, 109, 97, 112]⟩)] fun TA => ?_
 refine W.seq ?_
 refine W.seq (W.region ?_)
 refine RW.v ?_
 refine RW.cl ?_
 refine WC.enter (fn := Tryd.f69) Tryd.func69 rfl ?_
 refine W.rg [(0, pp T)] fun TA => ?_
 refine W.seq (W.region ?_)
 refine RW.v ?_
 refine RW.nil ?_
 refine W.rg [(0, pp T)] fun TA => ?_
 refine W.seq (W.region ?_)
 iterate 3 refine RW.v ?_
 refine RW.val (by rfl) (by kernel_rfl) rfl (by kernel_rfl) ?_
 refine RW.val (by rfl) (by kernel_rfl) rfl (by kernel_rfl) ?_
 refine RW.val (by rfl) (by kernel_rfl) rfl (by kernel_rfl) ?_
 refine RW.loads 1 (by rfl) (by kernel_rfl) rfl rfl (H.old _ _ hT) rfl rfl (by kernel_rfl) ?_
 refine RW.val (by rfl) (by kernel_rfl) rfl (by kernel_rfl) ?_
 iterate 2 refine RW.v ?_
 refine RW.nil ?_
 refine W.ret ?_
 refine endG (by rfl) (by exact resL_tmp rfl) ?_
 refine RW.v ?_
 refine RW.nil ?_
 refine W.c0 ?_
 refine W.skip ?_
 refine W.seq (W.region ?_)
 iterate 3 refine RW.v ?_
 refine RW.loads 1 (by kernel_rfl) (by kernel_rfl) rfl rfl (H.old _ _ hT) rfl rfl (by kernel_rfl) ?_
 refine RW.v ?_
 refine RW.lkF (H.old _ _ hM) (.tuple #[.int .i64 66, .bool true]) ?_
 iterate 5 refine RW.v ?_
 refine RW.nil ?_
 refine W.rg [(6, .int .i64 66), (7, .bool true)] fun TA => ?_
 refine W.seq (W.region ?_)
 iterate 4 refine RW.v ?_
 refine RW.nil ?_
 refine W.ret ?_
 refine endG (by rfl) (by exact resL_tmp (by exact resL_tmp rfl)) ?_
 exact ⟨rfl, H⟩
set_option maxHeartbeats 4000000 in
theorem find65_wc (hG : G65 ≤ σ0.next) (ha : σ0.abs = A) (hT : TabF σ0.get T) : WC G65 Tryd.prog 45 #[pp T, .string ⟨#[114, 101, 109, 97, 112]⟩] σ0 fun v σ' => v = .tuple #[.int .i64 65, .bool true] ∧ Lies G65 A σ0.get σ' [] := by
 obtain ⟨u, M, tt, gg, hT, hu, hM⟩ := hT
 have H := Lies.start hG ha
 generalize σ0.get = F at H hT hu hM ⊢
 refine WC.enter (fn := Tryd.f45) Tryd.func45 rfl ?_
 refine W.rg [(0, pp T), (1, .string ⟨#[114, 101, 109, 97, 112]⟩)] fun TA => ?_
 refine W.seq (W.region ?_)
 iterate 2 refine RW.v ?_
 refine RW.nil ?_
 refine W.rg [(0, pp T), (1, .string ⟨#[114, 101, 109, 97, 112]⟩)] fun TA => ?_
 refine W.seq ?_
 refine W.seq (W.region ?_)
 refine RW.v ?_
 refine RW.cl ?_
 refine WC.enter (fn := Tryd.f69) Tryd.func69 rfl ?_
 refine W.rg [(0, pp T)] fun TA => ?_
 refine W.seq (W.region ?_)
 refine RW.v ?_
 refine RW.nil ?_
 refine W.rg [(0, pp T)] fun TA => ?_
 refine W.seq (W.region ?_)
 iterate 3 refine RW.v ?_
 refine RW.val (by rfl) (by kernel_rfl) rfl (by kernel_rfl) ?_
 refine RW.val (by rfl) (by kernel_rfl) rfl (by kernel_rfl) ?_
 refine RW.val (by rfl) (by kernel_rfl) rfl (by kernel_rfl) ?_
 refine RW.loads 1 (by rfl) (by kernel_rfl) rfl rfl (H.old _ _ hT) rfl rfl (by kernel_rfl) ?_
 refine RW.val (by rfl) (by kernel_rfl) rfl (by kernel_rfl) ?_
 iterate 2 refine RW.v ?_
 refine RW.nil ?_
 refine W.ret ?_
 refine endG (by rfl) (by exact resL_tmp rfl) ?_
 refine RW.v ?_
 refine RW.nil ?_
 refine W.c0 ?_
 refine W.skip ?_
 refine W.seq (W.region ?_)
 iterate 3 refine RW.v ?_
 refine RW.loads 1 (by kernel_rfl) (by kernel_rfl) rfl rfl (H.old _ _ hT) rfl rfl (by kernel_rfl) ?_
 refine RW.v ?_
 refine RW.lkF (H.old _ _ hM) (.tuple #[.int .i64 65, .bool true]) ?_
 iterate 5 refine RW.v ?_
 refine RW.nil ?_
 refine W.rg [(6, .int .i64 65), (7, .bool true)] fun TA => ?_
 refine W.seq (W.region ?_)
 iterate 4 refine RW.v ?_
 refine RW.nil ?_
 refine W.ret ?_
 refine endG (by rfl) (by exact resL_tmp (by exact resL_tmp rfl)) ?_
 exact ⟨rfl, H⟩
set_option maxHeartbeats 4000000 in
theorem many_wc (hG : G65 ≤ σ0.next) (ha : σ0.abs = A) (hT : TabF σ0.get T) : WC G65 Tryd.prog 61 #[pp T] σ0 fun v σ' => v = .int .i64 67 ∧ Lies G65 A σ0.get σ' [] := by
 obtain ⟨u, M, tt, gg, hT, hu, hM⟩ := hT
 have H := Lies.start hG ha
 generalize σ0.get = F at H hT hu hM ⊢
 refine WC.enter (fn := Tryd.f61) Tryd.func61 rfl ?_
 refine W.rg [(0, pp T)] fun TA => ?_
 refine W.seq (W.region ?_)
 refine RW.v ?_
 refine RW.nil ?_
 refine W.rg [(0, pp T)] fun TA => ?_
 refine W.seq ?_
 refine W.seq (W.region ?_)
 refine RW.v ?_
 refine RW.cl ?_
 refine WC.enter (fn := Tryd.f69) Tryd.func69 rfl ?_
 refine W.rg [(0, pp T)] fun TA => ?_
 refine W.seq (W.region ?_)
 refine RW.v ?_
 refine RW.nil ?_
 refine W.rg [(0, pp T)] fun TA => ?_
 refine W.seq (W.region ?_)
 iterate 3 refine RW.v ?_
 refine RW.val (by rfl) (by kernel_rfl) rfl (by kernel_rfl) ?_
 refine RW.val (by rfl) (by kernel_rfl) rfl (by kernel_rfl) ?_
 refine RW.val (by rfl) (by kernel_rfl) rfl (by kernel_rfl) ?_
 refine RW.loads 1 (by rfl) (by kernel_rfl) rfl rfl (H.old _ _ hT) rfl rfl (by kernel_rfl) ?_
 refine RW.val (by rfl) (by kernel_rfl) rfl (by kernel_rfl) ?_
 iterate 2 refine RW.v ?_
 refine RW.nil ?_
 refine W.ret ?_
 refine endG (by rfl) (by exact resL_tmp rfl) ?_
 refine RW.v ?_
 refine RW.nil ?_
 refine W.c0 ?_
 refine W.skip ?_
 refine W.seq (W.region ?_)
 iterate 3 refine RW.v ?_
 refine RW.loads 1 (by kernel_rfl) (by kernel_rfl) rfl rfl (H.old _ _ hT) rfl rfl (by kernel_rfl) ?_
 refine RW.len (by kernel_rfl) (by kernel_rfl) rfl rfl rfl rfl (hu.len (e := 129) (by kernel_rfl)) (by kernel_rfl) ?_
 refine RW.v ?_
 refine RW.nil ?_
 refine W.ret ?_
 refine endG (by rfl) (by exact resL_tmp rfl) ?_
 exact ⟨rfl, H⟩
set_option maxHeartbeats 4000000 in
theorem intern66_wc (hG : G65 ≤ σ0.next) (ha : σ0.abs = A) (hT : TabF σ0.get T) : WC G65 Tryd.prog 29 #[pp T, .string ⟨#[107, 101, 121, 109, 97, 112]⟩] σ0 fun v σ' => v = .tuple #[.int .i64 66, .int .i64 0] ∧ Lies G65 A σ0.get σ' [] := by
 obtain ⟨u, M, tt, gg, hT, hu, hM⟩ := hT
 have H := Lies.start hG ha
 generalize σ0.get = F at H hT hu hM ⊢
 refine WC.enter (fn := Tryd.f29) Tryd.func29 rfl ?_
 refine W.rg [(0, pp T), (1, .string ⟨#[107, 101, 121, 109, 97, 112]⟩)] fun TA => ?_
 refine W.seq (W.region ?_)
 iterate 2 refine RW.v ?_
 refine RW.nil ?_
 refine W.rg [(0, pp T), (1, .string ⟨#[107, 101, 121, 109, 97, 112]⟩)] fun TA => ?_
 refine W.seq ?_
 refine W.seq (W.region ?_)
 iterate 2 refine RW.v ?_
 refine RW.cl ?_
 refine WC.enter (fn := Tryd.f58) Tryd.func58 rfl ?_
 refine W.rg [(0, pp T), (1, .string ⟨#[107, 101, 121, 109, 97, 112]⟩)] fun TA => ?_
 refine W.seq (W.region ?_)
 refine RW.v ?_
 refine RW.nil ?_
 refine W.rg [(0, pp T), (1, .string ⟨#[107, 101, 121, 109, 97, 112]⟩)] fun TA => ?_
 refine W.seq ?_
 refine W.block ?_
 refine W.seq (W.region ?_)
 refine RW.v ?_
 refine RW.cl ?_
 refine WC.enter (fn := Tryd.f69) Tryd.func69 rfl ?_
 refine W.rg [(0, pp T)] fun TA => ?_
 refine W.seq (W.region ?_)
 refine RW.v ?_
 refine RW.nil ?_
 refine W.rg [(0, pp T)] fun TA => ?_
 refine W.seq (W.region ?_)
 iterate 3 refine RW.v ?_
 refine RW.val (by rfl) (by kernel_rfl) rfl (by kernel_rfl) ?_
 refine RW.val (by rfl) (by kernel_rfl) rfl (by kernel_rfl) ?_
 refine RW.val (by rfl) (by kernel_rfl) rfl (by kernel_rfl) ?_
 refine RW.loads 1 (by rfl) (by kernel_rfl) rfl rfl (H.old _ _ hT) rfl rfl (by kernel_rfl) ?_
 refine RW.val (by rfl) (by kernel_rfl) rfl (by kernel_rfl) ?_
 iterate 2 refine RW.v ?_
 refine RW.nil ?_
 refine W.ret ?_
 refine endG (by rfl) (by exact resL_tmp rfl) ?_
 iterate 2 refine RW.v ?_
 refine RW.nil ?_
 refine W.c0 ?_
 refine W.seq (W.region ?_)
 refine RW.v ?_
 refine RW.cl ?_
 refine ⟨_, _, valid4_m, ?_⟩
 iterate 2 refine RW.v ?_
 refine RW.nil ?_
 refine W.c0 ?_
 refine W.seq (W.region ?_)
 refine RW.v ?_
 refine RW.cl ?_
 refine ⟨_, _, len4_m, ?_⟩
 iterate 2 refine RW.v ?_
 refine RW.nil ?_
 refine W.c0 ?_
 refine W.skip ?_
 refine blkQ_normal ?_
 refine W.seq (W.region ?_)
 refine RW.v ?_
 refine RW.nil ?_
 refine W.ret ?_
 refine endG (by rfl) (by exact resL_tmp rfl) ?_
 refine RW.v ?_
 refine RW.nil ?_
 refine W.rg [(0, pp T), (1, .string ⟨#[107, 101, 121, 109, 97, 112]⟩), (6, .int .i64 0)] fun TA => ?_
 refine W.seq (W.region ?_)
 iterate 2 refine RW.v ?_
 refine RW.nil ?_
 refine W.c0 ?_
 refine W.skip ?_
 refine W.seq ?_
 refine W.seq (W.region ?_)
 iterate 3 refine RW.v ?_
 refine RW.loads 1 (by kernel_rfl) (by kernel_rfl) rfl rfl (H.old _ _ hT) rfl rfl (by kernel_rfl) ?_
 refine RW.v ?_
 refine RW.lkF (H.old _ _ hM) (.tuple #[.int .i64 66, .bool true]) ?_
 iterate 5 refine RW.v ?_
 refine RW.nil ?_
 refine W.rg [(0, pp T), (1, .string ⟨#[107, 101, 121, 109, 97, 112]⟩), (7, .int .i64 66), (8, .bool true)] fun TA => ?_
 refine W.seq (W.region ?_)
 refine RW.v ?_
 refine RW.nil ?_
 refine W.c1 ?_
 refine W.seq (W.region ?_)
 iterate 3 refine RW.v ?_
 refine RW.nil ?_
 refine W.ret ?_
 refine seqQ_ret ?_
 refine endG (by rfl) (by exact resL_tmp (by exact resL_tmp rfl)) ?_
 exact ⟨rfl, H⟩
set_option maxHeartbeats 4000000 in
theorem func_wc {n : Int} (n0 : 0 ≤ n) (n1 : n < 67) (hG : G65 ≤ σ0.next) (ha : σ0.abs = A) (hT : TabF σ0.get T) : WC G65 Tryd.prog 71 #[pp T, .int .i64 n] σ0 fun v σ' => v = .tuple #[wdV (0, 0), .bool false] ∧ Lies G65 A σ0.get σ' [] := by
 obtain ⟨u, M, tt, gg, hT, hu, hM⟩ := hT
 obtain ⟨s, hs⟩ := sy67_at n.toNat (by omega)
 have H := Lies.start hG ha
 generalize σ0.get = F at H hT hu hM ⊢
 refine WC.enter (fn := Tryd.f71) Tryd.func71 rfl ?_
 refine W.rg [(0, pp T), (1, .int .i64 n)] fun TA => ?_
 refine W.seq (W.region ?_)
 refine RW.mk H (.row ⟨[.int .i64 0, .int .i64 0], 28, false⟩) ?_
 clear H; intro _ b1 _ H
 refine RW.v ?_
 refine RW.nil ?_
 refine W.rg [(0, pp T), (1, .int .i64 n), (4, pp b1)] fun TA => ?_
 refine W.seq ?_
 refine W.seq (W.region ?_)
 iterate 2 refine RW.v ?_
 refine RW.cl ?_
 refine WC.enter (fn := Tryd.f82) Tryd.func82 rfl ?_
 refine W.rg [(0, pp T), (1, .int .i64 n)] fun TA => ?_
 refine W.seq (W.region ?_)
 refine RW.v ?_
 refine RW.nil ?_
 refine W.rg [(0, pp T), (1, .int .i64 n)] fun TA => ?_
 refine W.seq (W.region ?_)
 refine RW.v ?_
 refine RW.cl ?_
 refine WC.enter (fn := Tryd.f69) Tryd.func69 rfl ?_
 refine W.rg [(0, pp T)] fun TA => ?_
 refine W.seq (W.region ?_)
 refine RW.v ?_
 refine RW.nil ?_
 refine W.rg [(0, pp T)] fun TA => ?_
 refine W.seq (W.region ?_)
 iterate 3 refine RW.v ?_
 refine RW.val (by rfl) (by kernel_rfl) rfl (by kernel_rfl) ?_
 refine RW.val (by rfl) (by kernel_rfl) rfl (by kernel_rfl) ?_
 refine RW.val (by rfl) (by kernel_rfl) rfl (by kernel_rfl) ?_
 refine RW.loads 1 (by rfl) (by kernel_rfl) rfl rfl (H.old _ _ hT) rfl rfl (by kernel_rfl) ?_
 refine RW.val (by rfl) (by kernel_rfl) rfl (by kernel_rfl) ?_
 iterate 2 refine RW.v ?_
 refine RW.nil ?_
 refine W.ret ?_
 refine endG (by rfl) (by exact resL_tmp rfl) ?_
 refine RW.v ?_
 refine RW.val (by rfl) (by kernel_rfl) rfl (by kernel_rfl) ?_
 refine RW.valE (v' := .bool true) (by rfl) (by kernel_rfl) rfl (congrArg Value.bool (decide_eq_true (by omega))) (by kernel_rfl) ?_
 iterate 2 refine RW.v ?_
 refine RW.val (by rfl) (by kernel_rfl) rfl (by kernel_rfl) ?_
 refine RW.val (by rfl) (by kernel_rfl) rfl (by kernel_rfl) ?_
 refine RW.val (by rfl) (by kernel_rfl) rfl (by kernel_rfl) ?_
 refine RW.val (by rfl) (by kernel_rfl) rfl (by kernel_rfl) ?_
 refine RW.loads 1 (by rfl) (by kernel_rfl) rfl rfl (H.old _ _ hT) rfl rfl (by kernel_rfl) ?_
 refine RW.len (by rfl) (by kernel_rfl) rfl rfl rfl rfl (hu.len (e := 129) (by kernel_rfl)) (by kernel_rfl) ?_
 refine RW.valE (v' := .bool true) (by rfl) (by kernel_rfl) rfl (congrArg Value.bool (decide_eq_true (by omega))) (by kernel_rfl) ?_
 iterate 2 refine RW.v ?_
 refine RW.nil ?_
 refine W.ret ?_
 refine endG (by rfl) (by exact resL_tmp rfl) ?_
 refine RW.v ?_
 refine RW.nil ?_
 refine W.c0 ?_
 refine W.skip ?_
 refine W.seq ?_
 refine W.drawn (by kernel_rfl) (by kernel_rfl) H.gn ?_
 have H2 := H
 iterate 3 refine RW.v ?_
 refine RW.loads 1 (by kernel_rfl) (by kernel_rfl) rfl rfl (H2.old _ _ hT) rfl rfl (by kernel_rfl) ?_
 refine RW.v ?_
 refine RW.idxF hu (by kernel_rfl) (by kernel_rfl) rfl Tryd.underlying101 (by kernel_rfl) rfl rfl ⟨by omega, by omega⟩ (by kernel_rfl) ?_
 intro b3 q4 r5 hF6 hE7
 rw [hs] at hE7
 iterate 2 refine RW.v ?_
 refine RW.loads 2 (by kernel_rfl) (by kernel_rfl) rfl rfl (H2.old _ _ hF6) (sub_take hE7 0 2 (by decide)) rfl (by kernel_rfl) ?_
 iterate 3 refine RW.v ?_
 refine RW.loads 1 (by kernel_rfl) (by kernel_rfl) rfl rfl (H2.old _ _ hT) rfl rfl (by kernel_rfl) ?_
 refine RW.v ?_
 refine RW.idxF hu (by kernel_rfl) (by kernel_rfl) rfl Tryd.underlying101 (by kernel_rfl) rfl rfl ⟨by omega, by omega⟩ (by kernel_rfl) ?_
 intro b8 q9 r10 hF11 hE12
 rw [hs] at hE12
 iterate 2 refine RW.v ?_
 refine RW.loads 1 (by kernel_rfl) (by kernel_rfl) rfl rfl (H2.old _ _ hF11) (sub_take hE12 2 1 (by decide)) rfl (by kernel_rfl) ?_
 refine RW.stD H2 0 (vs := [.int .i64 0, .int .i64 0]) (cs' := [.int .i64 0, .int .i64 0]) (by kernel_rfl) (by kernel_rfl) rfl rfl rfl rfl rfl (by kernel_rfl) (Nat.le_of_ble_eq_true rfl) rfl (by kernel_rfl) ?_
 intro _ H13
 dsimp only [setL, delL] at H13
 refine RW.v ?_
 refine RW.nil ?_
 refine ⟨⟨by kernel_rfl, ⟨trivial, trivial, trivial, dyn_row (H2.old _ _ hT) (H13.old _ _ hT) ⟨fun h => Bool.noConfusion h, fun h => Bool.noConfusion h, fun h => Bool.noConfusion h, fun h => Bool.noConfusion h, fun h => Bool.noConfusion h, fun h => Bool.noConfusion h, fun h => Bool.noConfusion h, fun h => Bool.noConfusion h, fun h => Bool.noConfusion h, fun h => Bool.noConfusion h, fun h => Bool.noConfusion h, fun h => Bool.noConfusion h, fun h => Bool.noConfusion h, fun h => Bool.noConfusion h, fun h => Bool.noConfusion h, fun h => Bool.noConfusion h, fun h => Bool.noConfusion h, fun h => Bool.noConfusion h, fun _ => H2.old _ _ hT, fun h => Bool.noConfusion h, trivial⟩, trivial, trivial, trivial, trivial, dyn_row (H2.old _ _ hF6) (H13.old _ _ hF6) ⟨fun h => Bool.noConfusion h, fun h => Bool.noConfusion h, fun h => Bool.noConfusion h, fun h => Bool.noConfusion h, fun h => Bool.noConfusion h, fun h => Bool.noConfusion h, fun h => Bool.noConfusion h, fun h => Bool.noConfusion h, fun h => Bool.noConfusion h, fun h => Bool.noConfusion h, fun h => Bool.noConfusion h, fun h => Bool.noConfusion h, fun h => Bool.noConfusion h, fun h => Bool.noConfusion h, fun h => Bool.noConfusion h, fun h => Bool.noConfusion h, fun h => Bool.noConfusion h, fun h => Bool.noConfusion h, fun _ => H2.old _ _ hF6, fun h => Bool.noConfusion h, trivial⟩, trivial, trivial, trivial, dyn_row (H2.old _ _ hT) (H13.old _ _ hT) ⟨fun h => Bool.noConfusion h, fun h => Bool.noConfusion h, fun h => Bool.noConfusion h, fun h => Bool.noConfusion h, fun h => Bool.noConfusion h, fun h => Bool.noConfusion h, fun h => Bool.noConfusion h, fun h => Bool.noConfusion h, fun h => Bool.noConfusion h, fun h => Bool.noConfusion h, fun h => Bool.noConfusion h, fun h => Bool.noConfusion h, fun h => Bool.noConfusion h, fun h => Bool.noConfusion h, fun h => Bool.noConfusion h, fun h => Bool.noConfusion h, fun h => Bool.noConfusion h, fun h => Bool.noConfusion h, fun _ => H2.old _ _ hT, fun h => Bool.noConfusion h, trivial⟩, trivial, trivial, trivial, trivial, dyn_row (H2.old _ _ hF11) (H13.old _ _ hF11) ⟨fun h => Bool.noConfusion h, fun h => Bool.noConfusion h, fun h => Bool.noConfusion h, fun h => Bool.noConfusion h, fun h => Bool.noConfusion h, fun h => Bool.noConfusion h, fun h => Bool.noConfusion h, fun h => Bool.noConfusion h, fun h => Bool.noConfusion h, fun h => Bool.noConfusion h, fun h => Bool.noConfusion h, fun h => Bool.noConfusion h, fun h => Bool.noConfusion h, fun h => Bool.noConfusion h, fun h => Bool.noConfusion h, fun h => Bool.noConfusion h, fun h => Bool.noConfusion h, fun h => Bool.noConfusion h, fun _ => H2.old _ _ hF11, fun h => Bool.noConfusion h, trivial⟩, trivial, trivial, trivial⟩⟩, ?_⟩
 replace H := H13
 clear H2 H13
 refine W.ret ?_
 refine endG (by rfl) (by exact resL_cell rfl (H.get 0 rfl) (by rw [uT_eq]; exact Tryd.underlying28) (by kernel_rfl) rfl rfl (by exact resL_tmp rfl)) ?_
 exact ⟨rfl, (H.del 0)⟩
end
end Go.Proofs.YtdbmflnkdoeaoaaDoor
