/-
  The common prefix. Conditions: the tables of unicode/utf8 lie.
  Closures over candidates; the status. Conditions: none.
-/
import Derived.Test.YthemeeiedlbhkaaDoorC1
import Derived.Test.YthemeeiedlbhkaaDoorL3
import Derived.Test.YthemeeiedlbhkaaDoorRunes
import Derived.Test.YthemeeiedlbhkaaDoorShelf
namespace Go.Proofs.YthemeeiedlbhkaaDoor
open Go.Lib
set_option maxRecDepth 100000
open Go.RowKit
def AllZ (F : Nat → Option Blk2) (cs : List Value) (ls : List (List Int)) : Prop := cs.length = ls.length ∧ ∀ j, j < ls.length → SlK F 1 (cs.getD j undef) (ls.getD j []).length ((ls.getD j []).map runeV)
theorem AllZ.le {F F' : Nat → Option Blk2} {cs : List Value} {ls : List (List Int)} (h : AllZ F cs ls) (k : Le F F') : AllZ F' cs ls := ⟨h.1, fun j hj => (h.2 j hj).le k⟩
theorem AllZ.nil {F : Nat → Option Blk2} : AllZ F [] [] := ⟨rfl, fun j hj => absurd hj (Nat.not_lt_zero _)⟩
theorem getD_dropR {α : Type} {l : List α} {j k : Nat} {d : α} : (l.drop k).getD j d = l.getD (k + j) d := by
 rw [List.getD_eq_getElem?_getD, List.getD_eq_getElem?_getD, List.getElem?_drop]
theorem AllZ.drop {F : Nat → Option Blk2} {cs : List Value} {ls : List (List Int)} (a : AllZ F cs ls) (k : Nat) : AllZ F (cs.drop k) (ls.drop k) := by
 refine ⟨by rw [List.length_drop, List.length_drop, a.1], fun j hj => ?_⟩
 rw [List.length_drop] at hj
 rw [getD_dropR, getD_dropR]
 exact a.2 _ (by omega)
section
variable {P : Program} {o : Oper}
theorem vop_backNR {ρ : Operand → Value} {src dst e : TypeId} {x : Operand} (ho : o.op = .convert src dst x) (hx : ρ x = .slice none 0 0) (hs : P.underlying src = some (.slice e)) (he : P.underlying e = some (.int .i32)) (hd : P.underlying dst = some .string) : VOp P o ρ (.string ⟨#[]⟩) := fun μ ρc hor => by
 rw [ho] at hor
 have hv := hor x (by simp [Op.operands])
 rw [hx] at hv
 have hv := flatV_eq rfl hv
 refine ⟨_, .flat _ rfl, fun w => ?_⟩
 unfold execOp
 simp only [ho, hv, Sem.run_bind, run_convert_runes_string w src dst e _ _ _ hs he hd, Conv.runesToString, Sem.run_pure, Result.andThen_ok]
 rfl
theorem vop_backZ {F : Nat → Option Blk2} {ρ : Operand → Value} {src dst e : TypeId} {x : Operand} {v : Value} (h : SlK F 1 v ([] : List Int).length (([] : List Int).map runeV)) (ho : o.op = .convert src dst x) (hx : ρ x = v) (hs : uT P src = some (.slice e)) (he : uT P e = some (.int .i32)) (hd : uT P dst = some .string) : VOp P o ρ (.string ⟨(encA []).toArray⟩) := by
 generalize hn : ([] : List Int).length = n at h
 cases h with
 | nil => exact vop_backNR ho hx (by rw [← uT_eq]; exact hs) (by rw [← uT_eq]; exact he) (by rw [← uT_eq]; exact hd)
 | @some b p _ c sp r _ hr hx2 hc hle hsp =>
  obtain rfl : 0 = n := hn
  exact vop_back0 ho hx (backF_runes hs he hd (cs := []) fun c h => absurd h (List.not_mem_nil))
end
section
variable {G : Nat} {A : Abs} {σ : Mem} {F : Nat → Option Blk2} {L : List Ent} {fold : Bool} {l : List (List UInt8)} {xs : List Int} {ls : List (List Int)} {sls : List Value} {v1 v2 : Value}
theorem s_valid {bs : List UInt8} (hU : U8F σ.get) (h16 : 16 ≤ G) (hs : bs.length ≤ 1000000) : SCall G Tryd.prog 36 #[.string ⟨bs.toArray⟩] σ (.bool (validD bs)) σ :=
 below_callT hU.rows h16 rfl rfl fun w hT => by
  have e : (⟨bs.toArray⟩ : ByteArray).data.toList = bs := by simp
  cases hv : validD bs with
  | true => exact valid_yes ⟨bs.toArray⟩ w (by show bs.length ≤ _; omega) hT (by rw [e]; exact hv)
  | false => exact valid_no ⟨bs.toArray⟩ w (by show bs.length ≤ _; omega) hT (by rw [e]; exact hv)
theorem s_count {bs : List UInt8} (hs : bs.length ≤ 1000000) : SCall G Tryd.prog 69 #[.string ⟨bs.toArray⟩] σ (.int .i64 (((runes bs).length : Nat) : Int)) σ :=
 below_call rfl rfl fun w => by
  have := Tryd.utf8_RuneCountInString ⟨bs.toArray⟩ w (by show bs.length < _; omega)
  rw [runeCount_eq] at this
  refine this.mono ?_
  rintro e w' ⟨rfl, pos, rfl⟩
  exact ⟨by simp, below_iter _ _ _⟩
end
end Go.Proofs.YthemeeiedlbhkaaDoor
namespace Go.Proofs.YthemeeiedlbhkaaDoor
open Go.Lib
set_option maxRecDepth 100000
open Go.RowKit
section
variable {G : Nat} {A : Abs} {σ : Mem} {F : Nat → Option Blk2} {L : List Ent} {fold : Bool} {l m : List (List UInt8)} {ys : List Int} {b7 b8 : Nat} {w v1 : Value}
end
end Go.Proofs.YthemeeiedlbhkaaDoor
