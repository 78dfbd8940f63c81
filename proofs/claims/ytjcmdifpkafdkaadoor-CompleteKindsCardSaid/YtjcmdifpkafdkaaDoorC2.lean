/-
 The common prefix. Conditions: the tables of unicode/utf8 lie.
 Closures over candidates; the status. Conditions: none.
-/
import Derived.Test.YtjcmdifpkafdkaaDoorC1
import Derived.Test.YtjcmdifpkafdkaaDoorL3
import Derived.Test.YtjcmdifpkafdkaaDoorRunes
import Derived.Test.YtjcmdifpkafdkaaDoorShelf
namespace Go.Proofs.YtjcmdifpkafdkaaDoor
open Go.Lib
set_option maxRecDepth 100000
open Go.RowKit
theorem vals_at {l : List Value} {j : Nat} {i : Int} (hi : i = ((j : Nat) : Int)) (h : j < l.length) : (l.drop (i.toNat * 1)).take 1 = [l.getD j undef] := by
 subst hi
 rw [Int.toNat_natCast, Nat.mul_one, List.getD_eq_getElem?_getD, List.getElem?_eq_getElem h, List.drop_eq_getElem_cons h]
 rfl
theorem lst_mem {α : Type} {l : List (List α)} {j : Nat} (h : j < l.length) : l.getD j [] ∈ l := by
 rw [List.getD_eq_getElem?_getD, List.getElem?_eq_getElem h]
 exact List.getElem_mem _
theorem mem_of {l : List (List UInt8)} {j : Nat} (h : j < l.length) : l.getD j [] ∈ l := lst_mem h
def AllZ (F : Nat → Option Blk2) (cs : List Value) (ls : List (List Int)) : Prop := cs.length = ls.length ∧ ∀ j, j < ls.length → SlK F 1 (cs.getD j undef) (ls.getD j []).length ((ls.getD j []).map runeV)
theorem AllZ.le {F F' : Nat → Option Blk2} {cs : List Value} {ls : List (List Int)} (h : AllZ F cs ls) (k : Le F F') : AllZ F' cs ls := ⟨h.1, fun j hj => (h.2 j hj).le k⟩
theorem AllZ.nil {F : Nat → Option Blk2} : AllZ F [] [] := ⟨rfl, fun j hj => absurd hj (Nat.not_lt_zero _)⟩
theorem getL {α : Type} {a b : List α} {j : Nat} {d : α} (h : j < a.length) : (a ++ b).getD j d = a.getD j d := by
 rw [List.getD_eq_getElem?_getD, List.getElem?_append_left h, ← List.getD_eq_getElem?_getD]
theorem getZ {α : Type} {a : List α} {j : Nat} {x d : α} (h : j = a.length) : (a ++ [x]).getD j d = x := by
 subst h
 simp
theorem AllZ.snoc {F : Nat → Option Blk2} {cs : List Value} {ls : List (List Int)} {c : Value} {x : List Int} (a : AllZ F cs ls) (h : SlK F 1 c x.length (x.map runeV)) : AllZ F (cs ++ [c]) (ls ++ [x]) := by
 refine ⟨by rw [List.length_append, List.length_append, a.1]; rfl, fun j hj => ?_⟩
 rw [List.length_append, List.length_singleton] at hj
 have a1 := a.1
 rcases Nat.lt_or_ge j ls.length with k | k
 ·rw [getL (by omega), getL k]
  exact a.2 j k
 ·obtain rfl : j = ls.length := by omega
  rw [getZ (show ls.length = cs.length by omega), getZ rfl]
  exact h
theorem getD_dropR {α : Type} {l : List α} {j k : Nat} {d : α} : (l.drop k).getD j d = l.getD (k + j) d := by
 rw [List.getD_eq_getElem?_getD, List.getD_eq_getElem?_getD, List.getElem?_drop]
theorem AllZ.drop {F : Nat → Option Blk2} {cs : List Value} {ls : List (List Int)} (a : AllZ F cs ls) (k : Nat) : AllZ F (cs.drop k) (ls.drop k) := by
 refine ⟨by rw [List.length_drop, List.length_drop, a.1], fun j hj => ?_⟩
 rw [List.length_drop] at hj
 rw [getD_dropR, getD_dropR]
 exact a.2 _ (by omega)
section
variable {P : Program} {o : Oper}
end
section
variable {G : Nat} {A : Abs} {σ : Mem} {F : Nat → Option Blk2} {L : List Ent} {fold : Bool} {l : List (List UInt8)} {xs : List Int} {ls : List (List Int)} {sls : List Value} {v1 v2 : Value}
theorem s_valid {bs : List UInt8} (hU : U8F σ.get) (h16 : 16 ≤ G) (hs : bs.length ≤ 1000000) : SCall G Tryd.prog 52 #[.string ⟨bs.toArray⟩] σ (.bool (validD bs)) σ :=
 below_callT hU.rows h16 rfl rfl fun w hT => by
  have e : (⟨bs.toArray⟩ : ByteArray).data.toList = bs := by simp
  cases hv : validD bs with
  | true => exact valid_yes ⟨bs.toArray⟩ w (by show bs.length ≤ _; omega) hT (by rw [e]; exact hv)
  | false => exact valid_no ⟨bs.toArray⟩ w (by show bs.length ≤ _; omega) hT (by rw [e]; exact hv)
theorem s_count {bs : List UInt8} (hs : bs.length ≤ 1000000) : SCall G Tryd.prog 61 #[.string ⟨bs.toArray⟩] σ (.int .i64 (((runes bs).length : Nat) : Int)) σ :=
 below_call rfl rfl fun w => by
  have := Tryd.utf8_RuneCountInString ⟨bs.toArray⟩ w (by show bs.length < _; omega)
  rw [runeCount_eq] at this
  refine this.mono ?_
  rintro e w' ⟨rfl, pos, rfl⟩
  exact ⟨by simp, below_iter _ _ _⟩
end
end Go.Proofs.YtjcmdifpkafdkaaDoor
namespace Go.Proofs.YtjcmdifpkafdkaaDoor
open Go.Lib
set_option maxRecDepth 100000
open Go.RowKit
theorem runes_in (s : List UInt8) : ∀ c ∈ runes s, 0 ≤ c ∧ c ≤ 1114111 := by
 have h : ∀ (n : Nat) (l : List UInt8), ∀ c ∈ runesF n l, 0 ≤ c ∧ c ≤ 1114111 := by
  intro n
  induction n with
  | zero => intro l c h; simp [runesF] at h
  | succ n ih =>
   intro l c h
   unfold runesF at h
   split at h
   ·simp at h
   ·rcases List.mem_cons.1 h with rfl | h
    ·have e := dec_list l 0
     rw [List.drop_zero] at e
     have hr : (decodeL l).1 ≤ 1114111 := by rw [← e]; exact rune_le _ _
     omega
    ·exact ih _ c h
 exact h _ _
section
variable {G : Nat} {A : Abs} {σ : Mem} {F : Nat → Option Blk2} {L : List Ent} {fold : Bool} {l m : List (List UInt8)} {ys : List Int} {b7 b8 : Nat} {w v1 : Value}
set_option maxHeartbeats 4000000 in
theorem cl_all {s : List UInt8} (hb7 : F b7 = some (.row ⟨[.func (.func (cond fold 84 86)) #[] #[]], 47, false⟩)) (hb8 : F b8 = some (.row ⟨[w], 50, false⟩)) (hw : SlF F 1 w ys.length (ys.map runeV)) (hy : ∀ c ∈ ys, 0 ≤ c ∧ c ≤ 1114111) (hs : s.length ≤ 1000000) (H : Lies G A F σ L) : WC G Tryd.prog 62 #[.string ⟨s.toArray⟩, .pointer (some ⟨b7, 0, none⟩), .pointer (some ⟨b8, 0, none⟩)] σ fun v σ' => v = .bool (begC fold (runes s) ys) ∧ Lies G A F σ' L := by
 cases fold with
 | true =>
  obtain ⟨F0, hF⟩ : ∃ F0, F0 = F := ⟨_, rfl⟩
  have le0 : Le F0 F := fun b y h => hF ▸ h
  rw [← hF] at hb7 hb8 hw ⊢
  refine WC.enter (fn := Tryd.f62) Tryd.func62 rfl ?_
  refine W.rg [(0, .string ⟨s.toArray⟩), (1, .pointer (some ⟨b7, 0, none⟩)), (2, .pointer (some ⟨b8, 0, none⟩))] fun TA => ?_
  refine W.seq (W.region ?_)
  refine RW.v ?_
  refine RW.nil ?_
  refine W.rg [(0, .string ⟨s.toArray⟩), (1, .pointer (some ⟨b7, 0, none⟩)), (2, .pointer (some ⟨b8, 0, none⟩))] fun TA => ?_
  refine W.seq (W.region ?_)
  refine RW.loads 1 (by kernel_rfl) (by kernel_rfl) rfl rfl (H.old _ _ (le0 _ _ hb7)) rfl rfl (by kernel_rfl) ?_
  refine RW.v ?_
  refine RW.convR H hs (by kernel_rfl) (by kernel_rfl) rfl rfl rfl rfl rfl (by kernel_rfl) ?_
  clear H; intro _ cv1 H
  obtain ⟨F, le, hk2, H⟩ := H.freezeK 0 rfl
  dsimp only [setL, delL] at H
  replace le0 := fun b y h => le b y (le0 b y h)
  refine RW.loads 1 (by kernel_rfl) (by kernel_rfl) rfl rfl (H.old _ _ (le0 _ _ hb8)) rfl rfl (by kernel_rfl) ?_
  refine RW.cl ?_
  refine ((begins_wc (fold := true) hk2 (hw.le le0) (Nat.le_trans (runes_le s) hs) (runes_in s) hy H).mono ?_)
  clear H
  rintro _ _ ⟨rfl, H⟩
  refine RW.v ?_
  refine RW.nil ?_
  refine W.ret ?_
  refine endG (by rfl) (by exact resL_tmp rfl) ?_
  exact ⟨rfl, (H).back le0⟩
 | false =>
  obtain ⟨F0, hF⟩ : ∃ F0, F0 = F := ⟨_, rfl⟩
  have le0 : Le F0 F := fun b y h => hF ▸ h
  rw [← hF] at hb7 hb8 hw ⊢
  refine WC.enter (fn := Tryd.f62) Tryd.func62 rfl ?_
  refine W.rg [(0, .string ⟨s.toArray⟩), (1, .pointer (some ⟨b7, 0, none⟩)), (2, .pointer (some ⟨b8, 0, none⟩))] fun TA => ?_
  refine W.seq (W.region ?_)
  refine RW.v ?_
  refine RW.nil ?_
  refine W.rg [(0, .string ⟨s.toArray⟩), (1, .pointer (some ⟨b7, 0, none⟩)), (2, .pointer (some ⟨b8, 0, none⟩))] fun TA => ?_
  refine W.seq (W.region ?_)
  refine RW.loads 1 (by kernel_rfl) (by kernel_rfl) rfl rfl (H.old _ _ (le0 _ _ hb7)) rfl rfl (by kernel_rfl) ?_
  refine RW.v ?_
  refine RW.convR H hs (by kernel_rfl) (by kernel_rfl) rfl rfl rfl rfl rfl (by kernel_rfl) ?_
  clear H; intro _ cv1 H
  obtain ⟨F, le, hk2, H⟩ := H.freezeK 0 rfl
  dsimp only [setL, delL] at H
  replace le0 := fun b y h => le b y (le0 b y h)
  refine RW.loads 1 (by kernel_rfl) (by kernel_rfl) rfl rfl (H.old _ _ (le0 _ _ hb8)) rfl rfl (by kernel_rfl) ?_
  refine RW.cl ?_
  refine ((begins_wc (fold := false) hk2 (hw.le le0) (Nat.le_trans (runes_le s) hs) (runes_in s) hy H).mono ?_)
  clear H
  rintro _ _ ⟨rfl, H⟩
  refine RW.v ?_
  refine RW.nil ?_
  refine W.ret ?_
  refine endG (by rfl) (by exact resL_tmp rfl) ?_
  exact ⟨rfl, (H).back le0⟩
end
end Go.Proofs.YtjcmdifpkafdkaaDoor
