/-
 The common prefix. Conditions: the tables of unicode/utf8 lie.
 Closures over candidates; the status. Conditions: none.
-/
import Derived.Test.YtjcmdifpkafdkaaDoorC1
import Derived.Test.YtjcmdifpkafdkaaDoorL3
import Derived.Test.YtjcmdifpkafdkaaDoorRunes
import Derived.Test.YtjcmdifpkafdkaaDoorShelf
namespace Go.Proofs.YtjcmdifpkafdkaaDoor
open Go.Lib
set_option maxRecDepth 100000
open Go.RowKit
theorem vals_at {l : List Value} {j : Nat} {i : Int} (hi : i = ((j : Nat) : Int)) (h : j < l.length) : (l.drop (i.toNat * 1)).take 1 = [l.getD j undef] := by
 subst hi
 rw [Int.toNat_natCast, Nat.mul_one, List.getD_eq_getElem?_getD, List.getElem?_eq_getElem h, List.drop_eq_getElem_cons h]
 rfl
theorem lst_mem {α : Type} {l : List (List α)} {j : Nat} (h : j < l.length) : l.getD j [] ∈ l := by
 rw [List.getD_eq_getElem?_getD, List.getElem?_eq_getElem h]
 exact List.getElem_mem _
theorem mem_of {l : List (List UInt8)} {j : Nat} (h : j < l.length) : l.getD j [] ∈ l := lst_mem h
def AllZ (F : Nat → Option Blk2) (cs : List Value) (ls : List (List Int)) : Prop := cs.length = ls.length ∧ ∀ j, j < ls.length → SlK F 1 (cs.getD j undef) (ls.getD j []).length ((ls.getD j []).map runeV)
theorem AllZ.le {F F' : Nat → Option Blk2} {cs : List Value} {ls : List (List Int)} (h : AllZ F cs ls) (k : Le F F') : AllZ F' cs ls := ⟨h.1, fun j hj => (h.2 j hj).le k⟩
theorem AllZ.nil {F : Nat → Option Blk2} : AllZ F [] [] := ⟨rfl, fun j hj => absurd hj (Nat.not_lt_zero _)⟩
theorem getL {α : Type} {a b : List α} {j : Nat} {d : α} (h : j < a.length) : (a ++ b).getD j d = a.getD j d := by
 rw [List.getD_eq_getElem?_getD, List.getElem?_append_left h, ← List.getD_eq_getElem?_getD]
theorem getZ {α : Type} {a : List α} {j : Nat} {x d : α} (h : j = a.length) : (a ++ [x]).getD j d = x := by
 subst h
 simp
theorem AllZ.snoc {F : Nat → Option Blk2} {cs : List Value} {ls : List (List Int)} {c : Value} {x : List Int} (a : AllZ F cs ls) (h : SlK F 1 c x.length (x.map runeV)) : AllZ F (cs ++ [c]) (ls ++ [x]) := by
 refine ⟨by rw [List.length_append, List.length_append, a.1]; rfl, fun j hj => ?_⟩
 rw [List.length_append, List.length_singleton] at hj
 have a1 := a.1
 rcases Nat.lt_or_ge j ls.length with k | k
 ·rw [getL (by omega), getL k]
  exact a.2 j k
 ·obtain rfl : j = ls.length := by omega
  rw [getZ (show ls.length = cs.length by omega), getZ rfl]
  exact h
theorem getD_dropR {α : Type} {l : List α} {j k : Nat} {d : α} : (l.drop k).getD j d = l.getD (k + j) d := by
 rw [List.getD_eq_getElem?_getD, List.getD_eq_getElem?_getD, List.getElem?_drop]
theorem AllZ.drop {F : Nat → Option Blk2} {cs : List Value} {ls : List (List Int)} (a : AllZ F cs ls) (k : Nat) : AllZ F (cs.drop k) (ls.drop k) := by
 refine ⟨by rw [List.length_drop, List.length_drop, a.1], fun j hj => ?_⟩
 rw [List.length_drop] at hj
 rw [getD_dropR, getD_dropR]
 exact a.2 _ (by omega)
theorem lcp_le (fold : Bool) : ∀ a b : List Int, lcpC fold a b ≤ a.length ∧ lcpC fold a b ≤ b.length
 | [], _ => ⟨Nat.le_refl _, Nat.zero_le _⟩
 | _ :: _, [] => ⟨Nat.zero_le _, Nat.le_refl _⟩
 | a :: u, b :: v => by
  have := lcp_le fold u v
  unfold lcpC
  split
  ·exact ⟨Nat.succ_le_succ this.1, Nat.succ_le_succ this.2⟩
  ·exact ⟨Nat.zero_le _, Nat.zero_le _⟩
theorem lcp_go {fold : Bool} {xs ys : List Int} {i : Nat} (h1 : i < xs.length) (h2 : i < ys.length) (h : (foldC fold (xs.getD i 0) == foldC fold (ys.getD i 0)) = true) : lcpC fold (xs.drop i) (ys.drop i) = lcpC fold (xs.drop (i + 1)) (ys.drop (i + 1)) + 1 := by
 rw [dropD (d := 0) h1, dropD (d := 0) h2]
 exact if_pos (eq_of_beq h)
theorem lcp_stop {fold : Bool} {xs ys : List Int} {i : Nat} (h1 : i < xs.length) (h2 : i < ys.length) (h : (foldC fold (xs.getD i 0) == foldC fold (ys.getD i 0)) = false) : lcpC fold (xs.drop i) (ys.drop i) = 0 := by
 rw [dropD (d := 0) h1, dropD (d := 0) h2]
 exact if_neg (ne_of_beq_false h)
theorem comC_ne {fold : Bool} {rs : List (List Int)} (h : 0 < rs.length) : comC fold rs = (rs.getD 0 []).take (comN fold (rs.getD 0 []) (rs.drop 1)) := by
 cases rs with
 | nil => exact absurd h (Nat.lt_irrefl _)
 | cons r rs => rfl
section
variable {P : Program} {o : Oper}
theorem vop_backNR {ρ : Operand → Value} {src dst e : TypeId} {x : Operand} (ho : o.op = .convert src dst x) (hx : ρ x = .slice none 0 0) (hs : P.underlying src = some (.slice e)) (he : P.underlying e = some (.int .i32)) (hd : P.underlying dst = some .string) : VOp P o ρ (.string ⟨#[]⟩) := fun μ ρc hor => by
 rw [ho] at hor
 have hv := hor x (by simp [Op.operands])
 rw [hx] at hv
 have hv := flatV_eq rfl hv
 refine ⟨_, .flat _ rfl, fun w => ?_⟩
 unfold execOp
 simp only [ho, hv, Sem.run_bind, run_convert_runes_string w src dst e _ _ _ hs he hd, Conv.runesToString, Sem.run_pure, Result.andThen_ok]
 rfl
theorem vop_backZ {F : Nat → Option Blk2} {ρ : Operand → Value} {src dst e : TypeId} {x : Operand} {v : Value} (h : SlK F 1 v ([] : List Int).length (([] : List Int).map runeV)) (ho : o.op = .convert src dst x) (hx : ρ x = v) (hs : uT P src = some (.slice e)) (he : uT P e = some (.int .i32)) (hd : uT P dst = some .string) : VOp P o ρ (.string ⟨(encA []).toArray⟩) := by
 generalize hn : ([] : List Int).length = n at h
 cases h with
 | nil => exact vop_backNR ho hx (by rw [← uT_eq]; exact hs) (by rw [← uT_eq]; exact he) (by rw [← uT_eq]; exact hd)
 | @some b p _ c sp r _ hr hx2 hc hle hsp =>
  obtain rfl : 0 = n := hn
  exact vop_back0 ho hx (backF_runes hs he hd (cs := []) fun c h => absurd h (List.not_mem_nil))
end
section
variable {G : Nat} {A : Abs} {σ : Mem} {F : Nat → Option Blk2} {L : List Ent} {fold : Bool} {l : List (List UInt8)} {xs : List Int} {ls : List (List Int)} {sls : List Value} {v1 v2 : Value}
theorem s_valid {bs : List UInt8} (hU : U8F σ.get) (h16 : 16 ≤ G) (hs : bs.length ≤ 1000000) : SCall G Tryd.prog 52 #[.string ⟨bs.toArray⟩] σ (.bool (validD bs)) σ :=
 below_callT hU.rows h16 rfl rfl fun w hT => by
  have e : (⟨bs.toArray⟩ : ByteArray).data.toList = bs := by simp
  cases hv : validD bs with
  | true => exact valid_yes ⟨bs.toArray⟩ w (by show bs.length ≤ _; omega) hT (by rw [e]; exact hv)
  | false => exact valid_no ⟨bs.toArray⟩ w (by show bs.length ≤ _; omega) hT (by rw [e]; exact hv)
set_option maxHeartbeats 8000000 in
theorem common_wc (h1 : SlK F 1 v1 xs.length (xs.map runeV)) (h2 : SlK F 1 v2 ls.length sls) (al : AllZ F sls ls) (hl : xs.length ≤ 1000000) (hl2 : ls.length ≤ 1000000) (hx : ∀ c ∈ xs, 0 ≤ c ∧ c ≤ 1114111) (hy : ∀ y ∈ ls, ∀ c ∈ y, 0 ≤ c ∧ c ≤ 1114111) (H : Lies G A F σ L) : WC G Tryd.prog 44 #[cmpV fold, v1, v2] σ fun v σ' => SlK F 1 v (xs.take (comN fold xs ls)).length ((xs.take (comN fold xs ls)).map runeV) ∧ Lies G A F σ' L := by
 cases fold with
 | true =>
  refine WC.enter (fn := Tryd.f44) Tryd.func44 rfl ?_
  refine W.rg [(0, .agg #[.func (.func 84) #[] #[]]), (1, v1), (2, v2)] fun TA => ?_
  refine W.seq (W.region ?_)
  refine RW.mk H (.row ⟨[.func (.func 84) #[] #[]], 47, false⟩) ?_
  clear H; intro _ b1 _ H
  refine RW.v ?_
  refine RW.nil ?_
  refine W.rg [(1, v1), (2, v2), (3, .pointer (some ⟨b1, 0, none⟩))] fun TA => ?_
  refine W.seq (W.region ?_)
  refine RW.v ?_
  refine RW.len (by kernel_rfl) (by kernel_rfl) rfl rfl rfl rfl (h1.slf.len (e := 21) (by kernel_rfl)) (by kernel_rfl) ?_
  refine RW.v ?_
  refine RW.nil ?_
  refine W.rg [(1, v1), (2, v2), (3, .pointer (some ⟨b1, 0, none⟩)), (7, .int .i64 (xs.length : Int))] fun TA => ?_
  refine W.seq ?_
  refine W.seq (W.region ?_)
  refine RW.v ?_
  refine RW.len (by kernel_rfl) (by kernel_rfl) rfl rfl rfl rfl (h2.slf.len (e := 50) (by kernel_rfl)) (by kernel_rfl) ?_
  refine RW.v ?_
  refine RW.nil ?_
  refine W.rg [(1, v1), (3, .pointer (some ⟨b1, 0, none⟩)), (7, .int .i64 (xs.length : Int)), (13, v2), (14, .int .i64 (ls.length : Int)), (15, .int .i64 0)] fun TA => ?_
  refine W.block ?_
  refine W.loop (fun mm ta σ => ∃ (k : Nat) (n : Nat), (mm + k = ls.length) ∧ (n ≤ xs.length) ∧ (comN true xs ls = (ls.drop k).foldl (fun n x => min n (lcpC true xs x)) n) ∧ Lies G A F σ (.at_ b1 (.row ⟨[.func (.func 84) #[] #[]], 47, false⟩) :: (L)) ∧ ta 1 = v1 ∧ ta 3 = .pointer (some ⟨b1, 0, none⟩) ∧ ta 7 = .int .i64 ((n : Nat) : Int) ∧ ta 13 = v2 ∧ ta 14 = .int .i64 (ls.length : Int) ∧ ta 15 = .int .i64 ((k : Nat) : Int)) ls.length ?_ ?_
  ·exact ⟨0, xs.length, (by omega), (Nat.le_refl _), rfl, H, rfl, rfl, rfl, rfl, rfl, rfl⟩
  clear H
  rintro mm ta _ ⟨k, n, hm, hn, hT, H, e1, e3, e7, e13, e14, e15⟩
  refine W.rst [(1, v1), (3, .pointer (some ⟨b1, 0, none⟩)), (7, .int .i64 ((n : Nat) : Int)), (13, v2), (14, .int .i64 (ls.length : Int)), (15, .int .i64 ((k : Nat) : Int))] ⟨e1, e3, e7, e13, e14, e15, trivial⟩ fun TA => ?_
  clear e1 e3 e7 e13 e14 e15
  refine W.seq (W.region ?_)
  refine RW.v ?_
  refine RW.nil ?_
  refine W.rg [(1, v1), (3, .pointer (some ⟨b1, 0, none⟩)), (7, .int .i64 ((n : Nat) : Int)), (13, v2), (14, .int .i64 (ls.length : Int)), (15, .int .i64 ((k : Nat) : Int)), (16, .bool (decide (((k : Nat) : Int) < (ls.length : Int))))] fun TA => ?_
  refine W.seq ?_
  refine W.cond rfl (fun hc2 => ?_) (fun hc2 => ?_)
  ·have hc2b := hc2
   have hc2 := of_decide_eq_true hc2
   have hkl : k < ls.length := by omega
   refine W.skip ?_
   refine W.seq ?_
   refine W.block ?_
   refine W.seq (W.region ?_)
   refine RW.idxF h2.slf (by kernel_rfl) (by kernel_rfl) rfl Tryd.underlying49 (by kernel_rfl) rfl rfl ⟨by omega, by omega⟩ (by kernel_rfl) ?_
   intro b3 q4 r5 hF6 hE7
   rw [vals_at (l := sls) (j := k) (i := ((k : Nat) : Int)) (by omega) (by have := al.1; omega)] at hE7
   refine RW.loads 1 (by kernel_rfl) (by kernel_rfl) rfl rfl (H.old _ _ hF6) hE7 rfl (by kernel_rfl) ?_
   refine RW.v ?_
   refine RW.nil ?_
   refine W.rg [(1, v1), (3, .pointer (some ⟨b1, 0, none⟩)), (7, .int .i64 ((n : Nat) : Int)), (9, (sls.getD k undef)), (13, v2), (14, .int .i64 (ls.length : Int)), (15, .int .i64 ((k : Nat) : Int))] fun TA => ?_
   refine W.seq (W.region ?_)
   iterate 2 refine RW.v ?_
   refine RW.len (by kernel_rfl) (by kernel_rfl) rfl rfl rfl rfl ((al.2 k (by omega)).slf.len (e := 21) (by kernel_rfl)) (by kernel_rfl) ?_
   obtain ⟨n1, hn1⟩ : ∃ n1, n1 = min n (ls.getD k []).length := ⟨_, rfl⟩
   have hmin : min ((n : Nat) : Int) ((ls.getD k []).length : Int) = ((n1 : Nat) : Int) := by omega
   refine RW.vop (v := .int .i64 ((n1 : Nat) : Int)) (by kernel_rfl) (by kernel_rfl) (vop_minE hmin rfl rfl rfl rfl rfl) (by kernel_rfl) ?_
   refine RW.v ?_
   refine RW.nil ?_
   refine W.rg [(1, v1), (3, .pointer (some ⟨b1, 0, none⟩)), (7, .int .i64 ((n1 : Nat) : Int)), (9, (sls.getD k undef)), (13, v2), (14, .int .i64 (ls.length : Int)), (15, .int .i64 ((k : Nat) : Int))] fun TA => ?_
   refine W.seq (W.region ?_)
   iterate 2 refine RW.v ?_
   refine RW.nil ?_
   refine W.rg [(1, v1), (3, .pointer (some ⟨b1, 0, none⟩)), (7, .int .i64 ((n1 : Nat) : Int)), (9, (sls.getD k undef)), (13, v2), (14, .int .i64 (ls.length : Int)), (15, .int .i64 ((k : Nat) : Int)), (23, .int .i64 ((n1 : Nat) : Int)), (24, .int .i64 0)] fun TA => ?_
   refine W.block ?_
   refine W.loop (fun mm2 ta σ => ∃ (i : Nat), (mm2 + i = n1) ∧ (lcpC true xs (ls.getD k []) = i + lcpC true (xs.drop i) ((ls.getD k []).drop i)) ∧ Lies G A F σ (.at_ b1 (.row ⟨[.func (.func 84) #[] #[]], 47, false⟩) :: (L)) ∧ ta 1 = v1 ∧ ta 3 = .pointer (some ⟨b1, 0, none⟩) ∧ ta 7 = .int .i64 ((n1 : Nat) : Int) ∧ ta 9 = (sls.getD k undef) ∧ ta 13 = v2 ∧ ta 14 = .int .i64 (ls.length : Int) ∧ ta 15 = .int .i64 ((k : Nat) : Int) ∧ ta 23 = .int .i64 ((n1 : Nat) : Int) ∧ ta 24 = .int .i64 ((i : Nat) : Int)) n1 ?_ ?_
   ·exact ⟨0, (by omega), (by simp), H, rfl, rfl, rfl, rfl, rfl, rfl, rfl, rfl, rfl⟩
   clear H
   rintro mm2 ta _ ⟨i, hm2, hC, H, e1, e3, e7, e9, e13, e14, e15, e23, e24⟩
   refine W.rst [(1, v1), (3, .pointer (some ⟨b1, 0, none⟩)), (7, .int .i64 ((n1 : Nat) : Int)), (9, (sls.getD k undef)), (13, v2), (14, .int .i64 (ls.length : Int)), (15, .int .i64 ((k : Nat) : Int)), (23, .int .i64 ((n1 : Nat) : Int)), (24, .int .i64 ((i : Nat) : Int))] ⟨e1, e3, e7, e9, e13, e14, e15, e23, e24, trivial⟩ fun TA => ?_
   clear e1 e3 e7 e9 e13 e14 e15 e23 e24
   refine W.seq (W.region ?_)
   refine RW.v ?_
   refine RW.nil ?_
   refine W.rg [(1, v1), (3, .pointer (some ⟨b1, 0, none⟩)), (7, .int .i64 ((n1 : Nat) : Int)), (9, (sls.getD k undef)), (13, v2), (14, .int .i64 (ls.length : Int)), (15, .int .i64 ((k : Nat) : Int)), (23, .int .i64 ((n1 : Nat) : Int)), (24, .int .i64 ((i : Nat) : Int)), (25, .bool (decide (((i : Nat) : Int) < ((n1 : Nat) : Int))))] fun TA => ?_
   refine W.seq ?_
   refine W.cond rfl (fun hc8 => ?_) (fun hc8 => ?_)
   ·have hc8b := hc8
    have hc8 := of_decide_eq_true hc8
    refine W.skip ?_
    refine W.seq ?_
    refine W.block ?_
    refine W.seq (W.region ?_)
    iterate 2 refine RW.v ?_
    refine RW.nil ?_
    refine W.rg [(1, v1), (3, .pointer (some ⟨b1, 0, none⟩)), (7, .int .i64 ((n1 : Nat) : Int)), (9, (sls.getD k undef)), (10, .int .i64 ((i : Nat) : Int)), (13, v2), (14, .int .i64 (ls.length : Int)), (15, .int .i64 ((k : Nat) : Int)), (23, .int .i64 ((n1 : Nat) : Int)), (24, .int .i64 ((i : Nat) : Int))] fun TA => ?_
    refine W.seq ?_
    refine W.drawn (by kernel_rfl) (by kernel_rfl) H.gn ?_
    have H9 := H
    refine RW.ld H9 0 1 ?_
    iterate 2 refine RW.v ?_
    refine RW.idxF h1.slf (by kernel_rfl) (by kernel_rfl) rfl Tryd.underlying50 (by kernel_rfl) rfl rfl ⟨by omega, by omega⟩ (by kernel_rfl) ?_
    intro b10 q11 r12 hF13 hE14
    rw [runs_at (l := xs) (j := i) (i := ((i : Nat) : Int)) (by omega) (by omega)] at hE14
    refine RW.loads 1 (by kernel_rfl) (by kernel_rfl) rfl rfl (H9.old _ _ hF13) hE14 rfl (by kernel_rfl) ?_
    iterate 2 refine RW.v ?_
    refine RW.idxF (al.2 k (by omega)).slf (by kernel_rfl) (by kernel_rfl) rfl Tryd.underlying50 (by kernel_rfl) rfl rfl ⟨by omega, by omega⟩ (by kernel_rfl) ?_
    intro b15 q16 r17 hF18 hE19
    rw [runs_at (l := (ls.getD k [])) (j := i) (i := ((i : Nat) : Int)) (by omega) (by omega)] at hE19
    refine RW.loads 1 (by kernel_rfl) (by kernel_rfl) rfl rfl (H9.old _ _ hF18) hE19 rfl (by kernel_rfl) ?_
    refine RW.cl ?_
    refine ((same_wc (fold := true) (a := (xs.getD i 0)) (b := ((ls.getD k []).getD i 0)) (hx _ (getD_mem (by omega))) (hy _ (lst_mem (by omega)) _ (getD_mem (by omega))) H9).mono ?_)
    rintro _ _ ⟨rfl, H20⟩
    refine RW.v ?_
    refine RW.nil ?_
    refine ⟨⟨by kernel_rfl, ⟨dyn_row (H9.get 0 rfl) (H20.get 0 rfl) ⟨fun h => Bool.noConfusion h, fun h => Bool.noConfusion h, fun h => Bool.noConfusion h, fun h => Bool.noConfusion h, fun h => Bool.noConfusion h, fun h => Bool.noConfusion h, fun h => Bool.noConfusion h, fun h => Bool.noConfusion h, fun h => Bool.noConfusion h, fun _ => H9.get 0 rfl, fun h => Bool.noConfusion h, trivial⟩, trivial, trivial, trivial, dyn_row (H9.old _ _ hF13) (H20.old _ _ hF13) ⟨fun h => Bool.noConfusion h, fun h => Bool.noConfusion h, fun h => Bool.noConfusion h, fun h => Bool.noConfusion h, fun h => Bool.noConfusion h, fun h => Bool.noConfusion h, fun h => Bool.noConfusion h, fun h => Bool.noConfusion h, fun h => Bool.noConfusion h, fun _ => H9.old _ _ hF13, fun h => Bool.noConfusion h, trivial⟩, trivial, trivial, trivial, dyn_row (H9.old _ _ hF18) (H20.old _ _ hF18) ⟨fun h => Bool.noConfusion h, fun h => Bool.noConfusion h, fun h => Bool.noConfusion h, fun h => Bool.noConfusion h, fun h => Bool.noConfusion h, fun h => Bool.noConfusion h, fun h => Bool.noConfusion h, fun h => Bool.noConfusion h, fun h => Bool.noConfusion h, fun _ => H9.old _ _ hF18, fun h => Bool.noConfusion h, trivial⟩, trivial, trivial, trivial⟩⟩, ?_⟩
    replace H := H20
    clear H9 H20
    refine W.rg [(1, v1), (3, .pointer (some ⟨b1, 0, none⟩)), (7, .int .i64 ((n1 : Nat) : Int)), (9, (sls.getD k undef)), (10, .int .i64 ((i : Nat) : Int)), (13, v2), (14, .int .i64 (ls.length : Int)), (15, .int .i64 ((k : Nat) : Int)), (23, .int .i64 ((n1 : Nat) : Int)), (24, .int .i64 ((i : Nat) : Int)), (37, .bool (!(foldC true (xs.getD i 0) == foldC true ((ls.getD k []).getD i 0))))] fun TA => ?_
    refine W.cond rfl (fun hc21 => ?_) (fun hc21 => ?_)
    ·have hc21b := hc21
     have hc21e : (foldC true (xs.getD i 0) == foldC true ((ls.getD k []).getD i 0)) = false := by simpa using hc21b
     refine W.seq (W.region ?_)
     iterate 2 refine RW.v ?_
     refine RW.nil ?_
     refine W.rg [(1, v1), (3, .pointer (some ⟨b1, 0, none⟩)), (7, .int .i64 ((i : Nat) : Int)), (13, v2), (14, .int .i64 (ls.length : Int)), (15, .int .i64 ((k : Nat) : Int))] fun TA => ?_
     refine W.exit _ ?_
     refine blkQ_out rfl ?_
     refine seqQ_exit ?_
     refine rndQ_exit ?_
     have hlm : min n (lcpC true xs (ls.getD k [])) = i := by rw [hC, lcp_stop (by omega) (by omega) hc21e]; omega
     refine blkQ_here ?_
     refine blkQ_normal ?_
     refine W.region ?_
     refine RW.valE (v' := .int .i64 (((k : Nat) : Int) + 1)) (by kernel_rfl) (by kernel_rfl) rfl (congrArg (Value.int .i64) (wrap_in (by omega) (by omega))) (by kernel_rfl) ?_
     refine RW.v ?_
     refine RW.nil ?_
     exact ⟨rfl, mm - 1, by omega, k + 1, i, (by omega), (by omega), (by rw [hT, dropD (d := []) hkl]; show (ls.drop (k + 1)).foldl _ (min n (lcpC true xs (ls.getD k []))) = _; rw [hlm]), H, rfl, rfl, rfl, rfl, rfl, rfl⟩
    ·have hc21b := hc21
     have hc21e : (foldC true (xs.getD i 0) == foldC true ((ls.getD k []).getD i 0)) = true := by simpa using hc21b
     refine W.skip ?_
     refine blkQ_normal ?_
     refine W.region ?_
     refine RW.valE (v' := .int .i64 (((i : Nat) : Int) + 1)) (by kernel_rfl) (by kernel_rfl) rfl (congrArg (Value.int .i64) (wrap_in (by omega) (by omega))) (by kernel_rfl) ?_
     refine RW.v ?_
     refine RW.nil ?_
     exact ⟨rfl, mm2 - 1, by omega, i + 1, (by omega), (by rw [hC, lcp_go (by omega) (by omega) hc21e]; omega), H, rfl, rfl, rfl, rfl, rfl, rfl, rfl, rfl, rfl⟩
   ·have hc8b := hc8
    have hc8 := of_decide_eq_false hc8
    refine W.exit _ ?_
    refine seqQ_exit ?_
    refine rndQ_exit ?_
    have hlm : min n (lcpC true xs (ls.getD k [])) = n1 := by have hi1 : i = n1 := (by omega); have hb := lcp_le true (xs.drop i) ((ls.getD k []).drop i); rw [List.length_drop, List.length_drop] at hb; rw [hC]; omega
    refine blkQ_here ?_
    refine blkQ_normal ?_
    refine W.region ?_
    refine RW.valE (v' := .int .i64 (((k : Nat) : Int) + 1)) (by kernel_rfl) (by kernel_rfl) rfl (congrArg (Value.int .i64) (wrap_in (by omega) (by omega))) (by kernel_rfl) ?_
    refine RW.v ?_
    refine RW.nil ?_
    exact ⟨rfl, mm - 1, by omega, k + 1, n1, (by omega), (by omega), (by rw [hT, dropD (d := []) hkl]; show (ls.drop (k + 1)).foldl _ (min n (lcpC true xs (ls.getD k []))) = _; rw [hlm]), H, rfl, rfl, rfl, rfl, rfl, rfl⟩
  ·have hc2b := hc2
   have hc2 := of_decide_eq_false hc2
   refine W.exit _ ?_
   refine seqQ_exit ?_
   refine rndQ_exit ?_
   have hN : comN true xs ls = n := by rw [hT, List.drop_eq_nil_of_le (by omega)]; rfl
   refine blkQ_here ?_
   refine W.seq (W.region ?_)
   iterate 2 refine RW.v ?_
   obtain ⟨sv22, hv23, hk24⟩ := slk_cut (P := Tryd.prog) (t := 50) (e := 21) (i := n) h1 (by kernel_rfl) (by kernel_rfl) (by omega)
   rw [Nat.mul_one] at hk24
   refine RW.vop (v := sv22) (by kernel_rfl) (by kernel_rfl) (vop_slice rfl hv23) (by kernel_rfl) ?_
   refine RW.v ?_
   refine RW.nil ?_
   replace H := (H.del 0)
   dsimp only [setL, delL] at H
   refine W.ret ?_
   refine endG (by rfl) (by exact resL_tmp rfl) ?_
   rw [hN]
   have hk2 : SlK F 1 sv22 (xs.take n).length ((xs.take n).map runeV) := by rw [List.length_take, Nat.min_eq_left (by omega), List.map_take]; exact hk24
   exact ⟨hk2, H⟩
 | false =>
  refine WC.enter (fn := Tryd.f44) Tryd.func44 rfl ?_
  refine W.rg [(0, .agg #[.func (.func 86) #[] #[]]), (1, v1), (2, v2)] fun TA => ?_
  refine W.seq (W.region ?_)
  refine RW.mk H (.row ⟨[.func (.func 86) #[] #[]], 47, false⟩) ?_
  clear H; intro _ b1 _ H
  refine RW.v ?_
  refine RW.nil ?_
  refine W.rg [(1, v1), (2, v2), (3, .pointer (some ⟨b1, 0, none⟩))] fun TA => ?_
  refine W.seq (W.region ?_)
  refine RW.v ?_
  refine RW.len (by kernel_rfl) (by kernel_rfl) rfl rfl rfl rfl (h1.slf.len (e := 21) (by kernel_rfl)) (by kernel_rfl) ?_
  refine RW.v ?_
  refine RW.nil ?_
  refine W.rg [(1, v1), (2, v2), (3, .pointer (some ⟨b1, 0, none⟩)), (7, .int .i64 (xs.length : Int))] fun TA => ?_
  refine W.seq ?_
  refine W.seq (W.region ?_)
  refine RW.v ?_
  refine RW.len (by kernel_rfl) (by kernel_rfl) rfl rfl rfl rfl (h2.slf.len (e := 50) (by kernel_rfl)) (by kernel_rfl) ?_
  refine RW.v ?_
  refine RW.nil ?_
  refine W.rg [(1, v1), (3, .pointer (some ⟨b1, 0, none⟩)), (7, .int .i64 (xs.length : Int)), (13, v2), (14, .int .i64 (ls.length : Int)), (15, .int .i64 0)] fun TA => ?_
  refine W.block ?_
  refine W.loop (fun mm ta σ => ∃ (k : Nat) (n : Nat), (mm + k = ls.length) ∧ (n ≤ xs.length) ∧ (comN false xs ls = (ls.drop k).foldl (fun n x => min n (lcpC false xs x)) n) ∧ Lies G A F σ (.at_ b1 (.row ⟨[.func (.func 86) #[] #[]], 47, false⟩) :: (L)) ∧ ta 1 = v1 ∧ ta 3 = .pointer (some ⟨b1, 0, none⟩) ∧ ta 7 = .int .i64 ((n : Nat) : Int) ∧ ta 13 = v2 ∧ ta 14 = .int .i64 (ls.length : Int) ∧ ta 15 = .int .i64 ((k : Nat) : Int)) ls.length ?_ ?_
  ·exact ⟨0, xs.length, (by omega), (Nat.le_refl _), rfl, H, rfl, rfl, rfl, rfl, rfl, rfl⟩
  clear H
  rintro mm ta _ ⟨k, n, hm, hn, hT, H, e1, e3, e7, e13, e14, e15⟩
  refine W.rst [(1, v1), (3, .pointer (some ⟨b1, 0, none⟩)), (7, .int .i64 ((n : Nat) : Int)), (13, v2), (14, .int .i64 (ls.length : Int)), (15, .int .i64 ((k : Nat) : Int))] ⟨e1, e3, e7, e13, e14, e15, trivial⟩ fun TA => ?_
  clear e1 e3 e7 e13 e14 e15
  refine W.seq (W.region ?_)
  refine RW.v ?_
  refine RW.nil ?_
  refine W.rg [(1, v1), (3, .pointer (some ⟨b1, 0, none⟩)), (7, .int .i64 ((n : Nat) : Int)), (13, v2), (14, .int .i64 (ls.length : Int)), (15, .int .i64 ((k : Nat) : Int)), (16, .bool (decide (((k : Nat) : Int) < (ls.length : Int))))] fun TA => ?_
  refine W.seq ?_
  refine W.cond rfl (fun hc2 => ?_) (fun hc2 => ?_)
  ·have hc2b := hc2
   have hc2 := of_decide_eq_true hc2
   have hkl : k < ls.length := by omega
   refine W.skip ?_
   refine W.seq ?_
   refine W.block ?_
   refine W.seq (W.region ?_)
   refine RW.idxF h2.slf (by kernel_rfl) (by kernel_rfl) rfl Tryd.underlying49 (by kernel_rfl) rfl rfl ⟨by omega, by omega⟩ (by kernel_rfl) ?_
   intro b3 q4 r5 hF6 hE7
   rw [vals_at (l := sls) (j := k) (i := ((k : Nat) : Int)) (by omega) (by have := al.1; omega)] at hE7
   refine RW.loads 1 (by kernel_rfl) (by kernel_rfl) rfl rfl (H.old _ _ hF6) hE7 rfl (by kernel_rfl) ?_
   refine RW.v ?_
   refine RW.nil ?_
   refine W.rg [(1, v1), (3, .pointer (some ⟨b1, 0, none⟩)), (7, .int .i64 ((n : Nat) : Int)), (9, (sls.getD k undef)), (13, v2), (14, .int .i64 (ls.length : Int)), (15, .int .i64 ((k : Nat) : Int))] fun TA => ?_
   refine W.seq (W.region ?_)
   iterate 2 refine RW.v ?_
   refine RW.len (by kernel_rfl) (by kernel_rfl) rfl rfl rfl rfl ((al.2 k (by omega)).slf.len (e := 21) (by kernel_rfl)) (by kernel_rfl) ?_
   obtain ⟨n1, hn1⟩ : ∃ n1, n1 = min n (ls.getD k []).length := ⟨_, rfl⟩
   have hmin : min ((n : Nat) : Int) ((ls.getD k []).length : Int) = ((n1 : Nat) : Int) := by omega
   refine RW.vop (v := .int .i64 ((n1 : Nat) : Int)) (by kernel_rfl) (by kernel_rfl) (vop_minE hmin rfl rfl rfl rfl rfl) (by kernel_rfl) ?_
   refine RW.v ?_
   refine RW.nil ?_
   refine W.rg [(1, v1), (3, .pointer (some ⟨b1, 0, none⟩)), (7, .int .i64 ((n1 : Nat) : Int)), (9, (sls.getD k undef)), (13, v2), (14, .int .i64 (ls.length : Int)), (15, .int .i64 ((k : Nat) : Int))] fun TA => ?_
   refine W.seq (W.region ?_)
   iterate 2 refine RW.v ?_
   refine RW.nil ?_
   refine W.rg [(1, v1), (3, .pointer (some ⟨b1, 0, none⟩)), (7, .int .i64 ((n1 : Nat) : Int)), (9, (sls.getD k undef)), (13, v2), (14, .int .i64 (ls.length : Int)), (15, .int .i64 ((k : Nat) : Int)), (23, .int .i64 ((n1 : Nat) : Int)), (24, .int .i64 0)] fun TA => ?_
   refine W.block ?_
   refine W.loop (fun mm2 ta σ => ∃ (i : Nat), (mm2 + i = n1) ∧ (lcpC false xs (ls.getD k []) = i + lcpC false (xs.drop i) ((ls.getD k []).drop i)) ∧ Lies G A F σ (.at_ b1 (.row ⟨[.func (.func 86) #[] #[]], 47, false⟩) :: (L)) ∧ ta 1 = v1 ∧ ta 3 = .pointer (some ⟨b1, 0, none⟩) ∧ ta 7 = .int .i64 ((n1 : Nat) : Int) ∧ ta 9 = (sls.getD k undef) ∧ ta 13 = v2 ∧ ta 14 = .int .i64 (ls.length : Int) ∧ ta 15 = .int .i64 ((k : Nat) : Int) ∧ ta 23 = .int .i64 ((n1 : Nat) : Int) ∧ ta 24 = .int .i64 ((i : Nat) : Int)) n1 ?_ ?_
   ·exact ⟨0, (by omega), (by simp), H, rfl, rfl, rfl, rfl, rfl, rfl, rfl, rfl, rfl⟩
   clear H
   rintro mm2 ta _ ⟨i, hm2, hC, H, e1, e3, e7, e9, e13, e14, e15, e23, e24⟩
   refine W.rst [(1, v1), (3, .pointer (some ⟨b1, 0, none⟩)), (7, .int .i64 ((n1 : Nat) : Int)), (9, (sls.getD k undef)), (13, v2), (14, .int .i64 (ls.length : Int)), (15, .int .i64 ((k : Nat) : Int)), (23, .int .i64 ((n1 : Nat) : Int)), (24, .int .i64 ((i : Nat) : Int))] ⟨e1, e3, e7, e9, e13, e14, e15, e23, e24, trivial⟩ fun TA => ?_
   clear e1 e3 e7 e9 e13 e14 e15 e23 e24
   refine W.seq (W.region ?_)
   refine RW.v ?_
   refine RW.nil ?_
   refine W.rg [(1, v1), (3, .pointer (some ⟨b1, 0, none⟩)), (7, .int .i64 ((n1 : Nat) : Int)), (9, (sls.getD k undef)), (13, v2), (14, .int .i64 (ls.length : Int)), (15, .int .i64 ((k : Nat) : Int)), (23, .int .i64 ((n1 : Nat) : Int)), (24, .int .i64 ((i : Nat) : Int)), (25, .bool (decide (((i : Nat) : Int) < ((n1 : Nat) : Int))))] fun TA => ?_
   refine W.seq ?_
   refine W.cond rfl (fun hc8 => ?_) (fun hc8 => ?_)
   ·have hc8b := hc8
    have hc8 := of_decide_eq_true hc8
    refine W.skip ?_
    refine W.seq ?_
    refine W.block ?_
    refine W.seq (W.region ?_)
    iterate 2 refine RW.v ?_
    refine RW.nil ?_
    refine W.rg [(1, v1), (3, .pointer (some ⟨b1, 0, none⟩)), (7, .int .i64 ((n1 : Nat) : Int)), (9, (sls.getD k undef)), (10, .int .i64 ((i : Nat) : Int)), (13, v2), (14, .int .i64 (ls.length : Int)), (15, .int .i64 ((k : Nat) : Int)), (23, .int .i64 ((n1 : Nat) : Int)), (24, .int .i64 ((i : Nat) : Int))] fun TA => ?_
    refine W.seq ?_
    refine W.drawn (by kernel_rfl) (by kernel_rfl) H.gn ?_
    have H9 := H
    refine RW.ld H9 0 1 ?_
    iterate 2 refine RW.v ?_
    refine RW.idxF h1.slf (by kernel_rfl) (by kernel_rfl) rfl Tryd.underlying50 (by kernel_rfl) rfl rfl ⟨by omega, by omega⟩ (by kernel_rfl) ?_
    intro b10 q11 r12 hF13 hE14
    rw [runs_at (l := xs) (j := i) (i := ((i : Nat) : Int)) (by omega) (by omega)] at hE14
    refine RW.loads 1 (by kernel_rfl) (by kernel_rfl) rfl rfl (H9.old _ _ hF13) hE14 rfl (by kernel_rfl) ?_
    iterate 2 refine RW.v ?_
    refine RW.idxF (al.2 k (by omega)).slf (by kernel_rfl) (by kernel_rfl) rfl Tryd.underlying50 (by kernel_rfl) rfl rfl ⟨by omega, by omega⟩ (by kernel_rfl) ?_
    intro b15 q16 r17 hF18 hE19
    rw [runs_at (l := (ls.getD k [])) (j := i) (i := ((i : Nat) : Int)) (by omega) (by omega)] at hE19
    refine RW.loads 1 (by kernel_rfl) (by kernel_rfl) rfl rfl (H9.old _ _ hF18) hE19 rfl (by kernel_rfl) ?_
    refine RW.cl ?_
    refine ((same_wc (fold := false) (a := (xs.getD i 0)) (b := ((ls.getD k []).getD i 0)) (hx _ (getD_mem (by omega))) (hy _ (lst_mem (by omega)) _ (getD_mem (by omega))) H9).mono ?_)
    rintro _ _ ⟨rfl, H20⟩
    refine RW.v ?_
    refine RW.nil ?_
    refine ⟨⟨by kernel_rfl, ⟨dyn_row (H9.get 0 rfl) (H20.get 0 rfl) ⟨fun h => Bool.noConfusion h, fun h => Bool.noConfusion h, fun h => Bool.noConfusion h, fun h => Bool.noConfusion h, fun h => Bool.noConfusion h, fun h => Bool.noConfusion h, fun h => Bool.noConfusion h, fun h => Bool.noConfusion h, fun h => Bool.noConfusion h, fun _ => H9.get 0 rfl, fun h => Bool.noConfusion h, trivial⟩, trivial, trivial, trivial, dyn_row (H9.old _ _ hF13) (H20.old _ _ hF13) ⟨fun h => Bool.noConfusion h, fun h => Bool.noConfusion h, fun h => Bool.noConfusion h, fun h => Bool.noConfusion h, fun h => Bool.noConfusion h, fun h => Bool.noConfusion h, fun h => Bool.noConfusion h, fun h => Bool.noConfusion h, fun h => Bool.noConfusion h, fun _ => H9.old _ _ hF13, fun h => Bool.noConfusion h, trivial⟩, trivial, trivial, trivial, dyn_row (H9.old _ _ hF18) (H20.old _ _ hF18) ⟨fun h => Bool.noConfusion h, fun h => Bool.noConfusion h, fun h => Bool.noConfusion h, fun h => Bool.noConfusion h, fun h => Bool.noConfusion h, fun h => Bool.noConfusion h, fun h => Bool.noConfusion h, fun h => Bool.noConfusion h, fun h => Bool.noConfusion h, fun _ => H9.old _ _ hF18, fun h => Bool.noConfusion h, trivial⟩, trivial, trivial, trivial⟩⟩, ?_⟩
    replace H := H20
    clear H9 H20
    refine W.rg [(1, v1), (3, .pointer (some ⟨b1, 0, none⟩)), (7, .int .i64 ((n1 : Nat) : Int)), (9, (sls.getD k undef)), (10, .int .i64 ((i : Nat) : Int)), (13, v2), (14, .int .i64 (ls.length : Int)), (15, .int .i64 ((k : Nat) : Int)), (23, .int .i64 ((n1 : Nat) : Int)), (24, .int .i64 ((i : Nat) : Int)), (37, .bool (!(foldC false (xs.getD i 0) == foldC false ((ls.getD k []).getD i 0))))] fun TA => ?_
    refine W.cond rfl (fun hc21 => ?_) (fun hc21 => ?_)
    ·have hc21b := hc21
     have hc21e : (foldC false (xs.getD i 0) == foldC false ((ls.getD k []).getD i 0)) = false := by simpa using hc21b
     refine W.seq (W.region ?_)
     iterate 2 refine RW.v ?_
     refine RW.nil ?_
     refine W.rg [(1, v1), (3, .pointer (some ⟨b1, 0, none⟩)), (7, .int .i64 ((i : Nat) : Int)), (13, v2), (14, .int .i64 (ls.length : Int)), (15, .int .i64 ((k : Nat) : Int))] fun TA => ?_
     refine W.exit _ ?_
     refine blkQ_out rfl ?_
     refine seqQ_exit ?_
     refine rndQ_exit ?_
     have hlm : min n (lcpC false xs (ls.getD k [])) = i := by rw [hC, lcp_stop (by omega) (by omega) hc21e]; omega
     refine blkQ_here ?_
     refine blkQ_normal ?_
     refine W.region ?_
     refine RW.valE (v' := .int .i64 (((k : Nat) : Int) + 1)) (by kernel_rfl) (by kernel_rfl) rfl (congrArg (Value.int .i64) (wrap_in (by omega) (by omega))) (by kernel_rfl) ?_
     refine RW.v ?_
     refine RW.nil ?_
     exact ⟨rfl, mm - 1, by omega, k + 1, i, (by omega), (by omega), (by rw [hT, dropD (d := []) hkl]; show (ls.drop (k + 1)).foldl _ (min n (lcpC false xs (ls.getD k []))) = _; rw [hlm]), H, rfl, rfl, rfl, rfl, rfl, rfl⟩
    ·have hc21b := hc21
     have hc21e : (foldC false (xs.getD i 0) == foldC false ((ls.getD k []).getD i 0)) = true := by simpa using hc21b
     refine W.skip ?_
     refine blkQ_normal ?_
     refine W.region ?_
     refine RW.valE (v' := .int .i64 (((i : Nat) : Int) + 1)) (by kernel_rfl) (by kernel_rfl) rfl (congrArg (Value.int .i64) (wrap_in (by omega) (by omega))) (by kernel_rfl) ?_
     refine RW.v ?_
     refine RW.nil ?_
     exact ⟨rfl, mm2 - 1, by omega, i + 1, (by omega), (by rw [hC, lcp_go (by omega) (by omega) hc21e]; omega), H, rfl, rfl, rfl, rfl, rfl, rfl, rfl, rfl, rfl⟩
   ·have hc8b := hc8
    have hc8 := of_decide_eq_false hc8
    refine W.exit _ ?_
    refine seqQ_exit ?_
    refine rndQ_exit ?_
    have hlm : min n (lcpC false xs (ls.getD k [])) = n1 := by have hi1 : i = n1 := (by omega); have hb := lcp_le false (xs.drop i) ((ls.getD k []).drop i); rw [List.length_drop, List.length_drop] at hb; rw [hC]; omega
    refine blkQ_here ?_
    refine blkQ_normal ?_
    refine W.region ?_
    refine RW.valE (v' := .int .i64 (((k : Nat) : Int) + 1)) (by kernel_rfl) (by kernel_rfl) rfl (congrArg (Value.int .i64) (wrap_in (by omega) (by omega))) (by kernel_rfl) ?_
    refine RW.v ?_
    refine RW.nil ?_
    exact ⟨rfl, mm - 1, by omega, k + 1, n1, (by omega), (by omega), (by rw [hT, dropD (d := []) hkl]; show (ls.drop (k + 1)).foldl _ (min n (lcpC false xs (ls.getD k []))) = _; rw [hlm]), H, rfl, rfl, rfl, rfl, rfl, rfl⟩
  ·have hc2b := hc2
   have hc2 := of_decide_eq_false hc2
   refine W.exit _ ?_
   refine seqQ_exit ?_
   refine rndQ_exit ?_
   have hN : comN false xs ls = n := by rw [hT, List.drop_eq_nil_of_le (by omega)]; rfl
   refine blkQ_here ?_
   refine W.seq (W.region ?_)
   iterate 2 refine RW.v ?_
   obtain ⟨sv22, hv23, hk24⟩ := slk_cut (P := Tryd.prog) (t := 50) (e := 21) (i := n) h1 (by kernel_rfl) (by kernel_rfl) (by omega)
   rw [Nat.mul_one] at hk24
   refine RW.vop (v := sv22) (by kernel_rfl) (by kernel_rfl) (vop_slice rfl hv23) (by kernel_rfl) ?_
   refine RW.v ?_
   refine RW.nil ?_
   replace H := (H.del 0)
   dsimp only [setL, delL] at H
   refine W.ret ?_
   refine endG (by rfl) (by exact resL_tmp rfl) ?_
   rw [hN]
   have hk2 : SlK F 1 sv22 (xs.take n).length ((xs.take n).map runeV) := by rw [List.length_take, Nat.min_eq_left (by omega), List.map_take]; exact hk24
   exact ⟨hk2, H⟩
end
end Go.Proofs.YtjcmdifpkafdkaaDoor
namespace Go.Proofs.YtjcmdifpkafdkaaDoor
open Go.Lib
set_option maxRecDepth 100000
open Go.RowKit
theorem runes_in (s : List UInt8) : ∀ c ∈ runes s, 0 ≤ c ∧ c ≤ 1114111 := by
 have h : ∀ (n : Nat) (l : List UInt8), ∀ c ∈ runesF n l, 0 ≤ c ∧ c ≤ 1114111 := by
  intro n
  induction n with
  | zero => intro l c h; simp [runesF] at h
  | succ n ih =>
   intro l c h
   unfold runesF at h
   split at h
   ·simp at h
   ·rcases List.mem_cons.1 h with rfl | h
    ·have e := dec_list l 0
     rw [List.drop_zero] at e
     have hr : (decodeL l).1 ≤ 1114111 := by rw [← e]; exact rune_le _ _
     omega
    ·exact ih _ c h
 exact h _ _
section
variable {G : Nat} {A : Abs} {σ : Mem} {F : Nat → Option Blk2} {L : List Ent} {fold : Bool} {l m : List (List UInt8)} {ys : List Int} {b7 b8 : Nat} {w v1 : Value}
set_option maxHeartbeats 4000000 in
theorem cl_status {s : List UInt8} (hb7 : F b7 = some (.row ⟨[.func (.func (cond fold 84 86)) #[] #[]], 47, false⟩)) (hb8 : F b8 = some (.row ⟨[w], 50, false⟩)) (hw : SlF F 1 w ys.length (ys.map runeV)) (hy : ∀ c ∈ ys, 0 ≤ c ∧ c ≤ 1114111) (hs : s.length ≤ 1000000) (H : Lies G A F σ L) : WC G Tryd.prog 88 #[.string ⟨s.toArray⟩, .pointer (some ⟨b7, 0, none⟩), .pointer (some ⟨b8, 0, none⟩)] σ fun v σ' => v = .bool (eqC fold (runes s) ys) ∧ Lies G A F σ' L := by
 cases fold with
 | true =>
  obtain ⟨F0, hF⟩ : ∃ F0, F0 = F := ⟨_, rfl⟩
  have le0 : Le F0 F := fun b y h => hF ▸ h
  rw [← hF] at hb7 hb8 hw ⊢
  refine WC.enter (fn := Tryd.f88) Tryd.func88 rfl ?_
  refine W.rg [(0, .string ⟨s.toArray⟩), (1, .pointer (some ⟨b7, 0, none⟩)), (2, .pointer (some ⟨b8, 0, none⟩))] fun TA => ?_
  refine W.seq (W.region ?_)
  refine RW.v ?_
  refine RW.nil ?_
  refine W.rg [(0, .string ⟨s.toArray⟩), (1, .pointer (some ⟨b7, 0, none⟩)), (2, .pointer (some ⟨b8, 0, none⟩))] fun TA => ?_
  refine W.seq (W.region ?_)
  refine RW.loads 1 (by kernel_rfl) (by kernel_rfl) rfl rfl (H.old _ _ (le0 _ _ hb7)) rfl rfl (by kernel_rfl) ?_
  refine RW.v ?_
  refine RW.convR H hs (by kernel_rfl) (by kernel_rfl) rfl rfl rfl rfl rfl (by kernel_rfl) ?_
  clear H; intro _ cv1 H
  obtain ⟨F, le, hk2, H⟩ := H.freezeK 0 rfl
  dsimp only [setL, delL] at H
  replace le0 := fun b y h => le b y (le0 b y h)
  refine RW.loads 1 (by kernel_rfl) (by kernel_rfl) rfl rfl (H.old _ _ (le0 _ _ hb8)) rfl rfl (by kernel_rfl) ?_
  refine RW.cl ?_
  refine ((equal_wc (fold := true) hk2.slf (hw.le le0) (Nat.le_trans (runes_le s) hs) (runes_in s) hy H).mono ?_)
  clear H
  rintro _ _ ⟨rfl, H⟩
  refine RW.v ?_
  refine RW.nil ?_
  refine W.ret ?_
  refine endG (by rfl) (by exact resL_tmp rfl) ?_
  exact ⟨rfl, (H).back le0⟩
 | false =>
  obtain ⟨F0, hF⟩ : ∃ F0, F0 = F := ⟨_, rfl⟩
  have le0 : Le F0 F := fun b y h => hF ▸ h
  rw [← hF] at hb7 hb8 hw ⊢
  refine WC.enter (fn := Tryd.f88) Tryd.func88 rfl ?_
  refine W.rg [(0, .string ⟨s.toArray⟩), (1, .pointer (some ⟨b7, 0, none⟩)), (2, .pointer (some ⟨b8, 0, none⟩))] fun TA => ?_
  refine W.seq (W.region ?_)
  refine RW.v ?_
  refine RW.nil ?_
  refine W.rg [(0, .string ⟨s.toArray⟩), (1, .pointer (some ⟨b7, 0, none⟩)), (2, .pointer (some ⟨b8, 0, none⟩))] fun TA => ?_
  refine W.seq (W.region ?_)
  refine RW.loads 1 (by kernel_rfl) (by kernel_rfl) rfl rfl (H.old _ _ (le0 _ _ hb7)) rfl rfl (by kernel_rfl) ?_
  refine RW.v ?_
  refine RW.convR H hs (by kernel_rfl) (by kernel_rfl) rfl rfl rfl rfl rfl (by kernel_rfl) ?_
  clear H; intro _ cv1 H
  obtain ⟨F, le, hk2, H⟩ := H.freezeK 0 rfl
  dsimp only [setL, delL] at H
  replace le0 := fun b y h => le b y (le0 b y h)
  refine RW.loads 1 (by kernel_rfl) (by kernel_rfl) rfl rfl (H.old _ _ (le0 _ _ hb8)) rfl rfl (by kernel_rfl) ?_
  refine RW.cl ?_
  refine ((equal_wc (fold := false) hk2.slf (hw.le le0) (Nat.le_trans (runes_le s) hs) (runes_in s) hy H).mono ?_)
  clear H
  rintro _ _ ⟨rfl, H⟩
  refine RW.v ?_
  refine RW.nil ?_
  refine W.ret ?_
  refine endG (by rfl) (by exact resL_tmp rfl) ?_
  exact ⟨rfl, (H).back le0⟩
set_option maxHeartbeats 4000000 in
theorem ix_status (h1 : SlF F 1 v1 l.length (l.map strV)) (hl : l.length ≤ 1000000) (hsm : ∀ s ∈ l, s.length ≤ 1000000) (hb7 : F b7 = some (.row ⟨[.func (.func (cond fold 84 86)) #[] #[]], 47, false⟩)) (hb8 : F b8 = some (.row ⟨[w], 50, false⟩)) (hw : SlF F 1 w ys.length (ys.map runeV)) (hy : ∀ c ∈ ys, 0 ≤ c ∧ c ≤ 1114111) (H : Lies G A F σ L) : WC G Tryd.prog 97 #[v1, .func (.func 88) #[] #[.pointer (some ⟨b7, 0, none⟩), .pointer (some ⟨b8, 0, none⟩)]] σ fun v σ' => ∃ n : Int, v = .int .i64 n ∧ decide (n ≥ 0) = l.any (fun c => eqC fold (runes c) ys) ∧ Lies G A F σ' L := by
 cases fold with
 | true =>
  refine WC.enter (fn := Tryd.f97) Tryd.func97 rfl ?_
  refine W.rg [(0, v1), (1, .func (.func 88) #[] #[.pointer (some ⟨b7, 0, none⟩), .pointer (some ⟨b8, 0, none⟩)])] fun TA => ?_
  refine W.seq (W.region ?_)
  refine RW.v ?_
  refine RW.nil ?_
  refine W.rg [(0, v1), (1, .func (.func 88) #[] #[.pointer (some ⟨b7, 0, none⟩), .pointer (some ⟨b8, 0, none⟩)])] fun TA => ?_
  refine W.seq ?_
  refine W.seq (W.region ?_)
  refine RW.v ?_
  refine RW.len (by kernel_rfl) (by kernel_rfl) rfl rfl rfl rfl (h1.len (e := 9) (by kernel_rfl)) (by kernel_rfl) ?_
  refine RW.v ?_
  refine RW.nil ?_
  refine W.rg [(0, v1), (1, .func (.func 88) #[] #[.pointer (some ⟨b7, 0, none⟩), .pointer (some ⟨b8, 0, none⟩)]), (7, .int .i64 (l.length : Int)), (8, .int .i64 0)] fun TA => ?_
  refine W.block ?_
  refine W.loop (fun mm ta σ => ∃ (i : Nat), (mm + i = l.length) ∧ (l.any (fun c => eqC true (runes c) ys) = (l.drop i).any (fun c => eqC true (runes c) ys)) ∧ Lies G A F σ ((L)) ∧ ta 0 = v1 ∧ ta 1 = .func (.func 88) #[] #[.pointer (some ⟨b7, 0, none⟩), .pointer (some ⟨b8, 0, none⟩)] ∧ ta 7 = .int .i64 (l.length : Int) ∧ ta 8 = .int .i64 ((i : Nat) : Int)) l.length ?_ ?_
  ·exact ⟨0, (by omega), rfl, H, rfl, rfl, rfl, rfl⟩
  clear H
  rintro mm ta _ ⟨i, hm, hT, H, e0, e1, e7, e8⟩
  refine W.rst [(0, v1), (1, .func (.func 88) #[] #[.pointer (some ⟨b7, 0, none⟩), .pointer (some ⟨b8, 0, none⟩)]), (7, .int .i64 (l.length : Int)), (8, .int .i64 ((i : Nat) : Int))] ⟨e0, e1, e7, e8, trivial⟩ fun TA => ?_
  clear e0 e1 e7 e8
  refine W.seq (W.region ?_)
  refine RW.v ?_
  refine RW.nil ?_
  refine W.rg [(0, v1), (1, .func (.func 88) #[] #[.pointer (some ⟨b7, 0, none⟩), .pointer (some ⟨b8, 0, none⟩)]), (7, .int .i64 (l.length : Int)), (8, .int .i64 ((i : Nat) : Int)), (9, .bool (decide (((i : Nat) : Int) < (l.length : Int))))] fun TA => ?_
  refine W.seq ?_
  refine W.cond rfl (fun hc1 => ?_) (fun hc1 => ?_)
  ·have hc1b := hc1
   have hc1 := of_decide_eq_true hc1
   have hil : i < l.length := by omega
   refine W.skip ?_
   refine W.seq ?_
   refine W.block ?_
   refine W.seq (W.region ?_)
   iterate 2 refine RW.v ?_
   refine RW.nil ?_
   refine W.rg [(0, v1), (1, .func (.func 88) #[] #[.pointer (some ⟨b7, 0, none⟩), .pointer (some ⟨b8, 0, none⟩)]), (5, .int .i64 ((i : Nat) : Int)), (7, .int .i64 (l.length : Int)), (8, .int .i64 ((i : Nat) : Int))] fun TA => ?_
   refine W.seq (W.region ?_)
   iterate 3 refine RW.v ?_
   refine RW.idxF h1 (by kernel_rfl) (by kernel_rfl) rfl Tryd.underlying22 (by kernel_rfl) rfl rfl ⟨by omega, by omega⟩ (by kernel_rfl) ?_
   intro b2 q3 r4 hF5 hE6
   rw [strs_at (l := l) (j := i) (i := ((i : Nat) : Int)) (by omega) (by omega)] at hE6
   refine RW.loads 1 (by kernel_rfl) (by kernel_rfl) rfl rfl (H.old _ _ hF5) hE6 rfl (by kernel_rfl) ?_
   refine RW.cl ?_
   refine ((cl_status (fold := true) (s := (l.getD i [])) hb7 hb8 hw hy (hsm _ (mem_of (by omega))) H).mono ?_)
   clear H
   rintro _ _ ⟨rfl, H⟩
   refine RW.nil ?_
   refine W.rg [(0, v1), (1, .func (.func 88) #[] #[.pointer (some ⟨b7, 0, none⟩), .pointer (some ⟨b8, 0, none⟩)]), (5, .int .i64 ((i : Nat) : Int)), (7, .int .i64 (l.length : Int)), (8, .int .i64 ((i : Nat) : Int)), (16, .bool (eqC true (runes (l.getD i [])) ys))] fun TA => ?_
   refine W.cond rfl (fun hc7 => ?_) (fun hc7 => ?_)
   ·have hc7b := hc7
    refine W.seq (W.region ?_)
    iterate 2 refine RW.v ?_
    refine RW.nil ?_
    refine W.ret ?_
    refine blkQ_ret ?_
    refine seqQ_ret ?_
    refine rndQ_ret ?_
    refine blkQ_ret ?_
    refine seqQ_ret ?_
    refine endG (by rfl) (by exact resL_tmp rfl) ?_
    exact ⟨_, rfl, by rw [hT, dropD (d := []) hil, List.any_cons, hc7b, Bool.true_or, decide_eq_true (by omega)], H⟩
   ·have hc7b := hc7
    refine W.skip ?_
    refine blkQ_normal ?_
    refine W.region ?_
    refine RW.valE (v' := .int .i64 (((i : Nat) : Int) + 1)) (by kernel_rfl) (by kernel_rfl) rfl (congrArg (Value.int .i64) (wrap_in (by omega) (by omega))) (by kernel_rfl) ?_
    refine RW.v ?_
    refine RW.nil ?_
    exact ⟨rfl, mm - 1, by omega, i + 1, (by omega), (by rw [hT, dropD (d := []) hil, List.any_cons, hc7b, Bool.false_or]), H, rfl, rfl, rfl, rfl⟩
  ·have hc1b := hc1
   have hc1 := of_decide_eq_false hc1
   refine W.exit _ ?_
   refine seqQ_exit ?_
   refine rndQ_exit ?_
   refine blkQ_here ?_
   refine W.seq (W.region ?_)
   refine RW.v ?_
   refine RW.nil ?_
   refine W.ret ?_
   refine endG (by rfl) (by exact resL_tmp rfl) ?_
   exact ⟨_, rfl, by rw [hT, List.drop_eq_nil_of_le (by omega)]; rfl, H⟩
 | false =>
  refine WC.enter (fn := Tryd.f97) Tryd.func97 rfl ?_
  refine W.rg [(0, v1), (1, .func (.func 88) #[] #[.pointer (some ⟨b7, 0, none⟩), .pointer (some ⟨b8, 0, none⟩)])] fun TA => ?_
  refine W.seq (W.region ?_)
  refine RW.v ?_
  refine RW.nil ?_
  refine W.rg [(0, v1), (1, .func (.func 88) #[] #[.pointer (some ⟨b7, 0, none⟩), .pointer (some ⟨b8, 0, none⟩)])] fun TA => ?_
  refine W.seq ?_
  refine W.seq (W.region ?_)
  refine RW.v ?_
  refine RW.len (by kernel_rfl) (by kernel_rfl) rfl rfl rfl rfl (h1.len (e := 9) (by kernel_rfl)) (by kernel_rfl) ?_
  refine RW.v ?_
  refine RW.nil ?_
  refine W.rg [(0, v1), (1, .func (.func 88) #[] #[.pointer (some ⟨b7, 0, none⟩), .pointer (some ⟨b8, 0, none⟩)]), (7, .int .i64 (l.length : Int)), (8, .int .i64 0)] fun TA => ?_
  refine W.block ?_
  refine W.loop (fun mm ta σ => ∃ (i : Nat), (mm + i = l.length) ∧ (l.any (fun c => eqC false (runes c) ys) = (l.drop i).any (fun c => eqC false (runes c) ys)) ∧ Lies G A F σ ((L)) ∧ ta 0 = v1 ∧ ta 1 = .func (.func 88) #[] #[.pointer (some ⟨b7, 0, none⟩), .pointer (some ⟨b8, 0, none⟩)] ∧ ta 7 = .int .i64 (l.length : Int) ∧ ta 8 = .int .i64 ((i : Nat) : Int)) l.length ?_ ?_
  ·exact ⟨0, (by omega), rfl, H, rfl, rfl, rfl, rfl⟩
  clear H
  rintro mm ta _ ⟨i, hm, hT, H, e0, e1, e7, e8⟩
  refine W.rst [(0, v1), (1, .func (.func 88) #[] #[.pointer (some ⟨b7, 0, none⟩), .pointer (some ⟨b8, 0, none⟩)]), (7, .int .i64 (l.length : Int)), (8, .int .i64 ((i : Nat) : Int))] ⟨e0, e1, e7, e8, trivial⟩ fun TA => ?_
  clear e0 e1 e7 e8
  refine W.seq (W.region ?_)
  refine RW.v ?_
  refine RW.nil ?_
  refine W.rg [(0, v1), (1, .func (.func 88) #[] #[.pointer (some ⟨b7, 0, none⟩), .pointer (some ⟨b8, 0, none⟩)]), (7, .int .i64 (l.length : Int)), (8, .int .i64 ((i : Nat) : Int)), (9, .bool (decide (((i : Nat) : Int) < (l.length : Int))))] fun TA => ?_
  refine W.seq ?_
  refine W.cond rfl (fun hc1 => ?_) (fun hc1 => ?_)
  ·have hc1b := hc1
   have hc1 := of_decide_eq_true hc1
   have hil : i < l.length := by omega
   refine W.skip ?_
   refine W.seq ?_
   refine W.block ?_
   refine W.seq (W.region ?_)
   iterate 2 refine RW.v ?_
   refine RW.nil ?_
   refine W.rg [(0, v1), (1, .func (.func 88) #[] #[.pointer (some ⟨b7, 0, none⟩), .pointer (some ⟨b8, 0, none⟩)]), (5, .int .i64 ((i : Nat) : Int)), (7, .int .i64 (l.length : Int)), (8, .int .i64 ((i : Nat) : Int))] fun TA => ?_
   refine W.seq (W.region ?_)
   iterate 3 refine RW.v ?_
   refine RW.idxF h1 (by kernel_rfl) (by kernel_rfl) rfl Tryd.underlying22 (by kernel_rfl) rfl rfl ⟨by omega, by omega⟩ (by kernel_rfl) ?_
   intro b2 q3 r4 hF5 hE6
   rw [strs_at (l := l) (j := i) (i := ((i : Nat) : Int)) (by omega) (by omega)] at hE6
   refine RW.loads 1 (by kernel_rfl) (by kernel_rfl) rfl rfl (H.old _ _ hF5) hE6 rfl (by kernel_rfl) ?_
   refine RW.cl ?_
   refine ((cl_status (fold := false) (s := (l.getD i [])) hb7 hb8 hw hy (hsm _ (mem_of (by omega))) H).mono ?_)
   clear H
   rintro _ _ ⟨rfl, H⟩
   refine RW.nil ?_
   refine W.rg [(0, v1), (1, .func (.func 88) #[] #[.pointer (some ⟨b7, 0, none⟩), .pointer (some ⟨b8, 0, none⟩)]), (5, .int .i64 ((i : Nat) : Int)), (7, .int .i64 (l.length : Int)), (8, .int .i64 ((i : Nat) : Int)), (16, .bool (eqC false (runes (l.getD i [])) ys))] fun TA => ?_
   refine W.cond rfl (fun hc7 => ?_) (fun hc7 => ?_)
   ·have hc7b := hc7
    refine W.seq (W.region ?_)
    iterate 2 refine RW.v ?_
    refine RW.nil ?_
    refine W.ret ?_
    refine blkQ_ret ?_
    refine seqQ_ret ?_
    refine rndQ_ret ?_
    refine blkQ_ret ?_
    refine seqQ_ret ?_
    refine endG (by rfl) (by exact resL_tmp rfl) ?_
    exact ⟨_, rfl, by rw [hT, dropD (d := []) hil, List.any_cons, hc7b, Bool.true_or, decide_eq_true (by omega)], H⟩
   ·have hc7b := hc7
    refine W.skip ?_
    refine blkQ_normal ?_
    refine W.region ?_
    refine RW.valE (v' := .int .i64 (((i : Nat) : Int) + 1)) (by kernel_rfl) (by kernel_rfl) rfl (congrArg (Value.int .i64) (wrap_in (by omega) (by omega))) (by kernel_rfl) ?_
    refine RW.v ?_
    refine RW.nil ?_
    exact ⟨rfl, mm - 1, by omega, i + 1, (by omega), (by rw [hT, dropD (d := []) hil, List.any_cons, hc7b, Bool.false_or]), H, rfl, rfl, rfl, rfl⟩
  ·have hc1b := hc1
   have hc1 := of_decide_eq_false hc1
   refine W.exit _ ?_
   refine seqQ_exit ?_
   refine rndQ_exit ?_
   refine blkQ_here ?_
   refine W.seq (W.region ?_)
   refine RW.v ?_
   refine RW.nil ?_
   refine W.ret ?_
   refine endG (by rfl) (by exact resL_tmp rfl) ?_
   exact ⟨_, rfl, by rw [hT, List.drop_eq_nil_of_le (by omega)]; rfl, H⟩
set_option maxHeartbeats 8000000 in
theorem ct_status (h1 : SlF F 1 v1 l.length (l.map strV)) (hl : l.length ≤ 1000000) (hsm : ∀ s ∈ l, s.length ≤ 1000000) (hb7 : F b7 = some (.row ⟨[.func (.func (cond fold 84 86)) #[] #[]], 47, false⟩)) (hb8 : F b8 = some (.row ⟨[w], 50, false⟩)) (hw : SlF F 1 w ys.length (ys.map runeV)) (hy : ∀ c ∈ ys, 0 ≤ c ∧ c ≤ 1114111) (H : Lies G A F σ L) : WC G Tryd.prog 65 #[v1, .func (.func 88) #[] #[.pointer (some ⟨b7, 0, none⟩), .pointer (some ⟨b8, 0, none⟩)]] σ fun v σ' => v = .bool (l.any fun c => eqC fold (runes c) ys) ∧ Lies G A F σ' L := by
 cases fold with
 | true =>
  refine WC.enter (fn := Tryd.f65) Tryd.func65 rfl ?_
  refine W.rg [(0, v1), (1, .func (.func 88) #[] #[.pointer (some ⟨b7, 0, none⟩), .pointer (some ⟨b8, 0, none⟩)])] fun TA => ?_
  refine W.seq (W.region ?_)
  refine RW.v ?_
  refine RW.nil ?_
  refine W.rg [(0, v1), (1, .func (.func 88) #[] #[.pointer (some ⟨b7, 0, none⟩), .pointer (some ⟨b8, 0, none⟩)])] fun TA => ?_
  refine W.seq (W.region ?_)
  iterate 2 refine RW.v ?_
  refine RW.cl ?_
  refine ((ix_status (fold := true) h1 hl hsm hb7 hb8 hw hy H).mono ?_)
  clear H
  rintro _ _ ⟨n, rfl, hn, H⟩
  iterate 2 refine RW.v ?_
  refine RW.nil ?_
  refine W.ret ?_
  refine endG (by rfl) (by exact resL_tmp rfl) ?_
  rw [← hn]
  exact ⟨rfl, H⟩
 | false =>
  refine WC.enter (fn := Tryd.f65) Tryd.func65 rfl ?_
  refine W.rg [(0, v1), (1, .func (.func 88) #[] #[.pointer (some ⟨b7, 0, none⟩), .pointer (some ⟨b8, 0, none⟩)])] fun TA => ?_
  refine W.seq (W.region ?_)
  refine RW.v ?_
  refine RW.nil ?_
  refine W.rg [(0, v1), (1, .func (.func 88) #[] #[.pointer (some ⟨b7, 0, none⟩), .pointer (some ⟨b8, 0, none⟩)])] fun TA => ?_
  refine W.seq (W.region ?_)
  iterate 2 refine RW.v ?_
  refine RW.cl ?_
  refine ((ix_status (fold := false) h1 hl hsm hb7 hb8 hw hy H).mono ?_)
  clear H
  rintro _ _ ⟨n, rfl, hn, H⟩
  iterate 2 refine RW.v ?_
  refine RW.nil ?_
  refine W.ret ?_
  refine endG (by rfl) (by exact resL_tmp rfl) ?_
  rw [← hn]
  exact ⟨rfl, H⟩
set_option maxHeartbeats 4000000 in
theorem status_wc {s : List UInt8} (h1 : SlF F 1 v1 m.length (m.map strV)) (hl : m.length ≤ 1000000) (hsm : ∀ s ∈ m, s.length ≤ 1000000) (hs : s.length ≤ 1000000) (H : Lies G A F σ L) : WC G Tryd.prog 45 #[v1, .string ⟨s.toArray⟩, .bool fold] σ fun v σ' => v = .int .i64 (statusC fold m s) ∧ Lies G A F σ' L := by
 cases fold with
 | true =>
  obtain ⟨F0, hF⟩ : ∃ F0, F0 = F := ⟨_, rfl⟩
  have le0 : Le F0 F := fun b y h => hF ▸ h
  rw [← hF] at h1 ⊢
  refine WC.enter (fn := Tryd.f45) Tryd.func45 rfl ?_
  refine W.rg [(0, v1), (1, .string ⟨s.toArray⟩), (2, .bool true)] fun TA => ?_
  refine W.seq (W.region ?_)
  refine RW.v ?_
  refine RW.nil ?_
  refine W.rg [(0, v1), (1, .string ⟨s.toArray⟩), (2, .bool true)] fun TA => ?_
  refine W.seq (W.region ?_)
  refine RW.v ?_
  refine RW.cl ?_
  refine ((by_wc (fold := true) H).mono ?_)
  clear H
  rintro _ _ ⟨rfl, H⟩
  refine RW.v ?_
  refine RW.convR H hs (by kernel_rfl) (by kernel_rfl) rfl rfl rfl rfl rfl (by kernel_rfl) ?_
  clear H; intro _ cv1 H
  obtain ⟨F, le, hk2, H⟩ := H.freezeK 0 rfl
  dsimp only [setL, delL] at H
  replace le0 := fun b y h => le b y (le0 b y h)
  refine RW.mk H (.row ⟨[.nilFunc], 47, false⟩) ?_
  clear H; intro _ b3 _ H
  refine RW.mk H (.row ⟨[.slice none 0 0], 50, false⟩) ?_
  clear H; intro _ b4 _ H
  refine RW.st H 1 [.func (.func 84) #[] #[]] [.func (.func 84) #[] #[]] ?_
  clear H; intro _ _ H; dsimp only [setL, delL] at H
  refine RW.stL H 0 (vs := [cv1]) (cs' := [cv1]) (by kernel_rfl) (by kernel_rfl) rfl rfl rfl (slf_one hk2.slf) (slf_all hk2.slf) (by kernel_rfl) (Nat.le_of_ble_eq_true rfl) rfl (by kernel_rfl) ?_
  clear H; intro _ _ H; dsimp only [setL, delL] at H
  refine RW.nil ?_
  refine W.rg [(0, v1), (7, .pointer (some ⟨b3, 0, none⟩)), (8, .pointer (some ⟨b4, 0, none⟩))] fun TA => ?_
  refine W.seq (W.region ?_)
  refine RW.v ?_
  refine RW.val (v := .func (.func 88) #[] #[.pointer (some ⟨b3, 0, none⟩), .pointer (some ⟨b4, 0, none⟩)]) (by kernel_rfl) (by kernel_rfl) (by kernel_rfl) (by kernel_rfl) ?_
  obtain ⟨F, le, hb7, H⟩ := H.freeze 1 rfl
  dsimp only [setL, delL] at H
  replace le0 := fun b y h => le b y (le0 b y h)
  replace hk2 := hk2.le le
  obtain ⟨F, le, hb8, H⟩ := H.freeze 0 rfl
  dsimp only [setL, delL] at H
  replace le0 := fun b y h => le b y (le0 b y h)
  replace hk2 := hk2.le le
  replace hb7 := le _ _ hb7
  refine RW.cl ?_
  refine ((ct_status (fold := true) (h1.le le0) hl hsm hb7 hb8 hk2.slf (runes_in s) H).mono ?_)
  clear H
  rintro _ _ ⟨rfl, H⟩
  refine RW.v ?_
  refine RW.nil ?_
  refine W.rg [(0, v1), (9, .bool (m.any fun c => eqC true (runes c) (runes s)))] fun TA => ?_
  refine W.seq ?_
  refine W.block ?_
  refine W.seq (W.region ?_)
  refine RW.v ?_
  refine RW.len (by kernel_rfl) (by kernel_rfl) rfl rfl rfl rfl ((h1.le le0).len (e := 9) (by kernel_rfl)) (by kernel_rfl) ?_
  iterate 2 refine RW.v ?_
  refine RW.nil ?_
  refine W.rg [(0, v1), (9, .bool (m.any fun c => eqC true (runes c) (runes s))), (17, .bool ((m.length : Int) == 0))] fun TA => ?_
  refine W.cond rfl (fun hc5 => ?_) (fun hc5 => ?_)
  ·have hc5b := hc5
   have hc5 := eq_of_beq hc5
   refine W.seq (W.region ?_)
   refine RW.v ?_
   refine RW.nil ?_
   refine W.ret ?_
   refine blkQ_ret ?_
   refine seqQ_ret ?_
   refine endG (by rfl) (by exact resL_tmp rfl) ?_
   have es : statusC true m s = 0 := by unfold statusC; rw [if_pos (List.eq_nil_of_length_eq_zero (by omega))]
   rw [es]
   exact ⟨rfl, (H).back le0⟩
  ·have hc5b := hc5
   have hc5 := ne_of_beq_false hc5
   refine W.seq (W.region ?_)
   iterate 3 refine RW.v ?_
   refine RW.nil ?_
   refine W.rg [(0, v1), (21, .bool (!(m.any fun c => eqC true (runes c) (runes s))))] fun TA => ?_
   refine W.cond rfl (fun hc6 => ?_) (fun hc6 => ?_)
   ·have hc6b := hc6
    have hc6e : (m.any fun c => eqC true (runes c) (runes s)) = false := by simpa using hc6b
    refine W.seq (W.region ?_)
    refine RW.v ?_
    refine RW.nil ?_
    refine W.ret ?_
    refine blkQ_ret ?_
    refine seqQ_ret ?_
    refine endG (by rfl) (by exact resL_tmp rfl) ?_
    have es : statusC true m s = 3 := by unfold statusC; rw [if_neg (fun e => by have := congrArg List.length e; simp only [List.length_nil] at this; omega), if_pos hc6e]
    rw [es]
    exact ⟨rfl, (H).back le0⟩
   ·have hc6b := hc6
    have hc6e : (m.any fun c => eqC true (runes c) (runes s)) = true := by simpa using hc6b
    refine W.seq (W.region ?_)
    refine RW.v ?_
    refine RW.len (by kernel_rfl) (by kernel_rfl) rfl rfl rfl rfl ((h1.le le0).len (e := 9) (by kernel_rfl)) (by kernel_rfl) ?_
    iterate 2 refine RW.v ?_
    refine RW.nil ?_
    refine W.rg [(24, .bool ((m.length : Int) == 1))] fun TA => ?_
    refine W.cond rfl (fun hc7 => ?_) (fun hc7 => ?_)
    ·have hc7b := hc7
     have hc7 := eq_of_beq hc7
     refine W.seq (W.region ?_)
     refine RW.v ?_
     refine RW.nil ?_
     refine W.ret ?_
     refine blkQ_ret ?_
     refine seqQ_ret ?_
     refine endG (by rfl) (by exact resL_tmp rfl) ?_
     have es : statusC true m s = 1 := by unfold statusC; rw [if_neg (fun e => by have := congrArg List.length e; simp only [List.length_nil] at this; omega), if_neg (by rw [hc6e]; exact Bool.noConfusion), if_pos (by omega)]
     rw [es]
     exact ⟨rfl, (H).back le0⟩
    ·have hc7b := hc7
     have hc7 := ne_of_beq_false hc7
     refine W.skip ?_
     refine blkQ_normal ?_
     refine W.seq (W.region ?_)
     refine RW.v ?_
     refine RW.nil ?_
     refine W.ret ?_
     refine endG (by rfl) (by exact resL_tmp rfl) ?_
     have es : statusC true m s = 2 := by unfold statusC; rw [if_neg (fun e => by have := congrArg List.length e; simp only [List.length_nil] at this; omega), if_neg (by rw [hc6e]; exact Bool.noConfusion), if_neg (by omega)]
     rw [es]
     exact ⟨rfl, (H).back le0⟩
 | false =>
  obtain ⟨F0, hF⟩ : ∃ F0, F0 = F := ⟨_, rfl⟩
  have le0 : Le F0 F := fun b y h => hF ▸ h
  rw [← hF] at h1 ⊢
  refine WC.enter (fn := Tryd.f45) Tryd.func45 rfl ?_
  refine W.rg [(0, v1), (1, .string ⟨s.toArray⟩), (2, .bool false)] fun TA => ?_
  refine W.seq (W.region ?_)
  refine RW.v ?_
  refine RW.nil ?_
  refine W.rg [(0, v1), (1, .string ⟨s.toArray⟩), (2, .bool false)] fun TA => ?_
  refine W.seq (W.region ?_)
  refine RW.v ?_
  refine RW.cl ?_
  refine ((by_wc (fold := false) H).mono ?_)
  clear H
  rintro _ _ ⟨rfl, H⟩
  refine RW.v ?_
  refine RW.convR H hs (by kernel_rfl) (by kernel_rfl) rfl rfl rfl rfl rfl (by kernel_rfl) ?_
  clear H; intro _ cv1 H
  obtain ⟨F, le, hk2, H⟩ := H.freezeK 0 rfl
  dsimp only [setL, delL] at H
  replace le0 := fun b y h => le b y (le0 b y h)
  refine RW.mk H (.row ⟨[.nilFunc], 47, false⟩) ?_
  clear H; intro _ b3 _ H
  refine RW.mk H (.row ⟨[.slice none 0 0], 50, false⟩) ?_
  clear H; intro _ b4 _ H
  refine RW.st H 1 [.func (.func 86) #[] #[]] [.func (.func 86) #[] #[]] ?_
  clear H; intro _ _ H; dsimp only [setL, delL] at H
  refine RW.stL H 0 (vs := [cv1]) (cs' := [cv1]) (by kernel_rfl) (by kernel_rfl) rfl rfl rfl (slf_one hk2.slf) (slf_all hk2.slf) (by kernel_rfl) (Nat.le_of_ble_eq_true rfl) rfl (by kernel_rfl) ?_
  clear H; intro _ _ H; dsimp only [setL, delL] at H
  refine RW.nil ?_
  refine W.rg [(0, v1), (7, .pointer (some ⟨b3, 0, none⟩)), (8, .pointer (some ⟨b4, 0, none⟩))] fun TA => ?_
  refine W.seq (W.region ?_)
  refine RW.v ?_
  refine RW.val (v := .func (.func 88) #[] #[.pointer (some ⟨b3, 0, none⟩), .pointer (some ⟨b4, 0, none⟩)]) (by kernel_rfl) (by kernel_rfl) (by kernel_rfl) (by kernel_rfl) ?_
  obtain ⟨F, le, hb7, H⟩ := H.freeze 1 rfl
  dsimp only [setL, delL] at H
  replace le0 := fun b y h => le b y (le0 b y h)
  replace hk2 := hk2.le le
  obtain ⟨F, le, hb8, H⟩ := H.freeze 0 rfl
  dsimp only [setL, delL] at H
  replace le0 := fun b y h => le b y (le0 b y h)
  replace hk2 := hk2.le le
  replace hb7 := le _ _ hb7
  refine RW.cl ?_
  refine ((ct_status (fold := false) (h1.le le0) hl hsm hb7 hb8 hk2.slf (runes_in s) H).mono ?_)
  clear H
  rintro _ _ ⟨rfl, H⟩
  refine RW.v ?_
  refine RW.nil ?_
  refine W.rg [(0, v1), (9, .bool (m.any fun c => eqC false (runes c) (runes s)))] fun TA => ?_
  refine W.seq ?_
  refine W.block ?_
  refine W.seq (W.region ?_)
  refine RW.v ?_
  refine RW.len (by kernel_rfl) (by kernel_rfl) rfl rfl rfl rfl ((h1.le le0).len (e := 9) (by kernel_rfl)) (by kernel_rfl) ?_
  iterate 2 refine RW.v ?_
  refine RW.nil ?_
  refine W.rg [(0, v1), (9, .bool (m.any fun c => eqC false (runes c) (runes s))), (17, .bool ((m.length : Int) == 0))] fun TA => ?_
  refine W.cond rfl (fun hc5 => ?_) (fun hc5 => ?_)
  ·have hc5b := hc5
   have hc5 := eq_of_beq hc5
   refine W.seq (W.region ?_)
   refine RW.v ?_
   refine RW.nil ?_
   refine W.ret ?_
   refine blkQ_ret ?_
   refine seqQ_ret ?_
   refine endG (by rfl) (by exact resL_tmp rfl) ?_
   have es : statusC false m s = 0 := by unfold statusC; rw [if_pos (List.eq_nil_of_length_eq_zero (by omega))]
   rw [es]
   exact ⟨rfl, (H).back le0⟩
  ·have hc5b := hc5
   have hc5 := ne_of_beq_false hc5
   refine W.seq (W.region ?_)
   iterate 3 refine RW.v ?_
   refine RW.nil ?_
   refine W.rg [(0, v1), (21, .bool (!(m.any fun c => eqC false (runes c) (runes s))))] fun TA => ?_
   refine W.cond rfl (fun hc6 => ?_) (fun hc6 => ?_)
   ·have hc6b := hc6
    have hc6e : (m.any fun c => eqC false (runes c) (runes s)) = false := by simpa using hc6b
    refine W.seq (W.region ?_)
    refine RW.v ?_
    refine RW.nil ?_
    refine W.ret ?_
    refine blkQ_ret ?_
    refine seqQ_ret ?_
    refine endG (by rfl) (by exact resL_tmp rfl) ?_
    have es : statusC false m s = 3 := by unfold statusC; rw [if_neg (fun e => by have := congrArg List.length e; simp only [List.length_nil] at this; omega), if_pos hc6e]
    rw [es]
    exact ⟨rfl, (H).back le0⟩
   ·have hc6b := hc6
    have hc6e : (m.any fun c => eqC false (runes c) (runes s)) = true := by simpa using hc6b
    refine W.seq (W.region ?_)
    refine RW.v ?_
    refine RW.len (by kernel_rfl) (by kernel_rfl) rfl rfl rfl rfl ((h1.le le0).len (e := 9) (by kernel_rfl)) (by kernel_rfl) ?_
    iterate 2 refine RW.v ?_
    refine RW.nil ?_
    refine W.rg [(24, .bool ((m.length : Int) == 1))] fun TA => ?_
    refine W.cond rfl (fun hc7 => ?_) (fun hc7 => ?_)
    ·have hc7b := hc7
     have hc7 := eq_of_beq hc7
     refine W.seq (W.region ?_)
     refine RW.v ?_
     refine RW.nil ?_
     refine W.ret ?_
     refine blkQ_ret ?_
     refine seqQ_ret ?_
     refine endG (by rfl) (by exact resL_tmp rfl) ?_
     have es : statusC false m s = 1 := by unfold statusC; rw [if_neg (fun e => by have := congrArg List.length e; simp only [List.length_nil] at this; omega), if_neg (by rw [hc6e]; exact Bool.noConfusion), if_pos (by omega)]
     rw [es]
     exact ⟨rfl, (H).back le0⟩
    ·have hc7b := hc7
     have hc7 := ne_of_beq_false hc7
     refine W.skip ?_
     refine blkQ_normal ?_
     refine W.seq (W.region ?_)
     refine RW.v ?_
     refine RW.nil ?_
     refine W.ret ?_
     refine endG (by rfl) (by exact resL_tmp rfl) ?_
     have es : statusC false m s = 2 := by unfold statusC; rw [if_neg (fun e => by have := congrArg List.length e; simp only [List.length_nil] at this; omega), if_neg (by rw [hc6e]; exact Bool.noConfusion), if_neg (by omega)]
     rw [es]
     exact ⟨rfl, (H).back le0⟩
end
end Go.Proofs.YtjcmdifpkafdkaaDoor
