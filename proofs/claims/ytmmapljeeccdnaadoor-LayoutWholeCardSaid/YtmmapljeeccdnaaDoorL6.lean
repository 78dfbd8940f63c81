/-
 letters. Conditions: none.
 The rows of a text of small letters and line feeds. Plain. Conditions: none.
 fills. Conditions: none.
-/
import Derived.Test.YtmmapljeeccdnaaDoorL2
import Derived.Test.YtmmapljeeccdnaaDoorL5
import Derived.Test.YtmmapljeeccdnaaDoorPick
namespace Go.Proofs.YtmmapljeeccdnaaDoor
set_option maxRecDepth 100000
open Go.Lib Go.RowKit
def strV (L : List (List UInt8)) : List Value := L.map fun s => .string ⟨s.toArray⟩
def bsOf (ls : List (List UInt8)) (cur : List UInt8) : List UInt8 := ls.flatMap (fun y => y ++ [10]) ++ cur
def bt (n : Int) : UInt8 := UInt8.ofNat (97 + n.toNat)
def Lett (l : List UInt8) : Prop := ∀ b ∈ l, 97 ≤ b.toNat ∧ b.toNat ≤ 122
theorem lett_nil : Lett [] := fun b hb => by simp at hb
theorem bt_nat {n : Int} (h : 0 ≤ n) (h2 : n < 26) : (bt n).toNat = 97 + n.toNat := by
 unfold bt
 rw [UInt8.toNat_ofNat']
 omega
theorem bt_v {n : Int} (h : 0 ≤ n) (h2 : n < 26) : byteV (bt n) = .int .u8 (97 + n) := by
 show Value.int .u8 (((bt n).toNat : Nat) : Int) = _
 rw [bt_nat h h2]
 congr 1
 omega
theorem lett_one {l : List UInt8} {n : Int} (h : Lett l) (h0 : 0 ≤ n) (h2 : n < 26) : Lett (l ++ [bt n]) := fun b hb => by
 rcases List.mem_append.1 hb with hb | hb
 ·exact h b hb
 ·rw [List.mem_singleton.1 hb, bt_nat h0 h2]
  omega
theorem bsOf_cur (ls : List (List UInt8)) (cur : List UInt8) : cur.length ≤ (bsOf ls cur).length := by
 unfold bsOf
 rw [List.length_append]
 omega
theorem feed0 (cur : List UInt8) : cur.map byteV ++ [.int .u8 10] = (bsOf [cur] []).map byteV := by
 unfold bsOf
 simp [byteV]
theorem feed0_len (cur : List UInt8) : cur.length + 1 = (bsOf [cur] []).length := by
 unfold bsOf
 simp
theorem feed1 (ls : List (List UInt8)) (cur : List UInt8) : (bsOf ls cur).map byteV ++ [.int .u8 10] = (bsOf (ls ++ [cur]) []).map byteV := by
 unfold bsOf
 simp [byteV]
theorem feed1_len (ls : List (List UInt8)) (cur : List UInt8) : (bsOf ls cur).length + 1 = (bsOf (ls ++ [cur]) []).length := by
 unfold bsOf
 simp
 omega
theorem strV_feed (ls : List (List UInt8)) (cur : List UInt8) : strV ls ++ [.string ⟨cur.toArray⟩] ++ [.string ⟨#[]⟩] = strV (ls ++ [cur]) ++ [.string ⟨([] : List UInt8).toArray⟩] := by
 unfold strV
 simp
theorem one0 (cur : List UInt8) {n : Int} (h : 0 ≤ n) (h2 : n < 26) : cur.map byteV ++ [.int .u8 (97 + n)] = (cur ++ [bt n]).map byteV := by
 rw [List.map_append, List.map_singleton, bt_v h h2]
theorem one0_len (cur : List UInt8) (b : UInt8) : (cur ++ [b]).length = cur.length + 1 := by simp
theorem one1 (ls : List (List UInt8)) (cur : List UInt8) {n : Int} (h : 0 ≤ n) (h2 : n < 26) : (bsOf ls cur).map byteV ++ [.int .u8 (97 + n)] = (bsOf ls (cur ++ [bt n])).map byteV := by
 unfold bsOf
 rw [← List.append_assoc, List.map_append (l₂ := [bt n]), List.map_singleton, bt_v h h2]
theorem one1_len (ls : List (List UInt8)) (cur : List UInt8) (b : UInt8) : (bsOf ls (cur ++ [b])).length = (bsOf ls cur).length + 1 := by
 unfold bsOf
 simp
 omega
theorem lines_at {ls : List (List UInt8)} {cur : List UInt8} {i : Int} (h : i = ls.length) : ((strV ls ++ ([.string ⟨cur.toArray⟩] : List Value)).drop (i.toNat * 1)).take 1 = [.string ⟨cur.toArray⟩] := by
 rw [h, Int.toNat_natCast, Nat.mul_one, show ls.length = (strV ls).length from (List.length_map ..).symm, List.drop_left]
 rfl
theorem lines_set {ls : List (List UInt8)} {cur c2 : List UInt8} {i : Int} (h : i = ls.length) : overL (strV ls ++ ([.string ⟨cur.toArray⟩] : List Value)) (i.toNat * 1) [.string ⟨c2.toArray⟩] = strV ls ++ [.string ⟨c2.toArray⟩] := by
 rw [h, Int.toNat_natCast, Nat.mul_one]
 have := over_left (strV ls) ([.string ⟨cur.toArray⟩] : List Value) 0 ([.string ⟨c2.toArray⟩] : List Value)
 rw [Nat.add_zero, show (strV ls).length = ls.length from List.length_map ..] at this
 rw [this]
 rfl
theorem wrap_u8 {n : Int} (h1 : 0 ≤ n) (h2 : n ≤ 255) : IntKind.u8.wrap n = n := by
 simp [IntKind.wrap, IntKind.bits, IntKind.signed]
 omega
theorem getI_mem {l : List Int} {j : Nat} (h : j < l.length) : l.getD j 0 ∈ l := by
 rw [List.getD_eq_getElem?_getD, List.getElem?_eq_getElem h]
 exact List.getElem_mem h
theorem s_pickL {G : Nat} {σ : Mem} (x n : Int) (h1 : -9223372036854775808 ≤ x) (h2 : x ≤ 9223372036854775807) (h3 : 0 < n) (h4 : n ≤ 9223372036854775807) : SCall G Tryd.prog 34 #[.int .i64 x, .int .i64 n] σ (.int .i64 (pickOf x n)) σ :=
 below_call rfl rfl fun w => (pick_any x n w h1 h2 (by omega) h4).mono fun e w' ⟨k1, k2⟩ => ⟨k1, k2 ▸ Below.refl _ _⟩
section
variable {G : Nat} {A : Abs} {σ : Mem} {F : Nat → Option Blk2} {L : List Ent}
set_option maxHeartbeats 8000000 in
theorem letters_wc {xs : List Int} {v1 : Value} (h1 : SlF F 1 v1 xs.length (xs.map (Value.int .i64))) (hb : ∀ x ∈ xs, -9223372036854775808 ≤ x ∧ x ≤ 9223372036854775807) (hl : xs.length ≤ 200) (H : Lies G A F σ L) :
  WC G Tryd.prog 33 #[v1] σ fun v σ' => ∃ F' ls cur vl, Le F F' ∧ v = .tuple #[.string ⟨(bsOf ls cur).toArray⟩, vl] ∧ Lett cur ∧ (∀ y ∈ ls, Lett y) ∧ (bsOf ls cur).length ≤ 200 ∧ SlF F' 1 vl (ls.length + 1) (strV ls ++ [.string ⟨cur.toArray⟩]) ∧ Lies G A F' σ' L := by
 refine WC.enter (fn := Tryd.f33) Tryd.func33 rfl ?_
 refine W.rg [(0, v1)] fun TA => ?_
 refine W.seq (W.region ?_)
 iterate 2 refine RW.v ?_
 refine RW.nil ?_
 refine W.rg [(0, v1)] fun TA => ?_
 refine W.seq (W.region ?_)
 refine RW.v ?_
 refine RW.nil ?_
 refine W.rg [(0, v1), (4, .slice none 0 0)] fun TA => ?_
 refine W.seq (W.region ?_)
 refine RW.mkL H (x := .row ⟨[.string ByteArray.empty], 9, false⟩) (fm := fun b => .slice (some ⟨b, 0, none⟩) 1 1) (by kernel_rfl) (by kernel_rfl) (by kernel_rfl) (by kernel_rfl) ?_
 clear H; intro _ b1 _ H
 refine RW.v ?_
 refine RW.nil ?_
 refine W.rg [(0, v1), (4, .slice none 0 0), (5, .slice (some ⟨b1, 0, none⟩) 1 1)] fun TA => ?_
 refine W.seq ?_
 refine W.seq (W.region ?_)
 refine RW.v ?_
 refine RW.nil ?_
 refine W.rg [(0, v1), (4, .slice none 0 0), (5, .slice (some ⟨b1, 0, none⟩) 1 1), (6, .int .i64 0)] fun TA => ?_
 refine W.block ?_
 replace H := H.nilSl 5 1
 refine W.loop (fun mm ta σ => (∃ (i : Nat) (cur : List UInt8) (vb : Value), (mm + i = xs.length) ∧ (cur.length = i) ∧ (Lett cur) ∧ Lies G A F σ (.sl 5 1 vb cur.length (cur.map byteV) :: .at_ b1 (.row ⟨[.string ⟨cur.toArray⟩], 9, false⟩) :: (L)) ∧ ta 0 = v1 ∧ ta 4 = vb ∧ ta 5 = .slice (some ⟨b1, 0, none⟩) 1 1 ∧ ta 6 = .int .i64 ((i : Nat) : Int)) ∨ (∃ (i : Nat) (ls : List (List UInt8)) (cur : List UInt8) (vb : Value) (vl : Value), (mm + i = xs.length) ∧ ((bsOf ls cur).length = i) ∧ (ls.length ≤ i) ∧ (Lett cur) ∧ (∀ y ∈ ls, Lett y) ∧ Lies G A F σ (.sl 5 1 vb ((bsOf ls cur).length) ((bsOf ls cur).map byteV) :: .sl 9 1 vl (ls.length + 1) (strV ls ++ [.string ⟨cur.toArray⟩]) :: (L)) ∧ ta 0 = v1 ∧ ta 4 = vb ∧ ta 5 = vl ∧ ta 6 = .int .i64 ((i : Nat) : Int))) xs.length ?_ ?_
 ·exact .inl ⟨0, [], .slice none 0 0, (by omega), rfl, lett_nil, H, rfl, rfl, rfl, rfl⟩
 clear H
 rintro mm ta _ (⟨i, cur, vb, hm, hlen, hlt, H, e0, e4, e5, e6⟩ | ⟨i, ls, cur, vb, vl, hm, hlen, hls, hlt, hla, H, e0, e4, e5, e6⟩)
 ·refine W.rst [(0, v1), (4, vb), (5, .slice (some ⟨b1, 0, none⟩) 1 1), (6, .int .i64 ((i : Nat) : Int))] ⟨e0, e4, e5, e6, trivial⟩ fun TA => ?_
  clear e0 e4 e5 e6
  refine W.seq ?_
  refine W.seq (W.region ?_)
  iterate 2 refine RW.v ?_
  refine RW.len (by kernel_rfl) (by kernel_rfl) rfl rfl rfl rfl (h1.len (e := 3) (by kernel_rfl)) (by kernel_rfl) ?_
  refine RW.v ?_
  refine RW.nil ?_
  refine W.rg [(0, v1), (4, vb), (5, .slice (some ⟨b1, 0, none⟩) 1 1), (6, .int .i64 ((i : Nat) : Int)), (12, .bool (decide (((i : Nat) : Int) < (xs.length : Int))))] fun TA => ?_
  refine W.cond rfl (fun hc2 => ?_) (fun hc2 => ?_)
  ·have hc2b := hc2
   have hc2 := of_decide_eq_true hc2
   have hil : i < xs.length := by omega
   refine W.skip ?_
   refine W.seq ?_
   refine W.block ?_
   refine W.seq (W.region ?_)
   iterate 2 refine RW.v ?_
   refine RW.idxF h1 (by kernel_rfl) (by kernel_rfl) rfl Tryd.underlying37 (by kernel_rfl) rfl rfl ⟨by omega, by omega⟩ (by kernel_rfl) ?_
   intro b3 q4 r5 hF6 hE7
   rw [ints_at (l := xs) (j := i) (by omega)] at hE7
   refine RW.loads 1 (by kernel_rfl) (by kernel_rfl) rfl rfl (H.old _ _ hF6) hE7 rfl (by kernel_rfl) ?_
   have hxb := hb _ (getI_mem (l := xs) (show i < xs.length by omega))
   have hpr := pick_range (xs.getD i 0) 29 (by decide)
   refine RW.cl ?_
   refine ⟨_, _, (s_pickL (xs.getD i 0) 29 hxb.1 hxb.2 (by decide) (by decide)), ?_⟩
   refine RW.v ?_
   refine RW.nil ?_
   refine W.rg [(0, v1), (4, vb), (5, .slice (some ⟨b1, 0, none⟩) 1 1), (6, .int .i64 ((i : Nat) : Int)), (7, .int .i64 (pickOf (xs.getD i 0) 29))] fun TA => ?_
   refine W.seq ?_
   refine W.seq (W.region ?_)
   iterate 2 refine RW.v ?_
   refine RW.nil ?_
   refine W.rg [(0, v1), (4, vb), (5, .slice (some ⟨b1, 0, none⟩) 1 1), (6, .int .i64 ((i : Nat) : Int)), (7, .int .i64 (pickOf (xs.getD i 0) 29)), (21, .bool (decide ((pickOf (xs.getD i 0) 29) ≥ 26)))] fun TA => ?_
   refine W.cond rfl (fun hc8 => ?_) (fun hc8 => ?_)
   ·have hc8b := hc8
    have hc8 := of_decide_eq_true hc8
    refine W.seq (W.region ?_)
    refine RW.v ?_
    refine RW.mkL H (x := .row ⟨[.int .u8 10], 5, false⟩) (fm := fun b => .slice (some ⟨b, 0, none⟩) 1 1) (by kernel_rfl) (by kernel_rfl) (by kernel_rfl) (by kernel_rfl) ?_
    clear H; intro _ b9 _ H
    refine RW.appL H 1 0 (n := 1) (e2 := 5) (by kernel_rfl) (by kernel_rfl) rfl rfl rfl rfl rfl rfl rfl rfl (by kernel_rfl) (by kernel_rfl) (by kernel_rfl) (by decide) (by decide) rfl rfl (by omega) (by kernel_rfl) ?_
    clear H; intro _ v10 _ H
    dsimp only [setL, delL] at H
    refine RW.v ?_
    refine RW.nil ?_
    refine W.rg [(0, v1), (4, v10), (5, .slice (some ⟨b1, 0, none⟩) 1 1), (6, .int .i64 ((i : Nat) : Int))] fun TA => ?_
    refine W.seq (W.region ?_)
    refine RW.v ?_
    refine RW.mkL H (x := .row ⟨[.string ByteArray.empty], 9, false⟩) (fm := fun b => .slice (some ⟨b, 0, none⟩) 1 1) (by kernel_rfl) (by kernel_rfl) (by kernel_rfl) (by kernel_rfl) ?_
    clear H; intro _ b11 _ H
    refine RW.appB H 2 0 (e := 9) (e2 := 9) (s := 1) (n := 1) (l0 := 1) (by kernel_rfl) (by kernel_rfl) rfl rfl rfl rfl rfl rfl rfl rfl (by kernel_rfl) (by kernel_rfl) (by kernel_rfl) (by decide) (by decide) (by decide) rfl rfl (by decide) (by kernel_rfl) ?_
    clear H; intro _ v12 H
    refine RW.v ?_
    refine RW.nil ?_
    replace H := ((H.del 3).del 1)
    dsimp only [setL, delL] at H
    refine W.rg [(0, v1), (4, v10), (5, v12), (6, .int .i64 ((i : Nat) : Int))] fun TA => ?_
    refine W.exit _ ?_
    refine seqQ_exit ?_
    refine blkQ_here ?_
    refine W.region ?_
    refine RW.v ?_
    refine RW.valE (v' := .int .i64 (((i : Nat) : Int) + 1)) (by kernel_rfl) (by kernel_rfl) rfl (congrArg (Value.int .i64) (wrap_in (by omega) (by omega))) (by kernel_rfl) ?_
    refine RW.v ?_
    refine RW.nil ?_
    replace H := H.front 1 rfl
    dsimp only [delL] at H
    rw [show cur.map byteV ++ [.int .u8 10] = (bsOf [cur] []).map byteV from feed0 cur, show cur.length + 1 = (bsOf [cur] []).length from feed0_len cur] at H
    replace H : Lies G A F _ (.sl 5 1 v10 ((bsOf [cur] []).length) ((bsOf [cur] []).map byteV) :: .sl 9 1 v12 ([cur].length + 1) (strV [cur] ++ [.string ⟨([] : List UInt8).toArray⟩]) :: L) := H
    exact ⟨rfl, mm - 1, by omega, .inr ⟨i + 1, [cur], [], v10, v12, (by omega), (by have := feed0_len cur; omega), (by rw [List.length_singleton]; omega), lett_nil, (fun y hy => by rw [List.mem_singleton.1 hy]; exact hlt), H, rfl, rfl, rfl, rfl⟩⟩
   ·have hc8b := hc8
    have hc8 := of_decide_eq_false hc8
    refine W.skip ?_
    refine W.seq (W.region ?_)
    iterate 2 refine RW.v ?_
    refine RW.valE (v' := .int .i64 (97 + (pickOf (xs.getD i 0) 29))) (by kernel_rfl) (by kernel_rfl) rfl (congrArg (Value.int .i64) (wrap_in (by omega) (by omega))) (by kernel_rfl) ?_
    refine RW.valE (v' := .int .u8 (97 + (pickOf (xs.getD i 0) 29))) (by kernel_rfl) (by kernel_rfl) rfl (congrArg (Value.int .u8) (wrap_u8 (by omega) (by omega))) (by kernel_rfl) ?_
    refine RW.mkL H (x := .row ⟨[.int .u8 (97 + (pickOf (xs.getD i 0) 29))], 5, false⟩) (fm := fun b => .slice (some ⟨b, 0, none⟩) 1 1) (by kernel_rfl) (by kernel_rfl) (by kernel_rfl) (by kernel_rfl) ?_
    clear H; intro _ b13 _ H
    refine RW.appL H 1 0 (n := 1) (e2 := 5) (by kernel_rfl) (by kernel_rfl) rfl rfl rfl rfl rfl rfl rfl rfl (by kernel_rfl) (by kernel_rfl) (by kernel_rfl) (by decide) (by decide) rfl rfl (by omega) (by kernel_rfl) ?_
    clear H; intro _ v14 _ H
    dsimp only [setL, delL] at H
    refine RW.v ?_
    refine RW.nil ?_
    refine W.rg [(0, v1), (4, v14), (5, .slice (some ⟨b1, 0, none⟩) 1 1), (6, .int .i64 ((i : Nat) : Int)), (7, .int .i64 (pickOf (xs.getD i 0) 29))] fun TA => ?_
    refine W.drawn (by kernel_rfl) (by kernel_rfl) H.gn ?_
    have H15 := H
    iterate 8 refine RW.v ?_
    refine RW.idx (s := 1) (by kernel_rfl) (by kernel_rfl) rfl Tryd.underlying57 (by kernel_rfl) rfl rfl ⟨by decide, by decide⟩ (by kernel_rfl) ?_
    refine RW.ld H15 1 1 ?_
    refine RW.v ?_
    refine RW.valE (v' := .int .i64 (97 + (pickOf (xs.getD i 0) 29))) (by kernel_rfl) (by kernel_rfl) rfl (congrArg (Value.int .i64) (wrap_in (by omega) (by omega))) (by kernel_rfl) ?_
    refine RW.valE (v' := .int .u8 (97 + (pickOf (xs.getD i 0) 29))) (by kernel_rfl) (by kernel_rfl) rfl (congrArg (Value.int .u8) (wrap_u8 (by omega) (by omega))) (by kernel_rfl) ?_
    refine RW.mkD H15 (x := .row ⟨[.int .u8 (97 + (pickOf (xs.getD i 0) 29))], 5, false⟩) (fm := fun b => .slice (some ⟨b, 0, none⟩) 1 1) (by kernel_rfl) (by kernel_rfl) (by kernel_rfl) (by kernel_rfl) ?_
    intro _ b16 H17
    refine RW.backL H17 0 (bs := [(bt (pickOf (xs.getD i 0) 29))]) (e := 5) rfl (by simp) (by kernel_rfl) (by kernel_rfl) rfl rfl (by rw [show [(bt (pickOf (xs.getD i 0) 29))].map byteV = [.int .u8 (97 + (pickOf (xs.getD i 0) 29))] by rw [List.map_singleton, bt_v hpr.1 (by omega)]]; rfl) (by kernel_rfl) (by kernel_rfl) (by kernel_rfl) (by kernel_rfl) ?_
    refine RW.vop (v := .string ⟨(cur ++ [(bt (pickOf (xs.getD i 0) 29))]).toArray⟩) (by kernel_rfl) (by kernel_rfl) (vop_sAddL (a := cur) (b := [(bt (pickOf (xs.getD i 0) 29))]) rfl rfl rfl (by rw [List.length_singleton]; omega)) (by kernel_rfl) ?_
    refine RW.idx (s := 1) (by kernel_rfl) (by kernel_rfl) rfl Tryd.underlying57 (by kernel_rfl) rfl rfl ⟨by decide, by decide⟩ (by kernel_rfl) ?_
    refine RW.stD H17 2 (vs := [.string ⟨(cur ++ [(bt (pickOf (xs.getD i 0) 29))]).toArray⟩]) (cs' := [.string ⟨(cur ++ [(bt (pickOf (xs.getD i 0) 29))]).toArray⟩]) (by kernel_rfl) (by kernel_rfl) rfl rfl rfl rfl rfl (by kernel_rfl) (Nat.le_of_ble_eq_true rfl) rfl (by kernel_rfl) ?_
    intro _ H18
    dsimp only [setL, delL] at H18
    refine RW.nil ?_
    refine ⟨⟨by kernel_rfl, ⟨trivial, trivial, trivial, trivial, trivial, trivial, trivial, trivial, trivial, Or.inl (by kernel_rfl), trivial, trivial, trivial, Or.inl (by kernel_rfl), dyn_row (H17.get 0 rfl) (H18.get 0 rfl) ⟨fun h => Bool.noConfusion h, fun h => Bool.noConfusion h, fun h => Bool.noConfusion h, fun h => Bool.noConfusion h, fun h => Bool.noConfusion h, fun h => Bool.noConfusion h, fun h => Bool.noConfusion h, fun h => Bool.noConfusion h, fun h => Bool.noConfusion h, fun h => Bool.noConfusion h, fun h => Bool.noConfusion h, fun h => Bool.noConfusion h, fun h => Bool.noConfusion h, fun h => Bool.noConfusion h, fun h => Bool.noConfusion h, fun h => Bool.noConfusion h, fun h => Bool.noConfusion h, fun _ => H17.get 0 rfl, trivial⟩, trivial, trivial, trivial, trivial⟩⟩, ?_⟩
    replace H := H18
    clear H15 H17 H18
    replace H := (H.del 0)
    dsimp only [setL, delL] at H
    refine blkQ_normal ?_
    refine W.rg [(0, v1), (4, v14), (5, .slice (some ⟨b1, 0, none⟩) 1 1), (6, .int .i64 ((i : Nat) : Int))] fun TA => ?_
    refine W.region ?_
    refine RW.v ?_
    refine RW.valE (v' := .int .i64 (((i : Nat) : Int) + 1)) (by kernel_rfl) (by kernel_rfl) rfl (congrArg (Value.int .i64) (wrap_in (by omega) (by omega))) (by kernel_rfl) ?_
    refine RW.v ?_
    refine RW.nil ?_
    rw [show cur.map byteV ++ [.int .u8 (97 + (pickOf (xs.getD i 0) 29))] = (cur ++ [(bt (pickOf (xs.getD i 0) 29))]).map byteV from one0 cur hpr.1 (by omega), show cur.length + 1 = (cur ++ [(bt (pickOf (xs.getD i 0) 29))]).length from (one0_len cur _).symm] at H
    exact ⟨rfl, mm - 1, by omega, .inl ⟨i + 1, (cur ++ [(bt (pickOf (xs.getD i 0) 29))]), v14, (by omega), (by rw [one0_len]; omega), (lett_one hlt hpr.1 (by omega)), H, rfl, rfl, rfl, rfl⟩⟩
  ·have hc2b := hc2
   have hc2 := of_decide_eq_false hc2
   refine W.exit _ ?_
   refine seqQ_exit ?_
   refine rndQ_exit ?_
   refine blkQ_here ?_
   refine W.seq (W.region ?_)
   refine RW.v ?_
   refine RW.strG H 0 (bs := cur) (e := 5) (e0 := 5) rfl (by kernel_rfl) (by kernel_rfl) rfl rfl (by kernel_rfl) (by kernel_rfl) (by kernel_rfl) Tryd.underlying88 Tryd.underlying5 Tryd.underlying9 (by kernel_rfl) ?_
   intro _
   iterate 3 refine RW.v ?_
   refine RW.nil ?_
   replace H := (H.del 0)
   dsimp only [setL, delL] at H
   refine W.ret ?_
   refine endG (by rfl) (by exact resL_tmp (by exact resL_tmp rfl)) ?_
   obtain ⟨F', le, hK, H⟩ := H.freezeR 0 (n := 1) (s := 1) rfl rfl
   dsimp only [delL] at H
   exact ⟨F', [], cur, _, le, rfl, hlt, (fun y hy => by simp at hy), (by show cur.length ≤ _; omega), hK.slf, H⟩
 ·refine W.rst [(0, v1), (4, vb), (5, vl), (6, .int .i64 ((i : Nat) : Int))] ⟨e0, e4, e5, e6, trivial⟩ fun TA => ?_
  clear e0 e4 e5 e6
  have hcl := bsOf_cur ls cur
  refine W.seq ?_
  refine W.seq (W.region ?_)
  iterate 2 refine RW.v ?_
  refine RW.len (by kernel_rfl) (by kernel_rfl) rfl rfl rfl rfl (h1.len (e := 3) (by kernel_rfl)) (by kernel_rfl) ?_
  refine RW.v ?_
  refine RW.nil ?_
  refine W.rg [(0, v1), (4, vb), (5, vl), (6, .int .i64 ((i : Nat) : Int)), (12, .bool (decide (((i : Nat) : Int) < (xs.length : Int))))] fun TA => ?_
  refine W.cond rfl (fun hc19 => ?_) (fun hc19 => ?_)
  ·have hc19b := hc19
   have hc19 := of_decide_eq_true hc19
   have hil : i < xs.length := by omega
   refine W.skip ?_
   refine W.seq ?_
   refine W.block ?_
   refine W.seq (W.region ?_)
   iterate 2 refine RW.v ?_
   refine RW.idxF h1 (by kernel_rfl) (by kernel_rfl) rfl Tryd.underlying37 (by kernel_rfl) rfl rfl ⟨by omega, by omega⟩ (by kernel_rfl) ?_
   intro b20 q21 r22 hF23 hE24
   rw [ints_at (l := xs) (j := i) (by omega)] at hE24
   refine RW.loads 1 (by kernel_rfl) (by kernel_rfl) rfl rfl (H.old _ _ hF23) hE24 rfl (by kernel_rfl) ?_
   have hxb := hb _ (getI_mem (l := xs) (show i < xs.length by omega))
   have hpr := pick_range (xs.getD i 0) 29 (by decide)
   refine RW.cl ?_
   refine ⟨_, _, (s_pickL (xs.getD i 0) 29 hxb.1 hxb.2 (by decide) (by decide)), ?_⟩
   refine RW.v ?_
   refine RW.nil ?_
   refine W.rg [(0, v1), (4, vb), (5, vl), (6, .int .i64 ((i : Nat) : Int)), (7, .int .i64 (pickOf (xs.getD i 0) 29))] fun TA => ?_
   refine W.seq ?_
   refine W.seq (W.region ?_)
   iterate 2 refine RW.v ?_
   refine RW.nil ?_
   refine W.rg [(0, v1), (4, vb), (5, vl), (6, .int .i64 ((i : Nat) : Int)), (7, .int .i64 (pickOf (xs.getD i 0) 29)), (21, .bool (decide ((pickOf (xs.getD i 0) 29) ≥ 26)))] fun TA => ?_
   refine W.cond rfl (fun hc25 => ?_) (fun hc25 => ?_)
   ·have hc25b := hc25
    have hc25 := of_decide_eq_true hc25
    refine W.seq (W.region ?_)
    refine RW.v ?_
    refine RW.mkL H (x := .row ⟨[.int .u8 10], 5, false⟩) (fm := fun b => .slice (some ⟨b, 0, none⟩) 1 1) (by kernel_rfl) (by kernel_rfl) (by kernel_rfl) (by kernel_rfl) ?_
    clear H; intro _ b26 _ H
    refine RW.appL H 1 0 (n := 1) (e2 := 5) (by kernel_rfl) (by kernel_rfl) rfl rfl rfl rfl rfl rfl rfl rfl (by kernel_rfl) (by kernel_rfl) (by kernel_rfl) (by decide) (by decide) rfl rfl (by omega) (by kernel_rfl) ?_
    clear H; intro _ v27 _ H
    dsimp only [setL, delL] at H
    refine RW.v ?_
    refine RW.nil ?_
    refine W.rg [(0, v1), (4, v27), (5, vl), (6, .int .i64 ((i : Nat) : Int))] fun TA => ?_
    refine W.seq (W.region ?_)
    refine RW.v ?_
    refine RW.mkL H (x := .row ⟨[.string ByteArray.empty], 9, false⟩) (fm := fun b => .slice (some ⟨b, 0, none⟩) 1 1) (by kernel_rfl) (by kernel_rfl) (by kernel_rfl) (by kernel_rfl) ?_
    clear H; intro _ b28 _ H
    refine RW.appL H 2 0 (n := 1) (e2 := 9) (by kernel_rfl) (by kernel_rfl) rfl rfl rfl rfl rfl rfl rfl rfl (by kernel_rfl) (by kernel_rfl) (by kernel_rfl) (by decide) (by decide) rfl rfl (by omega) (by kernel_rfl) ?_
    clear H; intro _ v29 _ H
    dsimp only [setL, delL] at H
    refine RW.v ?_
    refine RW.nil ?_
    refine W.rg [(0, v1), (4, v27), (5, v29), (6, .int .i64 ((i : Nat) : Int))] fun TA => ?_
    refine W.exit _ ?_
    refine seqQ_exit ?_
    refine blkQ_here ?_
    refine W.region ?_
    refine RW.v ?_
    refine RW.valE (v' := .int .i64 (((i : Nat) : Int) + 1)) (by kernel_rfl) (by kernel_rfl) rfl (congrArg (Value.int .i64) (wrap_in (by omega) (by omega))) (by kernel_rfl) ?_
    refine RW.v ?_
    refine RW.nil ?_
    rw [show (bsOf ls cur).map byteV ++ [.int .u8 10] = (bsOf (ls ++ [cur]) []).map byteV from feed1 ls cur, show (bsOf ls cur).length + 1 = (bsOf (ls ++ [cur]) []).length from feed1_len ls cur] at H
    rw [show strV ls ++ [.string ⟨cur.toArray⟩] ++ [.string ByteArray.empty] = strV (ls ++ [cur]) ++ [.string ⟨([] : List UInt8).toArray⟩] from strV_feed ls cur, show (ls.length + 1) + 1 = (ls ++ [cur]).length + 1 by rw [List.length_append]; rfl] at H
    exact ⟨rfl, mm - 1, by omega, .inr ⟨i + 1, (ls ++ [cur]), [], v27, v29, (by omega), (by have := feed1_len ls cur; omega), (by rw [List.length_append, List.length_singleton]; omega), lett_nil, (fun y hy => (List.mem_append.1 hy).elim (hla y) fun hy => by rw [List.mem_singleton.1 hy]; exact hlt), H, rfl, rfl, rfl, rfl⟩⟩
   ·have hc25b := hc25
    have hc25 := of_decide_eq_false hc25
    refine W.skip ?_
    refine W.seq (W.region ?_)
    iterate 2 refine RW.v ?_
    refine RW.valE (v' := .int .i64 (97 + (pickOf (xs.getD i 0) 29))) (by kernel_rfl) (by kernel_rfl) rfl (congrArg (Value.int .i64) (wrap_in (by omega) (by omega))) (by kernel_rfl) ?_
    refine RW.valE (v' := .int .u8 (97 + (pickOf (xs.getD i 0) 29))) (by kernel_rfl) (by kernel_rfl) rfl (congrArg (Value.int .u8) (wrap_u8 (by omega) (by omega))) (by kernel_rfl) ?_
    refine RW.mkL H (x := .row ⟨[.int .u8 (97 + (pickOf (xs.getD i 0) 29))], 5, false⟩) (fm := fun b => .slice (some ⟨b, 0, none⟩) 1 1) (by kernel_rfl) (by kernel_rfl) (by kernel_rfl) (by kernel_rfl) ?_
    clear H; intro _ b30 _ H
    refine RW.appL H 1 0 (n := 1) (e2 := 5) (by kernel_rfl) (by kernel_rfl) rfl rfl rfl rfl rfl rfl rfl rfl (by kernel_rfl) (by kernel_rfl) (by kernel_rfl) (by decide) (by decide) rfl rfl (by omega) (by kernel_rfl) ?_
    clear H; intro _ v31 _ H
    dsimp only [setL, delL] at H
    refine RW.v ?_
    refine RW.nil ?_
    refine W.rg [(0, v1), (4, v31), (5, vl), (6, .int .i64 ((i : Nat) : Int)), (7, .int .i64 (pickOf (xs.getD i 0) 29))] fun TA => ?_
    refine W.drawn (by kernel_rfl) (by kernel_rfl) H.gn ?_
    have H32 := H
    iterate 2 refine RW.v ?_
    refine RW.len (by kernel_rfl) (by kernel_rfl) rfl rfl rfl rfl ((H32.sl 1 rfl).len (by kernel_rfl)) (by kernel_rfl) ?_
    refine RW.valE (v' := .int .i64 ((((ls.length + 1) : Nat) : Int) - 1)) (by kernel_rfl) (by kernel_rfl) rfl (congrArg (Value.int .i64) (wrap_in (by omega) (by omega))) (by kernel_rfl) ?_
    iterate 2 refine RW.v ?_
    refine RW.len (by kernel_rfl) (by kernel_rfl) rfl rfl rfl rfl ((H32.sl 1 rfl).len (by kernel_rfl)) (by kernel_rfl) ?_
    refine RW.valE (v' := .int .i64 ((((ls.length + 1) : Nat) : Int) - 1)) (by kernel_rfl) (by kernel_rfl) rfl (congrArg (Value.int .i64) (wrap_in (by omega) (by omega))) (by kernel_rfl) ?_
    refine RW.idxG H32 1 rfl (by kernel_rfl) (by kernel_rfl) rfl Tryd.underlying57 (by kernel_rfl) rfl rfl ⟨by omega, by omega⟩ (by kernel_rfl) ?_
    intro b33 q34 r35 hF36 hE37
    rw [lines_at (ls := ls) (cur := cur) (i := (((ls.length + 1) : Nat) : Int) - 1) (by omega)] at hE37
    refine RW.loads 1 (by kernel_rfl) (by kernel_rfl) rfl rfl (hF36) hE37 rfl (by kernel_rfl) ?_
    refine RW.v ?_
    refine RW.valE (v' := .int .i64 (97 + (pickOf (xs.getD i 0) 29))) (by kernel_rfl) (by kernel_rfl) rfl (congrArg (Value.int .i64) (wrap_in (by omega) (by omega))) (by kernel_rfl) ?_
    refine RW.valE (v' := .int .u8 (97 + (pickOf (xs.getD i 0) 29))) (by kernel_rfl) (by kernel_rfl) rfl (congrArg (Value.int .u8) (wrap_u8 (by omega) (by omega))) (by kernel_rfl) ?_
    refine RW.mkD H32 (x := .row ⟨[.int .u8 (97 + (pickOf (xs.getD i 0) 29))], 5, false⟩) (fm := fun b => .slice (some ⟨b, 0, none⟩) 1 1) (by kernel_rfl) (by kernel_rfl) (by kernel_rfl) (by kernel_rfl) ?_
    intro _ b38 H39
    refine RW.backL H39 0 (bs := [(bt (pickOf (xs.getD i 0) 29))]) (e := 5) rfl (by simp) (by kernel_rfl) (by kernel_rfl) rfl rfl (by rw [show [(bt (pickOf (xs.getD i 0) 29))].map byteV = [.int .u8 (97 + (pickOf (xs.getD i 0) 29))] by rw [List.map_singleton, bt_v hpr.1 (by omega)]]; rfl) (by kernel_rfl) (by kernel_rfl) (by kernel_rfl) (by kernel_rfl) ?_
    refine RW.vop (v := .string ⟨(cur ++ [(bt (pickOf (xs.getD i 0) 29))]).toArray⟩) (by kernel_rfl) (by kernel_rfl) (vop_sAddL (a := cur) (b := [(bt (pickOf (xs.getD i 0) 29))]) rfl rfl rfl (by rw [List.length_singleton]; omega)) (by kernel_rfl) ?_
    refine RW.idxGS H39 2 rfl (by kernel_rfl) (by kernel_rfl) rfl Tryd.underlying57 (by kernel_rfl) rfl rfl ⟨by omega, by omega⟩ (by kernel_rfl) ?_
    intro b40 q41 hb42 hq43
    refine RW.stG H39 2 rfl hb42 (vs := [.string ⟨(cur ++ [(bt (pickOf (xs.getD i 0) 29))]).toArray⟩]) (by subst hq43; simp only [List.length_cons, List.length_nil]; omega) (by kernel_rfl) (by kernel_rfl) rfl rfl rfl rfl (by kernel_rfl) (by kernel_rfl) ?_
    intro _ H44
    dsimp only [setL, delL] at H44
    refine RW.nil ?_
    refine ⟨⟨by kernel_rfl, ⟨trivial, trivial, trivial, trivial, trivial, trivial, trivial, trivial, trivial, Or.inl (by kernel_rfl), trivial, trivial, trivial, Or.inl (by kernel_rfl), dyn_row (H39.get 0 rfl) (H44.get 0 rfl) ⟨fun h => Bool.noConfusion h, fun h => Bool.noConfusion h, fun h => Bool.noConfusion h, fun h => Bool.noConfusion h, fun h => Bool.noConfusion h, fun h => Bool.noConfusion h, fun h => Bool.noConfusion h, fun h => Bool.noConfusion h, fun h => Bool.noConfusion h, fun h => Bool.noConfusion h, fun h => Bool.noConfusion h, fun h => Bool.noConfusion h, fun h => Bool.noConfusion h, fun h => Bool.noConfusion h, fun h => Bool.noConfusion h, fun h => Bool.noConfusion h, fun h => Bool.noConfusion h, fun _ => H39.get 0 rfl, trivial⟩, trivial, trivial, trivial, trivial⟩⟩, ?_⟩
    replace H := H44
    clear H32 H39 H44
    replace H := (H.del 0)
    dsimp only [setL, delL] at H
    refine blkQ_normal ?_
    refine W.rg [(0, v1), (4, v31), (5, vl), (6, .int .i64 ((i : Nat) : Int))] fun TA => ?_
    refine W.region ?_
    refine RW.v ?_
    refine RW.valE (v' := .int .i64 (((i : Nat) : Int) + 1)) (by kernel_rfl) (by kernel_rfl) rfl (congrArg (Value.int .i64) (wrap_in (by omega) (by omega))) (by kernel_rfl) ?_
    refine RW.v ?_
    refine RW.nil ?_
    rw [show (bsOf ls cur).map byteV ++ [.int .u8 (97 + (pickOf (xs.getD i 0) 29))] = (bsOf ls (cur ++ [(bt (pickOf (xs.getD i 0) 29))])).map byteV from one1 ls cur hpr.1 (by omega), show (bsOf ls cur).length + 1 = (bsOf ls (cur ++ [(bt (pickOf (xs.getD i 0) 29))])).length from (one1_len ls cur _).symm, show overL (strV ls ++ [.string ⟨cur.toArray⟩]) q41 [.string ⟨(cur ++ [(bt (pickOf (xs.getD i 0) 29))]).toArray⟩] = strV ls ++ [.string ⟨(cur ++ [(bt (pickOf (xs.getD i 0) 29))]).toArray⟩] by rw [hq43]; exact lines_set (by omega)] at H
    exact ⟨rfl, mm - 1, by omega, .inr ⟨i + 1, ls, (cur ++ [(bt (pickOf (xs.getD i 0) 29))]), v31, vl, (by omega), (by rw [one1_len]; omega), (by omega), (lett_one hlt hpr.1 (by omega)), hla, H, rfl, rfl, rfl, rfl⟩⟩
  ·have hc19b := hc19
   have hc19 := of_decide_eq_false hc19
   refine W.exit _ ?_
   refine seqQ_exit ?_
   refine rndQ_exit ?_
   refine blkQ_here ?_
   refine W.seq (W.region ?_)
   refine RW.v ?_
   refine RW.strG H 0 (bs := (bsOf ls cur)) (e := 5) (e0 := 5) rfl (by kernel_rfl) (by kernel_rfl) rfl rfl (by kernel_rfl) (by kernel_rfl) (by kernel_rfl) Tryd.underlying88 Tryd.underlying5 Tryd.underlying9 (by kernel_rfl) ?_
   intro _
   iterate 3 refine RW.v ?_
   refine RW.nil ?_
   replace H := (H.del 0)
   dsimp only [setL, delL] at H
   refine W.ret ?_
   refine endG (by rfl) (by exact resL_tmp (by exact resL_tmp rfl)) ?_
   obtain ⟨F', le, hK, H⟩ := H.freezeSl 0 rfl
   dsimp only [delL] at H
   exact ⟨F', ls, cur, _, le, rfl, hlt, hla, (by omega), hK, H⟩
end
end Go.Proofs.YtmmapljeeccdnaaDoor
namespace Go.Proofs.YtmmapljeeccdnaaDoor
open Go.Lib
set_option maxRecDepth 100000
def cl (b : UInt8) : Cel := ⟨((b.toNat : Nat) : Int), 0, 0, false, false, false⟩
def fillC (wd : Nat) (xs : List UInt8) : List Cel := xs.map cl ++ List.replicate (wd - xs.length) blk
def rc (R : List RowV) : List (List Cel × Bool) := R.map fun r => (r.C, r.co)
def expW (wd : Nat) : Nat → List UInt8 → List (List Cel × Bool)
 | 0, _ => []
 | n + 1, cs => if cs.length ≤ wd - 1 then [(fillC wd cs, false)] else (markC (fillC wd (cs.take (wd - 1))) 92, true) :: expW wd n (cs.drop (wd - 1))
def lineW (wd : Nat) (cs : List UInt8) : List (List Cel × Bool) := expW wd (cs.length + 1) cs
def cutC (wd : Nat) (cs : List UInt8) : List Cel := if cs.length ≤ wd - 1 then fillC wd cs else markC (fillC wd (cs.take (wd - 1))) 36
def letU (pos : Int) (b : UInt8) : Un := if b = 10 then ⟨[], pos, true⟩ else ⟨[cl b], pos, false⟩
def unitsB : Int → List UInt8 → List Un
 | _, [] => []
 | pos, b :: l => letU pos b :: unitsB (pos + 1) l
theorem unitsB_app : ∀ (a b : List UInt8) (pos : Int), unitsB pos (a ++ b) = unitsB pos a ++ unitsB (pos + (a.length : Int)) b
 | [], b, pos => by
  show unitsB pos b = unitsB (pos + ((0 : Nat) : Int)) b
  rw [Int.natCast_zero, Int.add_zero]
 | x :: a, b, pos => by
  show _ :: unitsB (pos + 1) (a ++ b) = _ :: (unitsB (pos + 1) a ++ _)
  rw [unitsB_app a b (pos + 1), List.length_cons, show pos + 1 + (a.length : Int) = pos + ((a.length + 1 : Nat) : Int) by omega]
theorem expW_fuel {wd : Nat} (h : 2 ≤ wd) : ∀ {n m : Nat} {cs : List UInt8}, cs.length < n → cs.length < m → expW wd n cs = expW wd m cs
 | 0, _, _, h1, _ => absurd h1 (Nat.not_lt_zero _)
 | _ + 1, 0, _, _, h2 => absurd h2 (Nat.not_lt_zero _)
 | n + 1, m + 1, cs, h1, h2 => by
  unfold expW
  split
  ·rfl
  ·rw [expW_fuel h (n := n) (m := m) (by rw [List.length_drop]; omega) (by rw [List.length_drop]; omega)]
theorem lineW_short {wd : Nat} {cs : List UInt8} (h : cs.length ≤ wd - 1) : lineW wd cs = [(fillC wd cs, false)] := by
 unfold lineW expW
 rw [if_pos h]
theorem lineW_long {wd : Nat} {cs : List UInt8} (h2 : 2 ≤ wd) (h : ¬ cs.length ≤ wd - 1) : lineW wd cs = (markC (fillC wd (cs.take (wd - 1))) 92, true) :: lineW wd (cs.drop (wd - 1)) := by
 unfold lineW
 conv => lhs; unfold expW
 rw [if_neg h, expW_fuel h2 (n := cs.length) (m := (cs.drop (wd - 1)).length + 1) (by rw [List.length_drop]; omega) (by omega)]
theorem lineW_len {wd : Nat} (h2 : 2 ≤ wd) : ∀ (n : Nat) {cs : List UInt8}, cs.length ≤ n → (lineW wd cs).length ≤ cs.length + 1
 | n, cs, hn => by
  by_cases h : cs.length ≤ wd - 1
  ·rw [lineW_short h]
   simp
  ·rw [lineW_long h2 h]
   match n with
   | 0 => omega
   | n + 1 =>
    have := lineW_len h2 n (cs := cs.drop (wd - 1)) (by rw [List.length_drop]; omega)
    rw [List.length_drop] at this
    rw [List.length_cons]
    omega
theorem fillC_len {wd : Nat} {xs : List UInt8} (h : xs.length ≤ wd) : (fillC wd xs).length = wd := by
 unfold fillC
 rw [List.length_append, List.length_map, List.length_replicate]
 omega
theorem over_cell {wd : Nat} {xs : List UInt8} {y : UInt8} (h : xs.length + 1 ≤ wd) : overC (fillC wd xs) xs.length [cl y] = fillC wd (xs ++ [y]) := by
 unfold overC fillC
 rw [List.take_left' (List.length_map ..), show xs.length = (xs.map cl).length from (List.length_map ..).symm, List.drop_length_add_append, List.drop_replicate, List.map_append, List.length_append, List.length_map]
 simp only [List.length_singleton, List.map_cons, List.map_nil]
 rw [show wd - xs.length - 1 = wd - (xs.length + 1) by omega]
theorem rc_app (a b : List RowV) : rc (a ++ b) = rc a ++ rc b := List.map_append ..
theorem rc_tos : ∀ (R : List RowV) (x : Int), rc (tosX R x) = rc R
 | [], _ => rfl
 | [_], _ => rfl
 | r :: q :: l, x => by
  show _ :: rc (tosX (q :: l) x) = _ :: rc (q :: l)
  rw [rc_tos (q :: l) x]
  rfl
theorem runI_app {wd : Nat} {wrap : Bool} : ∀ (a b : List Un) (s : LI), runI wd wrap (a ++ b) s = runI wd wrap b (runI wd wrap a s)
 | [], _, _ => rfl
 | _ :: a, b, _ => runI_app a b _
section
variable {wd : Nat} (hw : 4 ≤ wd)
include hw
theorem put_yes {f : Fil} {xs : List UInt8} {y : UInt8} {pos : Int} (hC : f.C = fillC wd xs) (hn : f.n = xs.length) (h : xs.length < wd - 1) : (putF wd f [cl y] pos).2 = true ∧ (putF wd f [cl y] pos).1.C = fillC wd (xs ++ [y]) ∧ (putF wd f [cl y] pos).1.n = (xs ++ [y]).length ∧ (putF wd f [cl y] pos).1.co = f.co := by
 unfold putF
 rw [if_neg (by rw [hn]; simp; omega)]
 refine ⟨rfl, ?_, ?_, rfl⟩
 ·show overC f.C f.n [cl y] = _
  rw [hC, hn, over_cell (by omega)]
 ·show f.n + [cl y].length = _
  rw [hn, List.length_append]
  rfl
omit hw in
theorem put_no {f : Fil} {xs : List UInt8} {y : UInt8} {pos : Int} (hn : f.n = xs.length) (h : ¬ xs.length < wd - 1) : (putF wd f [cl y] pos).2 = false := by
 unfold putF
 rw [if_pos (by rw [hn]; simp; omega)]
omit hw in
theorem let_unit {b : UInt8} {pos : Int} (h : 97 ≤ b.toNat) : letU pos b = ⟨[cl b], pos, false⟩ := by
 unfold letU
 rw [if_neg (fun e => by rw [e] at h; revert h; decide)]
theorem run_wrap : ∀ {ys xs : List UInt8} {R : List RowV} {f : Fil} {pos : Int}, Lett ys → f.C = fillC wd xs → f.n = xs.length → xs.length ≤ wd - 1 → f.co = false →
  ∃ R' f' zs, runI wd true (unitsB pos ys) ⟨R, f, false⟩ = ⟨R', f', false⟩ ∧ f'.C = fillC wd zs ∧ f'.co = false ∧ rc R' ++ [(fillC wd zs, false)] = rc R ++ lineW wd (xs ++ ys)
 | [], xs, R, f, pos, _, hC, hn, hx, hc => ⟨R, f, xs, rfl, hC, hc, by rw [List.append_nil, lineW_short hx]⟩
 | y :: ys, xs, R, f, pos, hl, hC, hn, hx, hc => by
  have hy := (hl y (by simp)).1
  have hl2 : Lett ys := fun b hb => hl b (by simp [hb])
  show ∃ R' f' zs, runI wd true (unitsB (pos + 1) ys) (uI wd true ⟨R, f, false⟩ (letU pos y)) = ⟨R', f', false⟩ ∧ _
  rw [let_unit hy]
  unfold uI
  rw [if_neg Bool.false_ne_true, if_neg Bool.false_ne_true]
  by_cases h : xs.length < wd - 1
  ·obtain ⟨p1, p2, p3, p4⟩ := put_yes hw (y := y) (pos := pos) hC hn h
   rw [if_pos p1]
   obtain ⟨R', f', zs, e1, e2, e3, e4⟩ := run_wrap (ys := ys) (xs := xs ++ [y]) (R := R) (pos := pos + 1) hl2 p2 p3 (by rw [List.length_append, List.length_singleton]; omega) (p4.trans hc)
   refine ⟨R', f', zs, e1, e2, e3, ?_⟩
   rw [e4, List.append_assoc]
   rfl
  ·have p1 := put_no (y := y) (pos := pos) hn h
   rw [if_neg (fun k => Bool.false_ne_true (p1.symm.trans k)), if_pos rfl]
   obtain ⟨q1, q2, q3, q4⟩ := put_yes hw (f := fil0 wd) (xs := []) (y := y) (pos := pos) (show _ = _ from rfl) rfl (by simp; omega)
   obtain ⟨R', f', zs, e1, e2, e3, e4⟩ := run_wrap (ys := ys) (xs := [y]) (R := R ++ [rowOf (wrapF f)]) (pos := pos + 1) hl2 q2 q3 (by simp; omega) q4
   refine ⟨R', f', zs, e1, e2, e3, ?_⟩
   have hxl : xs.length = wd - 1 := by omega
   have el := lineW_long (wd := wd) (cs := xs ++ y :: ys) (by omega) (by rw [List.length_append, List.length_cons]; omega)
   rw [← hxl, List.take_left' rfl, List.drop_left' rfl] at el
   rw [el, e4, rc_app, List.append_assoc]
   show rc R ++ ((markC f.C 92, true) :: lineW wd (y :: ys)) = _
   rw [hC]
omit hw in
theorem run_over {wrap : Bool} : ∀ {ys : List UInt8} {R : List RowV} {f : Fil} {pos : Int}, Lett ys → runI wd wrap (unitsB pos ys) ⟨R, f, true⟩ = ⟨R, f, true⟩
 | [], _, _, _, _ => rfl
 | y :: ys, R, f, pos, hl => by
  have hy := (hl y (by simp)).1
  have e : letU pos y = ⟨[cl y], pos, false⟩ := by
   unfold letU
   rw [if_neg (fun e => by rw [e] at hy; revert hy; decide)]
  show runI wd wrap (unitsB (pos + 1) ys) (uI wd wrap ⟨R, f, true⟩ (letU pos y)) = _
  rw [e]
  exact run_over (fun b hb => hl b (by simp [hb]))
theorem run_cut : ∀ {ys xs : List UInt8} {R : List RowV} {f : Fil} {pos : Int}, Lett ys → f.C = fillC wd xs → f.n = xs.length → xs.length ≤ wd - 1 → f.co = false →
  ∃ f' ov, runI wd false (unitsB pos ys) ⟨R, f, false⟩ = ⟨R, f', ov⟩ ∧ f'.C = cutC wd (xs ++ ys) ∧ f'.co = false
 | [], xs, R, f, pos, _, hC, hn, hx, hc => ⟨f, false, rfl, by unfold cutC; rw [List.append_nil, if_pos hx]; exact hC, hc⟩
 | y :: ys, xs, R, f, pos, hl, hC, hn, hx, hc => by
  have hy := (hl y (by simp)).1
  have hl2 : Lett ys := fun b hb => hl b (by simp [hb])
  show ∃ f' ov, runI wd false (unitsB (pos + 1) ys) (uI wd false ⟨R, f, false⟩ (letU pos y)) = ⟨R, f', ov⟩ ∧ _
  rw [let_unit hy]
  unfold uI
  rw [if_neg Bool.false_ne_true, if_neg Bool.false_ne_true]
  by_cases h : xs.length < wd - 1
  ·obtain ⟨p1, p2, p3, p4⟩ := put_yes hw (y := y) (pos := pos) hC hn h
   rw [if_pos p1]
   obtain ⟨f', ov, e1, e2, e3⟩ := run_cut (ys := ys) (xs := xs ++ [y]) (R := R) (pos := pos + 1) hl2 p2 p3 (by rw [List.length_append, List.length_singleton]; omega) (p4.trans hc)
   refine ⟨f', ov, e1, ?_, e3⟩
   rw [e2, List.append_assoc]
   rfl
  ·have p1 := put_no (y := y) (pos := pos) hn h
   rw [if_neg (fun k => Bool.false_ne_true (p1.symm.trans k)), if_neg Bool.false_ne_true]
   have hxl : xs.length = wd - 1 := by omega
   refine ⟨markF f 36, true, run_over hl2, ?_, hc⟩
   show markC f.C 36 = _
   unfold cutC
   rw [if_neg (by rw [List.length_append, List.length_cons]; omega), ← hxl, List.take_left' rfl, hC]
omit hw in
theorem unitsB_lines (y : List UInt8) (ls : List (List UInt8)) (cur : List UInt8) (pos : Int) : unitsB pos (bsOf (y :: ls) cur) = unitsB pos y ++ (⟨[], pos + (y.length : Int), true⟩ :: unitsB (pos + (y.length : Int) + 1) (bsOf ls cur)) := by
 have e : bsOf (y :: ls) cur = y ++ (10 :: bsOf ls cur) := by
  unfold bsOf
  simp
 rw [e, unitsB_app]
 rfl
theorem rows_wrap {to_ : Int} : ∀ {ls : List (List UInt8)} {cur : List UInt8} {R : List RowV} {pos : Int}, (∀ y ∈ ls, Lett y) → Lett cur →
  rc ((runI wd true (unitsB pos (bsOf ls cur)) ⟨R, fil0 wd, false⟩).R ++ [rowOf (endR (runI wd true (unitsB pos (bsOf ls cur)) ⟨R, fil0 wd, false⟩) to_)]) = rc R ++ (ls ++ [cur]).flatMap (lineW wd)
 | [], cur, R, pos, _, hc => by
  obtain ⟨R', f', zs, e1, e2, e3, e4⟩ := run_wrap hw (ys := cur) (xs := []) (R := R) (f := fil0 wd) (pos := pos) hc (show _ = _ from rfl) rfl (Nat.zero_le _) rfl
  have eb : bsOf [] cur = cur := rfl
  rw [eb, e1, rc_app]
  show rc R' ++ [(f'.C, f'.co)] = rc R ++ (lineW wd cur ++ [])
  rw [e2, e3, e4, List.append_nil]
  rfl
 | y :: ls, cur, R, pos, hl, hc => by
  obtain ⟨R', f', zs, e1, e2, e3, e4⟩ := run_wrap hw (ys := y) (xs := []) (R := R) (f := fil0 wd) (pos := pos) (hl y (by simp)) (show _ = _ from rfl) rfl (Nat.zero_le _) rfl
  rw [unitsB_lines, runI_app, e1]
  show rc ((runI wd true (unitsB _ (bsOf ls cur)) ⟨R' ++ [rowOf (endF f' _)], fil0 wd, false⟩).R ++ _) = _
  have ih := rows_wrap (to_ := to_) (ls := ls) (cur := cur) (R := R' ++ [rowOf (endF f' (pos + (y.length : Int)))]) (pos := pos + (y.length : Int) + 1) (fun z hz => hl z (by simp [hz])) hc
  refine ih.trans ?_
  rw [rc_app]
  show rc R' ++ [(f'.C, f'.co)] ++ _ = rc R ++ (lineW wd y ++ (ls ++ [cur]).flatMap (lineW wd))
  rw [e2, e3, e4, List.append_assoc]
  rfl
theorem rows_cut {to_ : Int} : ∀ {ls : List (List UInt8)} {cur : List UInt8} {R : List RowV} {pos : Int}, (∀ y ∈ ls, Lett y) → Lett cur →
  rc ((runI wd false (unitsB pos (bsOf ls cur)) ⟨R, fil0 wd, false⟩).R ++ [rowOf (endR (runI wd false (unitsB pos (bsOf ls cur)) ⟨R, fil0 wd, false⟩) to_)]) = rc R ++ (ls ++ [cur]).map fun y => (cutC wd y, false)
 | [], cur, R, pos, _, hc => by
  obtain ⟨f', ov, e1, e2, e3⟩ := run_cut hw (ys := cur) (xs := []) (R := R) (f := fil0 wd) (pos := pos) hc (show _ = _ from rfl) rfl (Nat.zero_le _) rfl
  have eb : bsOf [] cur = cur := rfl
  rw [eb, e1, rc_app]
  have ee : rc [rowOf (endR ⟨R, f', ov⟩ to_)] = [(f'.C, f'.co)] := by
   unfold endR
   split <;> rfl
  rw [ee, e2, e3]
  rfl
 | y :: ls, cur, R, pos, hl, hc => by
  obtain ⟨f', ov, e1, e2, e3⟩ := run_cut hw (ys := y) (xs := []) (R := R) (f := fil0 wd) (pos := pos) (hl y (by simp)) (show _ = _ from rfl) rfl (Nat.zero_le _) rfl
  rw [unitsB_lines, runI_app, e1]
  show rc ((runI wd false (unitsB _ (bsOf ls cur)) ⟨R ++ [rowOf (endR ⟨R, f', ov⟩ _)], fil0 wd, false⟩).R ++ _) = _
  refine (rows_cut (to_ := to_) (ls := ls) (cur := cur) (pos := pos + (y.length : Int) + 1) (fun z hz => hl z (by simp [hz])) hc).trans ?_
  rw [rc_app]
  have ee : rc [rowOf (endR ⟨R, f', ov⟩ (pos + (y.length : Int)))] = [(f'.C, f'.co)] := by
   unfold endR
   split <;> rfl
  rw [ee, e2, e3, List.append_assoc]
  rfl
end
def ownP (bs : List UInt8) : Prt := ⟨0, 1, 1 + (bs.length : Int), bs, 0, 0, false, false, false⟩
def Asc (bs : List UInt8) : Prop := ∀ b ∈ bs, b.toNat < 128
theorem asc_enc {b : UInt8} (h : b.toNat < 128) : encodeRune ((b.toNat : Nat) : Int) = [b] := by
 unfold encodeRune
 rw [encodeRuneZ_one (by omega) (by omega)]
 show [(((b.toNat : Nat) : Int)).toNat.toUInt8] = [b]
 rw [Int.toNat_natCast]
 congr 1
 exact UInt8.toNat_inj.1 (by rw [Nat.toUInt8_eq, UInt8.toNat_ofNat']; omega)
theorem asc_ch {b : UInt8} (h : b.toNat < 128) : chB ((b.toNat : Nat) : Int) = true := chB_iff.2 ⟨by omega, by omega, .inl (by omega)⟩
theorem asc_runes : ∀ {bs : List UInt8}, Asc bs → runes bs = bs.map fun b => ((b.toNat : Nat) : Int)
 | [], _ => rfl
 | b :: l, h => by
  have hb := h b (by simp)
  have e := runes_enc _ (asc_ch hb) l
  rw [asc_enc hb] at e
  rw [show b :: l = [b] ++ l from rfl, e, asc_runes fun c hc => h c (by simp [hc])]
  rfl
theorem asc_valid : ∀ {bs : List UInt8}, Asc bs → validD bs = true
 | [], _ => rfl
 | b :: l, h => by
  have hb := h b (by simp)
  have e := valid_enc _ (asc_ch hb) l
  rw [asc_enc hb] at e
  rw [show b :: l = [b] ++ l from rfl, e]
  exact asc_valid fun c hc => h c (by simp [hc])
theorem lett_width {b : UInt8} (h1 : 97 ≤ b.toNat) (h2 : b.toNat ≤ 122) : widthOf ((b.toNat : Nat) : Int) = 1 := by
 generalize b.toNat = n at h1 h2
 have : n = 97 ∨ n = 98 ∨ n = 99 ∨ n = 100 ∨ n = 101 ∨ n = 102 ∨ n = 103 ∨ n = 104 ∨ n = 105 ∨ n = 106 ∨ n = 107 ∨ n = 108 ∨ n = 109 ∨ n = 110 ∨ n = 111 ∨ n = 112 ∨ n = 113 ∨ n = 114 ∨ n = 115 ∨ n = 116 ∨ n = 117 ∨ n = 118 ∨ n = 119 ∨ n = 120 ∨ n = 121 ∨ n = 122 := by omega
 rcases this with rfl | rfl | rfl | rfl | rfl | rfl | rfl | rfl | rfl | rfl | rfl | rfl | rfl | rfl | rfl | rfl | rfl | rfl | rfl | rfl | rfl | rfl | rfl | rfl | rfl | rfl <;> rfl
def LetF (bs : List UInt8) : Prop := ∀ b ∈ bs, b = 10 ∨ (97 ≤ b.toNat ∧ b.toNat ≤ 122)
theorem letF_asc {bs : List UInt8} (h : LetF bs) : Asc bs := fun b hb => by
 rcases h b hb with rfl | h
 ·decide
 ·omega
theorem letF_bs {ls : List (List UInt8)} {cur : List UInt8} (hl : ∀ y ∈ ls, Lett y) (hc : Lett cur) : LetF (bsOf ls cur) := fun b hb => by
 unfold bsOf at hb
 rcases List.mem_append.1 hb with hb | hb
 ·obtain ⟨y, hy, hb⟩ := List.mem_flatMap.1 hb
  rcases List.mem_append.1 hb with hb | hb
  ·exact .inr (hl y hy b hb)
  ·exact .inl (List.mem_singleton.1 hb)
 ·exact .inr (hc b hb)
theorem units_let {q : Prt} (hk : q.k = 0) (hb : q.b = 0) (hc : q.c = 0) (hd : q.d = false) (he : q.e = false) (hf : q.f = false) : ∀ {bs : List UInt8} {pos : Int} {col : Nat}, LetF bs → unitsM 8 col (charsP q pos (bs.map fun b => ((b.toNat : Nat) : Int))) = unitsB pos bs
 | [], _, _, _ => rfl
 | b :: l, pos, col, h => by
  have ih := units_let hk hb hc hd he hf (bs := l) (pos := pos + 1) (col := colN 8 col ((b.toNat : Nat) : Int) q) fun c hc => h c (by simp [hc])
  show unitsM 8 col ((((b.toNat : Nat) : Int), pos, q) :: charsP q (if q.k = 0 then pos + 1 else pos) _) = _
  rw [if_pos hk]
  show List.replicate _ _ ++ unitsM 8 (colN 8 col ((b.toNat : Nat) : Int) q) _ = letU pos b :: unitsB (pos + 1) l
  rw [ih]
  rcases h b (by simp) with rfl | ⟨h1, h2⟩
  ·rfl
  ·have e : cellsM ((b.toNat : Nat) : Int) q = [cl b] := by
    unfold cellsM
    rw [if_neg (by omega), lett_width h1 h2, if_neg (by decide), if_neg (by decide), hb, hc, hd, he, hf]
    rfl
   have e1 : unitN 8 col ((b.toNat : Nat) : Int) q = 1 := by
    unfold unitN
    rw [if_neg (by omega), if_neg (by omega), e, if_neg (by simp)]
   have e2 : unitX ((b.toNat : Nat) : Int) q = [cl b] := by
    unfold unitX
    rw [if_neg (by omega), if_neg (by omega), e]
   have e3 : decide (((b.toNat : Nat) : Int) = 10) = false := decide_eq_false (by omega)
   have e4 : letU pos b = ⟨[cl b], pos, false⟩ := by
    unfold letU
    rw [if_neg (fun e => by rw [e] at h1; revert h1; decide)]
   show List.replicate (unitN 8 col ((b.toNat : Nat) : Int) q) (⟨unitX ((b.toNat : Nat) : Int) q, pos, decide (((b.toNat : Nat) : Int) = 10)⟩ : Un) ++ _ = _
   rw [e1, e2, e3, e4]
   rfl
theorem flat_len {wd : Nat} (h2 : 2 ≤ wd) : ∀ {ls : List (List UInt8)} {cur : List UInt8}, ((ls ++ [cur]).flatMap (lineW wd)).length ≤ (bsOf ls cur).length + 1
 | [], cur => by
  show (lineW wd cur ++ []).length ≤ cur.length + 1
  rw [List.append_nil]
  exact lineW_len h2 _ (Nat.le_refl _)
 | y :: ls, cur => by
  have h1 := flat_len h2 (ls := ls) (cur := cur)
  have h3 := lineW_len h2 y.length (cs := y) (Nat.le_refl _)
  have e : (bsOf (y :: ls) cur).length = y.length + 1 + (bsOf ls cur).length := by
   unfold bsOf
   simp
   omega
  show (lineW wd y ++ (ls ++ [cur]).flatMap (lineW wd)).length ≤ _
  rw [List.length_append, e]
  omega
theorem ls_len {ls : List (List UInt8)} {cur : List UInt8} : ls.length ≤ (bsOf ls cur).length := by
 induction ls with
 | nil => exact Nat.zero_le _
 | cons y ls ih =>
  have e : (bsOf (y :: ls) cur).length = y.length + 1 + (bsOf ls cur).length := by
   unfold bsOf
   simp
   omega
  rw [e, List.length_cons]
  omega
theorem whole {wd : Nat} {ls : List (List UInt8)} {cur : List UInt8} (hw : 4 ≤ wd) (hw2 : wd ≤ 1000) (hl : ∀ y ∈ ls, Lett y) (hc : Lett cur) (hlen : (bsOf ls cur).length ≤ 200) :
  errM [ownP (bsOf ls cur)] 1 (((bsOf ls cur).length : Int) + 1) ((wd : Nat) : Int) 8 10000 = 0 ∧
  rc (rowsA [ownP (bsOf ls cur)] 1 (((bsOf ls cur).length : Int) + 1) ((wd : Nat) : Int) 8 true 10000) = (ls ++ [cur]).flatMap (lineW wd) ∧
  rc (rowsA [ownP (bsOf ls cur)] 1 (((bsOf ls cur).length : Int) + 1) ((wd : Nat) : Int) 8 false 10000) = (ls ++ [cur]).map fun y => (cutC wd y, false) := by
 have hf := letF_bs hl hc
 have ha := letF_asc hf
 have hr := asc_runes ha
 have hck : checkM [ownP (bsOf ls cur)] 1 (((bsOf ls cur).length : Int) + 1) = 0 := by
  have hp : checkP (ownP (bsOf ls cur)) 1 (((bsOf ls cur).length : Int) + 1) 1 = 0 := by
   unfold checkP ownP
   dsimp only
   rw [asc_valid ha, hr, List.length_map, if_neg (by decide), if_neg (by decide), if_neg (by omega), if_neg (by omega), if_neg (fun h => absurd h.1 (by decide)), if_neg (by decide)]
  unfold checkM
  rw [if_neg (by omega)]
  show (if checkP (ownP (bsOf ls cur)) 1 (((bsOf ls cur).length : Int) + 1) 1 = 0 then _ else _) = 0
  rw [if_pos hp]
  rfl
 have he : errM [ownP (bsOf ls cur)] 1 (((bsOf ls cur).length : Int) + 1) ((wd : Nat) : Int) 8 10000 = 0 := errM_zero.2 ⟨hck, by omega, by omega, by decide, by decide, by decide, by decide⟩
 have hu : unitsM (8 : Int).toNat 0 (charsM [ownP (bsOf ls cur)]) = unitsB 1 (bsOf ls cur) := by
  show unitsM 8 0 (charsP (ownP (bsOf ls cur)) 1 (runes (bsOf ls cur)) ++ []) = _
  rw [List.append_nil, hr]
  exact units_let rfl rfl rfl rfl rfl rfl hf
 have hwr := rows_wrap hw (to_ := ((bsOf ls cur).length : Int) + 1) (ls := ls) (cur := cur) (R := []) (pos := 1) hl hc
 have hcu := rows_cut hw (to_ := ((bsOf ls cur).length : Int) + 1) (ls := ls) (cur := cur) (R := []) (pos := 1) hl hc
 refine ⟨he, ?_, ?_⟩
 ·rw [rowsA_ok he, rows_take, hu, Int.toNat_natCast, List.take_of_length_le, rc_tos]
  ·exact hwr
  ·have h1 := congrArg List.length hwr
   have h2 := flat_len (show 2 ≤ wd by omega) (ls := ls) (cur := cur)
   rw [tosX_len]
   unfold rc at h1
   rw [List.length_map] at h1
   unfold allI
   rw [h1]
   show ([] ++ _).length ≤ 10000
   rw [List.nil_append]
   omega
 ·rw [rowsA_ok he, rows_take, hu, Int.toNat_natCast, List.take_of_length_le, rc_tos]
  ·exact hcu
  ·have h1 := congrArg List.length hcu
   have h2 := ls_len (ls := ls) (cur := cur)
   rw [tosX_len]
   unfold rc at h1
   rw [List.length_map] at h1
   unfold allI
   rw [h1]
   show ([] ++ _).length ≤ 10000
   rw [List.nil_append, List.length_map, List.length_append, List.length_singleton]
   omega
end Go.Proofs.YtmmapljeeccdnaaDoor
namespace Go.Proofs.YtmmapljeeccdnaaDoor
set_option maxRecDepth 100000
open Go.Lib Go.RowKit
def wantI (n : Nat) (bs : List UInt8) (m : Bool) (mk : Int) (i : Nat) : Int := if i + 1 = n ∧ m = true then mk else if i < bs.length then (((bs.getD i 0).toNat : Nat) : Int) else 32
theorem strV_at {L : List (List UInt8)} {j : Nat} (h : j < L.length) : ((strV L).drop ((((j : Nat) : Int)).toNat * 1)).take 1 = [.string ⟨(L.getD j []).toArray⟩] := by
 unfold strV
 rw [Int.toNat_natCast, Nat.mul_one, List.drop_eq_getElem_cons (by simpa using h), List.getD_eq_getElem?_getD, List.getElem?_eq_getElem h]
 simp
theorem drop_getL {L : List (List UInt8)} {i : Nat} (h : i < L.length) : L.drop i = L.getD i [] :: L.drop (i + 1) := by
 rw [List.drop_eq_getElem_cons h, List.getD_eq_getElem?_getD, List.getElem?_eq_getElem h]
 rfl
theorem get_memL {L : List (List UInt8)} {i : Nat} (h : i < L.length) : L.getD i [] ∈ L := by
 rw [List.getD_eq_getElem?_getD, List.getElem?_eq_getElem h]
 exact List.getElem_mem _
theorem line_len {ls : List (List UInt8)} {cur : List UInt8} (h : (bsOf ls cur).length ≤ 200) : ∀ y ∈ ls ++ [cur], y.length ≤ 200 := fun y hy => by
 rcases List.mem_append.1 hy with hy | hy
 ·have : y.length ≤ (bsOf ls cur).length := by
   unfold bsOf
   obtain ⟨a, b, rfl⟩ := List.append_of_mem hy
   simp
   omega
  omega
 ·rw [List.mem_singleton.1 hy]
  have := bsOf_cur ls cur
  omega
theorem rc_head {A : List RowV} {r : Nat} {x : List Cel × Bool} {l : List (List Cel × Bool)} (h : rc (A.drop r) = x :: l) : r < A.length ∧ (A.getD r default).C = x.1 ∧ (A.getD r default).co = x.2 ∧ rc (A.drop (r + 1)) = l := by
 have hr : r < A.length := by
  rcases Nat.lt_or_ge r A.length with k | k
  ·exact k
  ·rw [List.drop_eq_nil_of_le k] at h
   cases h
 rw [drop_get hr] at h
 have h : ((A.getD r default).C, (A.getD r default).co) :: rc (A.drop (r + 1)) = x :: l := h
 obtain ⟨h1, h2⟩ := List.cons.inj h
 exact ⟨hr, congrArg Prod.fst h1, congrArg Prod.snd h1, h2⟩
theorem rc_map {A : List RowV} {LS : List (List UInt8)} {wd i : Nat} (h : rc A = LS.map fun y => (cutC wd y, false)) (hi : i < LS.length) (ha : i < A.length) : (A.getD i default).C = cutC wd (LS.getD i []) ∧ (A.getD i default).co = false := by
 have e := congrArg (fun z => z[i]?) h
 simp only [rc, List.getElem?_map] at e
 rw [List.getElem?_eq_getElem hi, List.getElem?_eq_getElem ha] at e
 rw [List.getD_eq_getElem?_getD, List.getD_eq_getElem?_getD, List.getElem?_eq_getElem hi, List.getElem?_eq_getElem ha]
 have e : (A[i].C, A[i].co) = (cutC wd LS[i], false) := Option.some.inj e
 exact ⟨congrArg Prod.fst e, congrArg Prod.snd e⟩
theorem fill_at {wd : Nat} {xs : List UInt8} {i : Nat} (h : xs.length ≤ wd) (hi : i < wd) : (fillC wd xs).getD i default = ⟨if i < xs.length then (((xs.getD i 0).toNat : Nat) : Int) else 32, 0, 0, false, false, false⟩ := by
 unfold fillC
 rw [List.getD_eq_getElem?_getD]
 rcases Nat.lt_or_ge i xs.length with k | k
 ·rw [List.getElem?_append_left (by rw [List.length_map]; exact k), List.getElem?_map, List.getElem?_eq_getElem k, if_pos k, List.getD_eq_getElem?_getD, List.getElem?_eq_getElem k]
  rfl
 ·rw [List.getElem?_append_right (by rw [List.length_map]; exact k), List.getElem?_replicate, List.length_map, if_pos (by omega), if_neg (by omega)]
  rfl
theorem mark_at {C : List Cel} {mk : Int} {i : Nat} (hi : i < C.length) : (markC C mk).getD i default = { C.getD i default with a := if i + 1 = C.length then mk else (C.getD i default).a } := by
 unfold markC
 rw [List.getD_eq_getElem?_getD, List.getElem?_set]
 by_cases k : C.length - 1 = i
 ·rw [if_pos k, if_pos (by omega), if_pos (by omega)]
  subst k
  rfl
 ·rw [if_neg k, if_neg (by omega), ← List.getD_eq_getElem?_getD]
theorem want_fill {wd : Nat} {C : List Cel} {xs : List UInt8} {mk : Int} (h : xs.length ≤ wd) (hC : C = fillC wd xs) : ∀ i, i < C.length → C.getD i default = ⟨wantI C.length xs false mk i, 0, 0, false, false, false⟩ := fun i hi => by
 subst hC
 rw [fillC_len h] at hi ⊢
 rw [fill_at h hi]
 unfold wantI
 rw [if_neg (show ¬(i + 1 = wd ∧ false = true) from fun k => Bool.false_ne_true k.2)]
theorem want_mark {wd : Nat} {C : List Cel} {xs : List UInt8} {mk : Int} (h : xs.length ≤ wd) (hC : C = markC (fillC wd xs) mk) : ∀ i, i < C.length → C.getD i default = ⟨wantI C.length xs true mk i, 0, 0, false, false, false⟩ := fun i hi => by
 subst hC
 rw [markC_len, fillC_len h] at hi ⊢
 rw [mark_at (by rw [fillC_len h]; exact hi), fillC_len h, fill_at h hi]
 unfold wantI
 by_cases k : i + 1 = wd
 ·rw [if_pos k, if_pos (show i + 1 = wd ∧ true = true from ⟨k, rfl⟩)]
 ·rw [if_neg k, if_neg (show ¬(i + 1 = wd ∧ true = true) from fun h => k h.1)]
theorem want_wrapS {wd : Nat} {C : List Cel} {lf : List UInt8} (h4 : 4 ≤ wd) (hw : wd ≤ 1000) (h : lf.length ≤ wd - 1) (hC : C = (fillC wd lf, false).1) : (∀ i, i < C.length → C.getD i default = ⟨wantI C.length (lf.take lf.length) false 92 i, 0, 0, false, false, false⟩) ∧ (lf.take lf.length).length < C.length ∧ C.length ≤ 1000000 := by
 rw [List.take_length]
 have hl : C.length = wd := by rw [hC]; exact fillC_len (by omega)
 exact ⟨want_fill (by omega) hC, by omega, by omega⟩
theorem want_wrapL {wd : Nat} {C : List Cel} {lf : List UInt8} (h4 : 4 ≤ wd) (hw : wd ≤ 1000) (h : wd - 1 < lf.length) (hC : C = (markC (fillC wd (lf.take (wd - 1))) 92, true).1) : (∀ i, i < C.length → C.getD i default = ⟨wantI C.length (lf.take (wd - 1)) true 92 i, 0, 0, false, false, false⟩) ∧ (lf.take (wd - 1)).length < C.length ∧ C.length ≤ 1000000 := by
 have ht : (lf.take (wd - 1)).length = wd - 1 := by rw [List.length_take]; omega
 have hl : C.length = wd := by rw [hC]; exact (markC_len _ _).trans (fillC_len (by omega))
 exact ⟨want_mark (by omega) hC, by omega, by omega⟩
theorem want_cutS {wd : Nat} {C : List Cel} {lf : List UInt8} (h4 : 4 ≤ wd) (hw : wd ≤ 1000) (h : lf.length ≤ wd - 1) (hC : C = cutC wd lf) : (∀ i, i < C.length → C.getD i default = ⟨wantI C.length (lf.take lf.length) false 36 i, 0, 0, false, false, false⟩) ∧ (lf.take lf.length).length < C.length ∧ C.length ≤ 1000000 := by
 unfold cutC at hC
 rw [if_pos h] at hC
 rw [List.take_length]
 have hl : C.length = wd := by rw [hC]; exact fillC_len (by omega)
 exact ⟨want_fill (by omega) hC, by omega, by omega⟩
theorem want_cutL {wd : Nat} {C : List Cel} {lf : List UInt8} (h4 : 4 ≤ wd) (hw : wd ≤ 1000) (h : wd - 1 < lf.length) (hC : C = cutC wd lf) : (∀ i, i < C.length → C.getD i default = ⟨wantI C.length (lf.take (wd - 1)) true 36 i, 0, 0, false, false, false⟩) ∧ (lf.take (wd - 1)).length < C.length ∧ C.length ≤ 1000000 := by
 unfold cutC at hC
 rw [if_neg (by omega)] at hC
 have ht : (lf.take (wd - 1)).length = wd - 1 := by rw [List.length_take]; omega
 have hl : C.length = wd := by rw [hC]; exact (markC_len _ _).trans (fillC_len (by omega))
 exact ⟨want_mark (by omega) hC, by omega, by omega⟩
section
variable {G : Nat} {A : Abs} {σ : Mem} {F : Nat → Option Blk2} {L : List Ent}
set_option maxHeartbeats 4000000 in
theorem fills_wc {C : List Cel} {bs : List UInt8} {m : Bool} {mk : Int} {v1 : Value} (h1 : SlF F 6 v1 C.length (cC C)) (hC : ∀ i, i < C.length → C.getD i default = ⟨wantI C.length bs m mk i, 0, 0, false, false, false⟩) (hlt : bs.length < C.length) (hl : C.length ≤ 1000000) (H : Lies G A F σ L) : WC G Tryd.prog 35 #[v1, .string ⟨bs.toArray⟩, .bool m, .int .i64 mk] σ fun v σ' => v = .bool true ∧ Lies G A F σ' L := by
 refine WC.enter (fn := Tryd.f35) Tryd.func35 rfl ?_
 refine W.rg [(0, v1), (1, .string ⟨bs.toArray⟩), (2, .bool m), (3, .int .i64 mk)] fun TA => ?_
 refine W.seq (W.region ?_)
 refine RW.v ?_
 refine RW.nil ?_
 refine W.rg [(0, v1), (1, .string ⟨bs.toArray⟩), (2, .bool m), (3, .int .i64 mk)] fun TA => ?_
 refine W.seq ?_
 refine W.seq (W.region ?_)
 refine RW.v ?_
 refine RW.nil ?_
 refine W.rg [(0, v1), (1, .string ⟨bs.toArray⟩), (2, .bool m), (3, .int .i64 mk), (9, .int .i64 0)] fun TA => ?_
 refine W.block ?_
 refine W.loop (fun mm ta σ => ∃ (i : Nat), (mm + i = C.length) ∧ Lies G A F σ ((L)) ∧ ta 0 = v1 ∧ ta 1 = .string ⟨bs.toArray⟩ ∧ ta 2 = .bool m ∧ ta 3 = .int .i64 mk ∧ ta 9 = .int .i64 ((i : Nat) : Int)) C.length ?_ ?_
 ·exact ⟨0, (by omega), H, rfl, rfl, rfl, rfl, rfl⟩
 clear H
 rintro mm ta _ ⟨i, hm, H, e0, e1, e2, e3, e9⟩
 refine W.rst [(0, v1), (1, .string ⟨bs.toArray⟩), (2, .bool m), (3, .int .i64 mk), (9, .int .i64 ((i : Nat) : Int))] ⟨e0, e1, e2, e3, e9, trivial⟩ fun TA => ?_
 clear e0 e1 e2 e3 e9
 refine W.seq ?_
 refine W.seq (W.region ?_)
 iterate 2 refine RW.v ?_
 refine RW.len (by kernel_rfl) (by kernel_rfl) rfl rfl rfl rfl (h1.len (e := 79) (by kernel_rfl)) (by kernel_rfl) ?_
 refine RW.v ?_
 refine RW.nil ?_
 refine W.rg [(0, v1), (1, .string ⟨bs.toArray⟩), (2, .bool m), (3, .int .i64 mk), (9, .int .i64 ((i : Nat) : Int)), (14, .bool (decide (((i : Nat) : Int) < (C.length : Int))))] fun TA => ?_
 refine W.cond rfl (fun hc1 => ?_) (fun hc1 => ?_)
 ·have hc1b := hc1
  have hc1 := of_decide_eq_true hc1
  have hil : i < C.length := by omega
  have hub := UInt8.toNat_lt (bs.getD i 0)
  refine W.skip ?_
  refine W.seq ?_
  refine W.block ?_
  refine W.seq (W.region ?_)
  refine RW.v ?_
  refine RW.nil ?_
  refine W.rg [(0, v1), (1, .string ⟨bs.toArray⟩), (2, .bool m), (3, .int .i64 mk), (9, .int .i64 ((i : Nat) : Int)), (10, .int .i64 32)] fun TA => ?_
  refine W.seq ?_
  refine W.seq (W.region ?_)
  iterate 2 refine RW.v ?_
  refine RW.vop (v := .int .i64 (bs.length : Int)) (by kernel_rfl) (by kernel_rfl) (vop_sLenL rfl rfl rfl rfl Tryd.underlying9 rfl) (by kernel_rfl) ?_
  refine RW.v ?_
  refine RW.nil ?_
  refine W.rg [(0, v1), (1, .string ⟨bs.toArray⟩), (2, .bool m), (3, .int .i64 mk), (9, .int .i64 ((i : Nat) : Int)), (10, .int .i64 32), (20, .bool (decide (((i : Nat) : Int) < (bs.length : Int))))] fun TA => ?_
  refine W.cond rfl (fun hc2 => ?_) (fun hc2 => ?_)
  ·have hc2b := hc2
   have hc2 := of_decide_eq_true hc2
   refine W.region ?_
   iterate 2 refine RW.v ?_
   refine RW.vop (v := .int .u8 ((bs.getD i 0).toNat : Int)) (by kernel_rfl) (by kernel_rfl) (vop_sAtL (a := bs) (j := i) rfl rfl rfl Tryd.underlying9 (by omega)) (by kernel_rfl) ?_
   refine RW.valE (v' := .int .i64 ((bs.getD i 0).toNat : Int)) (by kernel_rfl) (by kernel_rfl) rfl (congrArg (Value.int .i64) (wrap_in (by omega) (by omega))) (by kernel_rfl) ?_
   refine RW.v ?_
   refine RW.nil ?_
   refine W.rg [(0, v1), (1, .string ⟨bs.toArray⟩), (2, .bool m), (3, .int .i64 mk), (9, .int .i64 ((i : Nat) : Int)), (10, .int .i64 ((bs.getD i 0).toNat : Int))] fun TA => ?_
   refine W.seq ?_
   refine W.seq (W.region ?_)
   iterate 2 refine RW.v ?_
   refine RW.len (by kernel_rfl) (by kernel_rfl) rfl rfl rfl rfl (h1.len (e := 79) (by kernel_rfl)) (by kernel_rfl) ?_
   refine RW.valE (v' := .int .i64 ((C.length : Int) - 1)) (by kernel_rfl) (by kernel_rfl) rfl (congrArg (Value.int .i64) (wrap_in (by omega) (by omega))) (by kernel_rfl) ?_
   iterate 2 refine RW.v ?_
   refine RW.both _ _ rfl rfl rfl (fun hc3 => ?_) (fun hc3 => ?_)
   ·have hc3b := hc3
    have hc3 := eq_of_beq hc3
    refine RW.val (by rfl) (by kernel_rfl) rfl (by kernel_rfl) ?_
    refine RW.v ?_
    refine RW.nil ?_
    refine W.rg [(0, v1), (1, .string ⟨bs.toArray⟩), (2, .bool m), (3, .int .i64 mk), (9, .int .i64 ((i : Nat) : Int)), (10, .int .i64 ((bs.getD i 0).toNat : Int)), (32, .bool m)] fun TA => ?_
    refine W.cond rfl (fun hc4 => ?_) (fun hc4 => ?_)
    ·have hc4b := hc4
     refine W.region ?_
     iterate 2 refine RW.v ?_
     refine RW.nil ?_
     refine W.rg [(0, v1), (1, .string ⟨bs.toArray⟩), (2, .bool m), (3, .int .i64 mk), (9, .int .i64 ((i : Nat) : Int)), (10, .int .i64 mk)] fun TA => ?_
     refine W.seq (W.region ?_)
     iterate 2 refine RW.v ?_
     refine RW.idxF h1 (by kernel_rfl) (by kernel_rfl) rfl Tryd.underlying36 (by kernel_rfl) rfl rfl ⟨by omega, by omega⟩ (by kernel_rfl) ?_
     intro b5 q6 r7 hF8 hE9
     rw [cC_ati (l := C) (j := i) (by omega), hC i (by omega)] at hE9
     refine RW.loads 6 (by kernel_rfl) (by kernel_rfl) rfl rfl (H.old _ _ hF8) hE9 rfl (by kernel_rfl) ?_
     refine RW.valE (v' := .int .i64 (wantI C.length bs m mk i)) (by kernel_rfl) (by kernel_rfl) rfl (congrArg (Value.int .i64) (by unfold wantI; (repeat' split) <;> first | rfl | (exfalso; omega) | (exfalso; simp_all; done) | (exfalso; simp_all; omega))) (by kernel_rfl) ?_
     refine RW.val (v := .agg #[.int .i64 (wantI C.length bs m mk i), .int .i64 0, .int .i64 0, .bool false, .bool false, .bool false]) (by kernel_rfl) (by kernel_rfl) (by kernel_rfl) (by kernel_rfl) ?_
     refine RW.vop (v := .bool false) (by kernel_rfl) (by kernel_rfl) (vop_eqS (b := true) (r := false) rfl (.inr ⟨rfl, rfl⟩) rfl rfl rfl rfl (by kernel_rfl) (fun w => eqCell _ _ _ _ _ _ w)) (by kernel_rfl) ?_
     refine RW.nil ?_
     refine W.c0 ?_
     refine W.skip ?_
     refine blkQ_normal ?_
     refine W.region ?_
     refine RW.v ?_
     refine RW.valE (v' := .int .i64 (((i : Nat) : Int) + 1)) (by kernel_rfl) (by kernel_rfl) rfl (congrArg (Value.int .i64) (wrap_in (by omega) (by omega))) (by kernel_rfl) ?_
     refine RW.v ?_
     refine RW.nil ?_
     exact ⟨rfl, mm - 1, by omega, i + 1, (by omega), H, rfl, rfl, rfl, rfl, rfl⟩
    ·have hc4b := hc4
     refine W.skip ?_
     refine W.seq (W.region ?_)
     iterate 2 refine RW.v ?_
     refine RW.idxF h1 (by kernel_rfl) (by kernel_rfl) rfl Tryd.underlying36 (by kernel_rfl) rfl rfl ⟨by omega, by omega⟩ (by kernel_rfl) ?_
     intro b10 q11 r12 hF13 hE14
     rw [cC_ati (l := C) (j := i) (by omega), hC i (by omega)] at hE14
     refine RW.loads 6 (by kernel_rfl) (by kernel_rfl) rfl rfl (H.old _ _ hF13) hE14 rfl (by kernel_rfl) ?_
     refine RW.valE (v' := .int .i64 (wantI C.length bs m mk i)) (by kernel_rfl) (by kernel_rfl) rfl (congrArg (Value.int .i64) (by unfold wantI; (repeat' split) <;> first | rfl | (exfalso; omega) | (exfalso; simp_all; done) | (exfalso; simp_all; omega))) (by kernel_rfl) ?_
     refine RW.val (v := .agg #[.int .i64 (wantI C.length bs m mk i), .int .i64 0, .int .i64 0, .bool false, .bool false, .bool false]) (by kernel_rfl) (by kernel_rfl) (by kernel_rfl) (by kernel_rfl) ?_
     refine RW.vop (v := .bool false) (by kernel_rfl) (by kernel_rfl) (vop_eqS (b := true) (r := false) rfl (.inr ⟨rfl, rfl⟩) rfl rfl rfl rfl (by kernel_rfl) (fun w => eqCell _ _ _ _ _ _ w)) (by kernel_rfl) ?_
     refine RW.nil ?_
     refine W.c0 ?_
     refine W.skip ?_
     refine blkQ_normal ?_
     refine W.region ?_
     refine RW.v ?_
     refine RW.valE (v' := .int .i64 (((i : Nat) : Int) + 1)) (by kernel_rfl) (by kernel_rfl) rfl (congrArg (Value.int .i64) (wrap_in (by omega) (by omega))) (by kernel_rfl) ?_
     refine RW.v ?_
     refine RW.nil ?_
     exact ⟨rfl, mm - 1, by omega, i + 1, (by omega), H, rfl, rfl, rfl, rfl, rfl⟩
   ·have hc3b := hc3
    have hc3 := ne_of_beq_false hc3
    refine RW.skip (by rfl) (by kernel_rfl) ?_
    refine RW.v ?_
    refine RW.nil ?_
    refine W.c0 ?_
    refine W.skip ?_
    refine W.seq (W.region ?_)
    iterate 2 refine RW.v ?_
    refine RW.idxF h1 (by kernel_rfl) (by kernel_rfl) rfl Tryd.underlying36 (by kernel_rfl) rfl rfl ⟨by omega, by omega⟩ (by kernel_rfl) ?_
    intro b15 q16 r17 hF18 hE19
    rw [cC_ati (l := C) (j := i) (by omega), hC i (by omega)] at hE19
    refine RW.loads 6 (by kernel_rfl) (by kernel_rfl) rfl rfl (H.old _ _ hF18) hE19 rfl (by kernel_rfl) ?_
    refine RW.valE (v' := .int .i64 (wantI C.length bs m mk i)) (by kernel_rfl) (by kernel_rfl) rfl (congrArg (Value.int .i64) (by unfold wantI; (repeat' split) <;> first | rfl | (exfalso; omega) | (exfalso; simp_all; done) | (exfalso; simp_all; omega))) (by kernel_rfl) ?_
    refine RW.val (v := .agg #[.int .i64 (wantI C.length bs m mk i), .int .i64 0, .int .i64 0, .bool false, .bool false, .bool false]) (by kernel_rfl) (by kernel_rfl) (by kernel_rfl) (by kernel_rfl) ?_
    refine RW.vop (v := .bool false) (by kernel_rfl) (by kernel_rfl) (vop_eqS (b := true) (r := false) rfl (.inr ⟨rfl, rfl⟩) rfl rfl rfl rfl (by kernel_rfl) (fun w => eqCell _ _ _ _ _ _ w)) (by kernel_rfl) ?_
    refine RW.nil ?_
    refine W.c0 ?_
    refine W.skip ?_
    refine blkQ_normal ?_
    refine W.region ?_
    refine RW.v ?_
    refine RW.valE (v' := .int .i64 (((i : Nat) : Int) + 1)) (by kernel_rfl) (by kernel_rfl) rfl (congrArg (Value.int .i64) (wrap_in (by omega) (by omega))) (by kernel_rfl) ?_
    refine RW.v ?_
    refine RW.nil ?_
    exact ⟨rfl, mm - 1, by omega, i + 1, (by omega), H, rfl, rfl, rfl, rfl, rfl⟩
  ·have hc2b := hc2
   have hc2 := of_decide_eq_false hc2
   refine W.skip ?_
   refine W.seq ?_
   refine W.seq (W.region ?_)
   iterate 2 refine RW.v ?_
   refine RW.len (by kernel_rfl) (by kernel_rfl) rfl rfl rfl rfl (h1.len (e := 79) (by kernel_rfl)) (by kernel_rfl) ?_
   refine RW.valE (v' := .int .i64 ((C.length : Int) - 1)) (by kernel_rfl) (by kernel_rfl) rfl (congrArg (Value.int .i64) (wrap_in (by omega) (by omega))) (by kernel_rfl) ?_
   iterate 2 refine RW.v ?_
   refine RW.both _ _ rfl rfl rfl (fun hc20 => ?_) (fun hc20 => ?_)
   ·have hc20b := hc20
    have hc20 := eq_of_beq hc20
    refine RW.val (by rfl) (by kernel_rfl) rfl (by kernel_rfl) ?_
    refine RW.v ?_
    refine RW.nil ?_
    refine W.rg [(0, v1), (1, .string ⟨bs.toArray⟩), (2, .bool m), (3, .int .i64 mk), (9, .int .i64 ((i : Nat) : Int)), (10, .int .i64 32), (32, .bool m)] fun TA => ?_
    refine W.cond rfl (fun hc21 => ?_) (fun hc21 => ?_)
    ·have hc21b := hc21
     refine W.region ?_
     iterate 2 refine RW.v ?_
     refine RW.nil ?_
     refine W.rg [(0, v1), (1, .string ⟨bs.toArray⟩), (2, .bool m), (3, .int .i64 mk), (9, .int .i64 ((i : Nat) : Int)), (10, .int .i64 mk)] fun TA => ?_
     refine W.seq (W.region ?_)
     iterate 2 refine RW.v ?_
     refine RW.idxF h1 (by kernel_rfl) (by kernel_rfl) rfl Tryd.underlying36 (by kernel_rfl) rfl rfl ⟨by omega, by omega⟩ (by kernel_rfl) ?_
     intro b22 q23 r24 hF25 hE26
     rw [cC_ati (l := C) (j := i) (by omega), hC i (by omega)] at hE26
     refine RW.loads 6 (by kernel_rfl) (by kernel_rfl) rfl rfl (H.old _ _ hF25) hE26 rfl (by kernel_rfl) ?_
     refine RW.valE (v' := .int .i64 (wantI C.length bs m mk i)) (by kernel_rfl) (by kernel_rfl) rfl (congrArg (Value.int .i64) (by unfold wantI; (repeat' split) <;> first | rfl | (exfalso; omega) | (exfalso; simp_all; done) | (exfalso; simp_all; omega))) (by kernel_rfl) ?_
     refine RW.val (v := .agg #[.int .i64 (wantI C.length bs m mk i), .int .i64 0, .int .i64 0, .bool false, .bool false, .bool false]) (by kernel_rfl) (by kernel_rfl) (by kernel_rfl) (by kernel_rfl) ?_
     refine RW.vop (v := .bool false) (by kernel_rfl) (by kernel_rfl) (vop_eqS (b := true) (r := false) rfl (.inr ⟨rfl, rfl⟩) rfl rfl rfl rfl (by kernel_rfl) (fun w => eqCell _ _ _ _ _ _ w)) (by kernel_rfl) ?_
     refine RW.nil ?_
     refine W.c0 ?_
     refine W.skip ?_
     refine blkQ_normal ?_
     refine W.region ?_
     refine RW.v ?_
     refine RW.valE (v' := .int .i64 (((i : Nat) : Int) + 1)) (by kernel_rfl) (by kernel_rfl) rfl (congrArg (Value.int .i64) (wrap_in (by omega) (by omega))) (by kernel_rfl) ?_
     refine RW.v ?_
     refine RW.nil ?_
     exact ⟨rfl, mm - 1, by omega, i + 1, (by omega), H, rfl, rfl, rfl, rfl, rfl⟩
    ·have hc21b := hc21
     refine W.skip ?_
     refine W.seq (W.region ?_)
     iterate 2 refine RW.v ?_
     refine RW.idxF h1 (by kernel_rfl) (by kernel_rfl) rfl Tryd.underlying36 (by kernel_rfl) rfl rfl ⟨by omega, by omega⟩ (by kernel_rfl) ?_
     intro b27 q28 r29 hF30 hE31
     rw [cC_ati (l := C) (j := i) (by omega), hC i (by omega)] at hE31
     refine RW.loads 6 (by kernel_rfl) (by kernel_rfl) rfl rfl (H.old _ _ hF30) hE31 rfl (by kernel_rfl) ?_
     refine RW.valE (v' := .int .i64 (wantI C.length bs m mk i)) (by kernel_rfl) (by kernel_rfl) rfl (congrArg (Value.int .i64) (by unfold wantI; (repeat' split) <;> first | rfl | (exfalso; omega) | (exfalso; simp_all; done) | (exfalso; simp_all; omega))) (by kernel_rfl) ?_
     refine RW.val (v := .agg #[.int .i64 (wantI C.length bs m mk i), .int .i64 0, .int .i64 0, .bool false, .bool false, .bool false]) (by kernel_rfl) (by kernel_rfl) (by kernel_rfl) (by kernel_rfl) ?_
     refine RW.vop (v := .bool false) (by kernel_rfl) (by kernel_rfl) (vop_eqS (b := true) (r := false) rfl (.inr ⟨rfl, rfl⟩) rfl rfl rfl rfl (by kernel_rfl) (fun w => eqCell _ _ _ _ _ _ w)) (by kernel_rfl) ?_
     refine RW.nil ?_
     refine W.c0 ?_
     refine W.skip ?_
     refine blkQ_normal ?_
     refine W.region ?_
     refine RW.v ?_
     refine RW.valE (v' := .int .i64 (((i : Nat) : Int) + 1)) (by kernel_rfl) (by kernel_rfl) rfl (congrArg (Value.int .i64) (wrap_in (by omega) (by omega))) (by kernel_rfl) ?_
     refine RW.v ?_
     refine RW.nil ?_
     exact ⟨rfl, mm - 1, by omega, i + 1, (by omega), H, rfl, rfl, rfl, rfl, rfl⟩
   ·have hc20b := hc20
    have hc20 := ne_of_beq_false hc20
    refine RW.skip (by rfl) (by kernel_rfl) ?_
    refine RW.v ?_
    refine RW.nil ?_
    refine W.c0 ?_
    refine W.skip ?_
    refine W.seq (W.region ?_)
    iterate 2 refine RW.v ?_
    refine RW.idxF h1 (by kernel_rfl) (by kernel_rfl) rfl Tryd.underlying36 (by kernel_rfl) rfl rfl ⟨by omega, by omega⟩ (by kernel_rfl) ?_
    intro b32 q33 r34 hF35 hE36
    rw [cC_ati (l := C) (j := i) (by omega), hC i (by omega)] at hE36
    refine RW.loads 6 (by kernel_rfl) (by kernel_rfl) rfl rfl (H.old _ _ hF35) hE36 rfl (by kernel_rfl) ?_
    refine RW.valE (v' := .int .i64 (wantI C.length bs m mk i)) (by kernel_rfl) (by kernel_rfl) rfl (congrArg (Value.int .i64) (by unfold wantI; (repeat' split) <;> first | rfl | (exfalso; omega) | (exfalso; simp_all; done) | (exfalso; simp_all; omega))) (by kernel_rfl) ?_
    refine RW.val (v := .agg #[.int .i64 (wantI C.length bs m mk i), .int .i64 0, .int .i64 0, .bool false, .bool false, .bool false]) (by kernel_rfl) (by kernel_rfl) (by kernel_rfl) (by kernel_rfl) ?_
    refine RW.vop (v := .bool false) (by kernel_rfl) (by kernel_rfl) (vop_eqS (b := true) (r := false) rfl (.inr ⟨rfl, rfl⟩) rfl rfl rfl rfl (by kernel_rfl) (fun w => eqCell _ _ _ _ _ _ w)) (by kernel_rfl) ?_
    refine RW.nil ?_
    refine W.c0 ?_
    refine W.skip ?_
    refine blkQ_normal ?_
    refine W.region ?_
    refine RW.v ?_
    refine RW.valE (v' := .int .i64 (((i : Nat) : Int) + 1)) (by kernel_rfl) (by kernel_rfl) rfl (congrArg (Value.int .i64) (wrap_in (by omega) (by omega))) (by kernel_rfl) ?_
    refine RW.v ?_
    refine RW.nil ?_
    exact ⟨rfl, mm - 1, by omega, i + 1, (by omega), H, rfl, rfl, rfl, rfl, rfl⟩
 ·have hc1b := hc1
  have hc1 := of_decide_eq_false hc1
  refine W.exit _ ?_
  refine seqQ_exit ?_
  refine rndQ_exit ?_
  refine blkQ_here ?_
  refine W.seq (W.region ?_)
  refine RW.v ?_
  refine RW.vop (v := .int .i64 (bs.length : Int)) (by kernel_rfl) (by kernel_rfl) (vop_sLenL rfl rfl rfl rfl Tryd.underlying9 rfl) (by kernel_rfl) ?_
  refine RW.v ?_
  refine RW.len (by kernel_rfl) (by kernel_rfl) rfl rfl rfl rfl (h1.len (e := 79) (by kernel_rfl)) (by kernel_rfl) ?_
  refine RW.valE (v' := .bool true) (by kernel_rfl) (by kernel_rfl) rfl (congrArg Value.bool (decide_eq_true (by omega))) (by kernel_rfl) ?_
  refine RW.v ?_
  refine RW.nil ?_
  refine W.ret ?_
  refine endG (by rfl) (by exact resL_tmp rfl) ?_
  exact ⟨rfl, H⟩
end
end Go.Proofs.YtmmapljeeccdnaaDoor
