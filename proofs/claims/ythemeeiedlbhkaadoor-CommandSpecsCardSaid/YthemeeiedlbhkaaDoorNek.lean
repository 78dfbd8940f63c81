/-
 A builder: bytes, a character and strings written, the string. Conditions: none.
-/
import Derived.Test.YthemeeiedlbhkaaDoorN1
import Derived.Test.YthemeeiedlbhkaaDoorComAw
import Derived.Test.YthemeeiedlbhkaaDoorUtf
import Derived.Test.YthemeeiedlbhkaaDoorCpf
namespace Go.Proofs.YthemeeiedlbhkaaDoor
open Go.Lib
set_option maxRecDepth 100000
theorem vop_sameE {P : Program} {o : Oper} {ρ : Operand → Value} {c : Call} {x y : Operand} {f : FuncId} {v : Value} (ho : o.op = .call c) (hc : c.callee = .value x) (hx : ρ x = .func (.func f) #[] #[]) (ha : c.args = #[y]) (h : SameFn P f) (hy : ρ y = v) : VOp P o ρ v := hy ▸ vop_same ho hc hx ha h
theorem data_is {G : Nat} {σ : Mem} {u : Value} {bs : List UInt8} (hz : bs = [] → u = .slice none 0 0) (h : GRow G σ 5 1 u bs.length (bs.map byteV)) : ∃ p, DataV u p ∧ ∀ {o : Oper} {ρ : Operand → Value} {c : Call} {x : Operand}, o.op = .call c → c.callee = .builtin .unsafeSliceData → c.args = #[x] → ρ x = u → VOp Tryd.prog o ρ p := by
 by_cases h0 : bs = []
 ·obtain rfl := hz h0
  refine ⟨.pointer none, .inl ⟨rfl, rfl⟩, fun {o ρ c x} ho hc ha hx => ?_⟩
  exact vop_data ho hc ha (by rw [hx]; rfl)
 ·rcases gr_split h with ⟨_, e2, _⟩ | ⟨b, c, r, rfl, hq, hr, hte, hcl, hln, hx0⟩
  ·exact absurd (List.eq_nil_of_length_eq_zero e2) h0
  ·refine ⟨.pointer (some ⟨b, 0, none⟩), .inr ⟨b, _, _, _, rfl, rfl⟩, fun {o ρ c2 x} ho hc ha hx => ?_⟩
   have hp := List.length_pos_iff.2 h0
   refine vop_data ho hc ha ?_
   rw [hx]
   show cond (Nat.blt 0 bs.length && Nat.blt 0 c) _ _ = _
   rw [show Nat.blt 0 bs.length = true from Nat.ble_eq_true_of_le hp, show Nat.blt 0 c = true from Nat.ble_eq_true_of_le (by omega)]
   rfl
set_option maxHeartbeats 8000000 in
theorem p_wbyte {G : Nat} {A : Abs} {σ : Mem} {F : Nat → Option Blk2} {L : List Ent} {bo : Nat} {ad u : Value} {bs : List UInt8} {x : UInt8} (had : ad = .pointer none ∨ ad = .pointer (some ⟨bo, 0, none⟩)) (hl : bs.length < 1000000) (H : Lies G A F σ (.sl 5 1 u bs.length (bs.map byteV) :: .at_ bo (.row ⟨[ad, u], 83, false⟩) :: L)) : WC G Tryd.prog 46 #[.pointer (some ⟨bo, 0, none⟩), .int .u8 ((x.toNat : Nat) : Int)] σ fun _ σ' => ∃ u', Lies G A F σ' (.sl 5 1 u' (bs ++ [x]).length ((bs ++ [x]).map byteV) :: .at_ bo (.row ⟨[.pointer (some ⟨bo, 0, none⟩), u'], 83, false⟩) :: L) := by
 rcases had with rfl | rfl
 ·
  refine WC.enter (fn := Tryd.f46) Tryd.func46 rfl ?_
  refine W.rg [(0, .pointer (some ⟨bo, 0, none⟩)), (1, .int .u8 ((x.toNat : Nat) : Int))] fun TA => ?_
  refine W.seq (W.region ?_)
  refine RW.v ?_
  refine RW.nil ?_
  refine W.rg [(0, .pointer (some ⟨bo, 0, none⟩)), (1, .int .u8 ((x.toNat : Nat) : Int))] fun TA => ?_
  refine W.seq (W.region ?_)
  refine RW.v ?_
  refine RW.cl ?_
  refine WC.enter (fn := Tryd.f72) Tryd.func72 rfl ?_
  refine W.rg [(0, .pointer (some ⟨bo, 0, none⟩))] fun TA => ?_
  refine W.seq (W.region ?_)
  iterate 3 refine RW.v ?_
  refine RW.ld H 1 1 ?_
  refine RW.v ?_
  refine RW.nil ?_
  refine W.c1 ?_
  refine W.region ?_
  iterate 2 refine RW.v ?_
  refine RW.toUns H 1 (by kernel_rfl) (by kernel_rfl) rfl rfl rfl rfl rfl (by kernel_rfl) (by kernel_rfl) ?_
  refine RW.vop (v := .pointer (some ⟨bo, 0, none⟩)) (by kernel_rfl) (by kernel_rfl) (vop_sameE rfl rfl rfl rfl same0 rfl) (by kernel_rfl) ?_
  refine RW.fromUns H 1 (by kernel_rfl) (by kernel_rfl) rfl rfl rfl rfl rfl (by kernel_rfl) (by kernel_rfl) ?_
  iterate 2 refine RW.v ?_
  refine RW.st H 1 [pt bo] [pt bo, u] ?_
  clear H; intro _ _ H; dsimp only [setL, delL] at H
  refine RW.nil ?_
  refine endG (by rfl) (by exact rfl) ?_
  refine RW.nil ?_
  refine W.rg [(0, .pointer (some ⟨bo, 0, none⟩)), (1, .int .u8 ((x.toNat : Nat) : Int))] fun TA => ?_
  refine W.seq (W.region ?_)
  iterate 4 refine RW.v ?_
  refine RW.ld H 1 1 ?_
  refine RW.v ?_
  refine RW.mkL H (x := .row ⟨[.int .u8 ((x.toNat : Nat) : Int)], 5, false⟩) (fm := fun b => .slice (some ⟨b, 0, none⟩) 1 1) (by kernel_rfl) (by kernel_rfl) (by kernel_rfl) (by kernel_rfl) ?_
  clear H; intro _ b1 _ H
  refine RW.appL H 1 0 (n := 1) (e2 := 5) (by kernel_rfl) (by kernel_rfl) rfl rfl rfl rfl rfl rfl rfl rfl (by kernel_rfl) (by kernel_rfl) (by kernel_rfl) (by decide) (by decide) rfl rfl (by omega) (by kernel_rfl) ?_
  clear H; intro _ v2 _ H
  dsimp only [setL, delL] at H
  iterate 2 refine RW.v ?_
  refine RW.stL H 1 (vs := [v2]) (cs' := [.pointer (some ⟨bo, 0, none⟩), v2]) (by kernel_rfl) (by kernel_rfl) rfl rfl rfl (H.sl 0 rfl).one (gr_all (H.sl 0 rfl)) (by kernel_rfl) (Nat.le_of_ble_eq_true rfl) rfl (by kernel_rfl) ?_
  clear H; intro _ _ H; dsimp only [setL, delL] at H
  refine RW.nil ?_
  refine W.rg [] fun TA => ?_
  refine W.seq (W.region ?_)
  refine RW.v ?_
  refine RW.nil ?_
  refine W.ret ?_
  refine endG (by rfl) (by exact resL_tmp rfl) ?_
  rw [bytes_snoc, show bs.length + 1 = (bs ++ [x]).length by rw [List.length_append]; rfl] at H
  exact ⟨_, H⟩
 ·
  refine WC.enter (fn := Tryd.f46) Tryd.func46 rfl ?_
  refine W.rg [(0, .pointer (some ⟨bo, 0, none⟩)), (1, .int .u8 ((x.toNat : Nat) : Int))] fun TA => ?_
  refine W.seq (W.region ?_)
  refine RW.v ?_
  refine RW.nil ?_
  refine W.rg [(0, .pointer (some ⟨bo, 0, none⟩)), (1, .int .u8 ((x.toNat : Nat) : Int))] fun TA => ?_
  refine W.seq (W.region ?_)
  refine RW.v ?_
  refine RW.cl ?_
  refine WC.enter (fn := Tryd.f72) Tryd.func72 rfl ?_
  refine W.rg [(0, .pointer (some ⟨bo, 0, none⟩))] fun TA => ?_
  refine W.seq (W.region ?_)
  iterate 3 refine RW.v ?_
  refine RW.ld H 1 1 ?_
  refine RW.v ?_
  refine RW.nil ?_
  refine W.c0 ?_
  refine W.seq (W.region ?_)
  iterate 3 refine RW.v ?_
  refine RW.ld H 1 1 ?_
  refine RW.v ?_
  refine RW.vop (v := .bool false) (by kernel_rfl) (by kernel_rfl) (vop_ptrNe rfl rfl rfl rfl (by kernel_rfl)) (by kernel_rfl) ?_
  refine RW.nil ?_
  refine W.c0 ?_
  refine W.skip ?_
  refine endG (by rfl) (by exact rfl) ?_
  refine RW.nil ?_
  refine W.rg [(0, .pointer (some ⟨bo, 0, none⟩)), (1, .int .u8 ((x.toNat : Nat) : Int))] fun TA => ?_
  refine W.seq (W.region ?_)
  iterate 4 refine RW.v ?_
  refine RW.ld H 1 1 ?_
  refine RW.v ?_
  refine RW.mkL H (x := .row ⟨[.int .u8 ((x.toNat : Nat) : Int)], 5, false⟩) (fm := fun b => .slice (some ⟨b, 0, none⟩) 1 1) (by kernel_rfl) (by kernel_rfl) (by kernel_rfl) (by kernel_rfl) ?_
  clear H; intro _ b1 _ H
  refine RW.appL H 1 0 (n := 1) (e2 := 5) (by kernel_rfl) (by kernel_rfl) rfl rfl rfl rfl rfl rfl rfl rfl (by kernel_rfl) (by kernel_rfl) (by kernel_rfl) (by decide) (by decide) rfl rfl (by omega) (by kernel_rfl) ?_
  clear H; intro _ v2 _ H
  dsimp only [setL, delL] at H
  iterate 2 refine RW.v ?_
  refine RW.stL H 1 (vs := [v2]) (cs' := [.pointer (some ⟨bo, 0, none⟩), v2]) (by kernel_rfl) (by kernel_rfl) rfl rfl rfl (H.sl 0 rfl).one (gr_all (H.sl 0 rfl)) (by kernel_rfl) (Nat.le_of_ble_eq_true rfl) rfl (by kernel_rfl) ?_
  clear H; intro _ _ H; dsimp only [setL, delL] at H
  refine RW.nil ?_
  refine W.rg [] fun TA => ?_
  refine W.seq (W.region ?_)
  refine RW.v ?_
  refine RW.nil ?_
  refine W.ret ?_
  refine endG (by rfl) (by exact resL_tmp rfl) ?_
  rw [bytes_snoc, show bs.length + 1 = (bs ++ [x]).length by rw [List.length_append]; rfl] at H
  exact ⟨_, H⟩
set_option maxHeartbeats 8000000 in
theorem p_wrune {G : Nat} {A : Abs} {σ : Mem} {F : Nat → Option Blk2} {L : List Ent} {bo : Nat} {ad u : Value} {bs : List UInt8} {c : Int} (h0 : 0 ≤ c) (h1 : c ≤ 127) (had : ad = .pointer none ∨ ad = .pointer (some ⟨bo, 0, none⟩)) (hl : bs.length < 1000000) (H : Lies G A F σ (.sl 5 1 u bs.length (bs.map byteV) :: .at_ bo (.row ⟨[ad, u], 83, false⟩) :: L)) : WC G Tryd.prog 47 #[.pointer (some ⟨bo, 0, none⟩), .int .i32 c] σ fun _ σ' => ∃ u', Lies G A F σ' (.sl 5 1 u' (bs ++ [c.toNat.toUInt8]).length ((bs ++ [c.toNat.toUInt8]).map byteV) :: .at_ bo (.row ⟨[.pointer (some ⟨bo, 0, none⟩), u'], 83, false⟩) :: L) := by
 rcases had with rfl | rfl
 ·
  refine WC.enter (fn := Tryd.f47) Tryd.func47 rfl ?_
  refine W.rg [(0, .pointer (some ⟨bo, 0, none⟩)), (1, .int .i32 c)] fun TA => ?_
  refine W.seq (W.region ?_)
  iterate 2 refine RW.v ?_
  refine RW.nil ?_
  refine W.rg [(0, .pointer (some ⟨bo, 0, none⟩)), (1, .int .i32 c)] fun TA => ?_
  refine W.seq (W.region ?_)
  refine RW.v ?_
  refine RW.cl ?_
  refine WC.enter (fn := Tryd.f72) Tryd.func72 rfl ?_
  refine W.rg [(0, .pointer (some ⟨bo, 0, none⟩))] fun TA => ?_
  refine W.seq (W.region ?_)
  iterate 3 refine RW.v ?_
  refine RW.ld H 1 1 ?_
  refine RW.v ?_
  refine RW.nil ?_
  refine W.c1 ?_
  refine W.region ?_
  iterate 2 refine RW.v ?_
  refine RW.toUns H 1 (by kernel_rfl) (by kernel_rfl) rfl rfl rfl rfl rfl (by kernel_rfl) (by kernel_rfl) ?_
  refine RW.vop (v := .pointer (some ⟨bo, 0, none⟩)) (by kernel_rfl) (by kernel_rfl) (vop_sameE rfl rfl rfl rfl same0 rfl) (by kernel_rfl) ?_
  refine RW.fromUns H 1 (by kernel_rfl) (by kernel_rfl) rfl rfl rfl rfl rfl (by kernel_rfl) (by kernel_rfl) ?_
  iterate 2 refine RW.v ?_
  refine RW.st H 1 [pt bo] [pt bo, u] ?_
  clear H; intro _ _ H; dsimp only [setL, delL] at H
  refine RW.nil ?_
  refine endG (by rfl) (by exact rfl) ?_
  refine RW.nil ?_
  refine W.rg [(0, .pointer (some ⟨bo, 0, none⟩)), (1, .int .i32 c)] fun TA => ?_
  refine W.seq (W.region ?_)
  iterate 3 refine RW.v ?_
  refine RW.ld H 1 1 ?_
  refine RW.len (by kernel_rfl) (by kernel_rfl) rfl rfl rfl rfl ((H.sl 0 rfl).len (by kernel_rfl)) (by kernel_rfl) ?_
  refine RW.v ?_
  refine RW.nil ?_
  refine W.rg [(0, .pointer (some ⟨bo, 0, none⟩)), (1, .int .i32 c), (6, .int .i64 ((bs.length : Nat) : Int))] fun TA => ?_
  refine W.seq (W.region ?_)
  iterate 4 refine RW.v ?_
  refine RW.ld H 1 1 ?_
  refine RW.v ?_
  refine RW.cl ?_
  refine WC.enter (fn := Tryd.f73) Tryd.func73 rfl ?_
  refine W.rg [(0, u), (1, .int .i32 c)] fun TA => ?_
  refine W.seq (W.region ?_)
  refine RW.v ?_
  refine RW.nil ?_
  refine W.rg [(0, u), (1, .int .i32 c)] fun TA => ?_
  refine W.seq ?_
  refine W.seq (W.region ?_)
  refine RW.v ?_
  refine RW.valE (v' := .int .u32 c) (by kernel_rfl) (by kernel_rfl) rfl (congrArg (Value.int .u32) (wrap_u32 (by omega) (by omega))) (by kernel_rfl) ?_
  refine RW.valE (v' := .bool true) (by kernel_rfl) (by kernel_rfl) rfl (congrArg Value.bool (decide_eq_true (by omega))) (by kernel_rfl) ?_
  refine RW.nil ?_
  refine W.c1 ?_
  refine W.seq (W.region ?_)
  iterate 2 refine RW.v ?_
  refine RW.valE (v' := .int .u8 c) (by kernel_rfl) (by kernel_rfl) rfl (congrArg (Value.int .u8) (wrap_u8 (by omega) (by omega))) (by kernel_rfl) ?_
  refine RW.mkL H (x := .row ⟨[.int .u8 c], 5, false⟩) (fm := fun b => .slice (some ⟨b, 0, none⟩) 1 1) (by kernel_rfl) (by kernel_rfl) (by kernel_rfl) (by kernel_rfl) ?_
  clear H; intro _ b1 _ H
  refine RW.appL H 1 0 (n := 1) (e2 := 5) (by kernel_rfl) (by kernel_rfl) rfl rfl rfl rfl rfl rfl rfl rfl (by kernel_rfl) (by kernel_rfl) (by kernel_rfl) (by decide) (by decide) rfl rfl (by omega) (by kernel_rfl) ?_
  clear H; intro _ v2 _ H
  dsimp only [setL, delL] at H
  refine RW.v ?_
  refine RW.nil ?_
  refine W.ret ?_
  refine seqQ_ret ?_
  refine endG (by rfl) (by exact resL_tmp rfl) ?_
  iterate 2 refine RW.v ?_
  refine RW.stL H 1 (vs := [v2]) (cs' := [.pointer (some ⟨bo, 0, none⟩), v2]) (by kernel_rfl) (by kernel_rfl) rfl rfl rfl (H.sl 0 rfl).one (gr_all (H.sl 0 rfl)) (by kernel_rfl) (Nat.le_of_ble_eq_true rfl) rfl (by kernel_rfl) ?_
  clear H; intro _ _ H; dsimp only [setL, delL] at H
  refine RW.nil ?_
  refine W.rg [(0, .pointer (some ⟨bo, 0, none⟩)), (6, .int .i64 ((bs.length : Nat) : Int))] fun TA => ?_
  refine W.seq (W.region ?_)
  iterate 3 refine RW.v ?_
  refine RW.ld H 1 1 ?_
  refine RW.len (by kernel_rfl) (by kernel_rfl) rfl rfl rfl rfl ((H.sl 0 rfl).len (by kernel_rfl)) (by kernel_rfl) ?_
  refine RW.v ?_
  refine RW.valE (v' := .int .i64 (((bs.length + 1 - bs.length) : Nat) : Int)) (by kernel_rfl) (by kernel_rfl) rfl (congrArg (Value.int .i64) ((wrap_in (by omega) (by omega)).trans (by omega))) (by kernel_rfl) ?_
  iterate 2 refine RW.v ?_
  refine RW.nil ?_
  refine W.ret ?_
  refine endG (by rfl) (by exact resL_tmp (by exact resL_tmp rfl)) ?_
  rw [show c = ((c.toNat.toUInt8.toNat : Nat) : Int) from by have := byte_toNat c h0 (by omega); omega, bytes_snoc, show bs.length + 1 = (bs ++ [c.toNat.toUInt8]).length by rw [List.length_append]; rfl] at H
  exact ⟨_, H⟩
 ·
  refine WC.enter (fn := Tryd.f47) Tryd.func47 rfl ?_
  refine W.rg [(0, .pointer (some ⟨bo, 0, none⟩)), (1, .int .i32 c)] fun TA => ?_
  refine W.seq (W.region ?_)
  iterate 2 refine RW.v ?_
  refine RW.nil ?_
  refine W.rg [(0, .pointer (some ⟨bo, 0, none⟩)), (1, .int .i32 c)] fun TA => ?_
  refine W.seq (W.region ?_)
  refine RW.v ?_
  refine RW.cl ?_
  refine WC.enter (fn := Tryd.f72) Tryd.func72 rfl ?_
  refine W.rg [(0, .pointer (some ⟨bo, 0, none⟩))] fun TA => ?_
  refine W.seq (W.region ?_)
  iterate 3 refine RW.v ?_
  refine RW.ld H 1 1 ?_
  refine RW.v ?_
  refine RW.nil ?_
  refine W.c0 ?_
  refine W.seq (W.region ?_)
  iterate 3 refine RW.v ?_
  refine RW.ld H 1 1 ?_
  refine RW.v ?_
  refine RW.vop (v := .bool false) (by kernel_rfl) (by kernel_rfl) (vop_ptrNe rfl rfl rfl rfl (by kernel_rfl)) (by kernel_rfl) ?_
  refine RW.nil ?_
  refine W.c0 ?_
  refine W.skip ?_
  refine endG (by rfl) (by exact rfl) ?_
  refine RW.nil ?_
  refine W.rg [(0, .pointer (some ⟨bo, 0, none⟩)), (1, .int .i32 c)] fun TA => ?_
  refine W.seq (W.region ?_)
  iterate 3 refine RW.v ?_
  refine RW.ld H 1 1 ?_
  refine RW.len (by kernel_rfl) (by kernel_rfl) rfl rfl rfl rfl ((H.sl 0 rfl).len (by kernel_rfl)) (by kernel_rfl) ?_
  refine RW.v ?_
  refine RW.nil ?_
  refine W.rg [(0, .pointer (some ⟨bo, 0, none⟩)), (1, .int .i32 c), (6, .int .i64 ((bs.length : Nat) : Int))] fun TA => ?_
  refine W.seq (W.region ?_)
  iterate 4 refine RW.v ?_
  refine RW.ld H 1 1 ?_
  refine RW.v ?_
  refine RW.cl ?_
  refine WC.enter (fn := Tryd.f73) Tryd.func73 rfl ?_
  refine W.rg [(0, u), (1, .int .i32 c)] fun TA => ?_
  refine W.seq (W.region ?_)
  refine RW.v ?_
  refine RW.nil ?_
  refine W.rg [(0, u), (1, .int .i32 c)] fun TA => ?_
  refine W.seq ?_
  refine W.seq (W.region ?_)
  refine RW.v ?_
  refine RW.valE (v' := .int .u32 c) (by kernel_rfl) (by kernel_rfl) rfl (congrArg (Value.int .u32) (wrap_u32 (by omega) (by omega))) (by kernel_rfl) ?_
  refine RW.valE (v' := .bool true) (by kernel_rfl) (by kernel_rfl) rfl (congrArg Value.bool (decide_eq_true (by omega))) (by kernel_rfl) ?_
  refine RW.nil ?_
  refine W.c1 ?_
  refine W.seq (W.region ?_)
  iterate 2 refine RW.v ?_
  refine RW.valE (v' := .int .u8 c) (by kernel_rfl) (by kernel_rfl) rfl (congrArg (Value.int .u8) (wrap_u8 (by omega) (by omega))) (by kernel_rfl) ?_
  refine RW.mkL H (x := .row ⟨[.int .u8 c], 5, false⟩) (fm := fun b => .slice (some ⟨b, 0, none⟩) 1 1) (by kernel_rfl) (by kernel_rfl) (by kernel_rfl) (by kernel_rfl) ?_
  clear H; intro _ b1 _ H
  refine RW.appL H 1 0 (n := 1) (e2 := 5) (by kernel_rfl) (by kernel_rfl) rfl rfl rfl rfl rfl rfl rfl rfl (by kernel_rfl) (by kernel_rfl) (by kernel_rfl) (by decide) (by decide) rfl rfl (by omega) (by kernel_rfl) ?_
  clear H; intro _ v2 _ H
  dsimp only [setL, delL] at H
  refine RW.v ?_
  refine RW.nil ?_
  refine W.ret ?_
  refine seqQ_ret ?_
  refine endG (by rfl) (by exact resL_tmp rfl) ?_
  iterate 2 refine RW.v ?_
  refine RW.stL H 1 (vs := [v2]) (cs' := [.pointer (some ⟨bo, 0, none⟩), v2]) (by kernel_rfl) (by kernel_rfl) rfl rfl rfl (H.sl 0 rfl).one (gr_all (H.sl 0 rfl)) (by kernel_rfl) (Nat.le_of_ble_eq_true rfl) rfl (by kernel_rfl) ?_
  clear H; intro _ _ H; dsimp only [setL, delL] at H
  refine RW.nil ?_
  refine W.rg [(0, .pointer (some ⟨bo, 0, none⟩)), (6, .int .i64 ((bs.length : Nat) : Int))] fun TA => ?_
  refine W.seq (W.region ?_)
  iterate 3 refine RW.v ?_
  refine RW.ld H 1 1 ?_
  refine RW.len (by kernel_rfl) (by kernel_rfl) rfl rfl rfl rfl ((H.sl 0 rfl).len (by kernel_rfl)) (by kernel_rfl) ?_
  refine RW.v ?_
  refine RW.valE (v' := .int .i64 (((bs.length + 1 - bs.length) : Nat) : Int)) (by kernel_rfl) (by kernel_rfl) rfl (congrArg (Value.int .i64) ((wrap_in (by omega) (by omega)).trans (by omega))) (by kernel_rfl) ?_
  iterate 2 refine RW.v ?_
  refine RW.nil ?_
  refine W.ret ?_
  refine endG (by rfl) (by exact resL_tmp (by exact resL_tmp rfl)) ?_
  rw [show c = ((c.toNat.toUInt8.toNat : Nat) : Int) from by have := byte_toNat c h0 (by omega); omega, bytes_snoc, show bs.length + 1 = (bs ++ [c.toNat.toUInt8]).length by rw [List.length_append]; rfl] at H
  exact ⟨_, H⟩
set_option maxHeartbeats 8000000 in
theorem p_wstr {G : Nat} {A : Abs} {σ : Mem} {F : Nat → Option Blk2} {L : List Ent} {bo : Nat} {ad u : Value} {bs : List UInt8} {s : List UInt8} (had : ad = .pointer none ∨ ad = .pointer (some ⟨bo, 0, none⟩)) (hl : bs.length + s.length ≤ 1000000) (hz : bs = [] → u = .slice none 0 0) (H : Lies G A F σ (.sl 5 1 u bs.length (bs.map byteV) :: .at_ bo (.row ⟨[ad, u], 83, false⟩) :: L)) : WC G Tryd.prog 48 #[.pointer (some ⟨bo, 0, none⟩), .string ⟨s.toArray⟩] σ fun _ σ' => ∃ u', (bs ++ s = [] → u' = .slice none 0 0) ∧ Lies G A F σ' (.sl 5 1 u' (bs ++ s).length ((bs ++ s).map byteV) :: .at_ bo (.row ⟨[.pointer (some ⟨bo, 0, none⟩), u'], 83, false⟩) :: L) := by
 rcases had with rfl | rfl
 ·
  refine WC.enter (fn := Tryd.f48) Tryd.func48 rfl ?_
  refine W.rg [(0, .pointer (some ⟨bo, 0, none⟩)), (1, .string ⟨s.toArray⟩)] fun TA => ?_
  refine W.seq (W.region ?_)
  iterate 2 refine RW.v ?_
  refine RW.nil ?_
  refine W.rg [(0, .pointer (some ⟨bo, 0, none⟩)), (1, .string ⟨s.toArray⟩)] fun TA => ?_
  refine W.seq (W.region ?_)
  refine RW.v ?_
  refine RW.cl ?_
  refine WC.enter (fn := Tryd.f72) Tryd.func72 rfl ?_
  refine W.rg [(0, .pointer (some ⟨bo, 0, none⟩))] fun TA => ?_
  refine W.seq (W.region ?_)
  iterate 3 refine RW.v ?_
  refine RW.ld H 1 1 ?_
  refine RW.v ?_
  refine RW.nil ?_
  refine W.c1 ?_
  refine W.region ?_
  iterate 2 refine RW.v ?_
  refine RW.toUns H 1 (by kernel_rfl) (by kernel_rfl) rfl rfl rfl rfl rfl (by kernel_rfl) (by kernel_rfl) ?_
  refine RW.vop (v := .pointer (some ⟨bo, 0, none⟩)) (by kernel_rfl) (by kernel_rfl) (vop_sameE rfl rfl rfl rfl same0 rfl) (by kernel_rfl) ?_
  refine RW.fromUns H 1 (by kernel_rfl) (by kernel_rfl) rfl rfl rfl rfl rfl (by kernel_rfl) (by kernel_rfl) ?_
  iterate 2 refine RW.v ?_
  refine RW.st H 1 [pt bo] [pt bo, u] ?_
  clear H; intro _ _ H; dsimp only [setL, delL] at H
  refine RW.nil ?_
  refine endG (by rfl) (by exact rfl) ?_
  refine RW.nil ?_
  refine W.rg [(0, .pointer (some ⟨bo, 0, none⟩)), (1, .string ⟨s.toArray⟩)] fun TA => ?_
  refine W.seq (W.region ?_)
  iterate 4 refine RW.v ?_
  refine RW.ld H 1 1 ?_
  refine RW.v ?_
  refine RW.appStr H 0 (bs := s) (by kernel_rfl) (by kernel_rfl) rfl rfl rfl rfl rfl rfl rfl rfl rfl (by kernel_rfl) (by omega) (by kernel_rfl) ?_
  clear H; intro _ v1 _ hz1 hz2 H
  dsimp only [setL, delL] at H
  iterate 2 refine RW.v ?_
  refine RW.stL H 1 (vs := [v1]) (cs' := [.pointer (some ⟨bo, 0, none⟩), v1]) (by kernel_rfl) (by kernel_rfl) rfl rfl rfl (H.sl 0 rfl).one (gr_all (H.sl 0 rfl)) (by kernel_rfl) (Nat.le_of_ble_eq_true rfl) rfl (by kernel_rfl) ?_
  clear H; intro _ _ H; dsimp only [setL, delL] at H
  refine RW.nil ?_
  refine W.rg [(1, .string ⟨s.toArray⟩)] fun TA => ?_
  refine W.seq (W.region ?_)
  refine RW.v ?_
  refine RW.vop (v := .int .i64 (s.length : Int)) (by kernel_rfl) (by kernel_rfl) (vop_sLenL rfl rfl rfl rfl Tryd.underlying9 rfl) (by kernel_rfl) ?_
  iterate 2 refine RW.v ?_
  refine RW.nil ?_
  refine W.ret ?_
  refine endG (by rfl) (by exact resL_tmp (by exact resL_tmp rfl)) ?_
  rw [bytes_cat, ← List.length_append] at H
  refine ⟨_, fun e => ?_, H⟩
  obtain ⟨e1, e2⟩ := List.append_eq_nil_iff.1 e
  exact (hz1 e2).trans (hz e1)
 ·
  refine WC.enter (fn := Tryd.f48) Tryd.func48 rfl ?_
  refine W.rg [(0, .pointer (some ⟨bo, 0, none⟩)), (1, .string ⟨s.toArray⟩)] fun TA => ?_
  refine W.seq (W.region ?_)
  iterate 2 refine RW.v ?_
  refine RW.nil ?_
  refine W.rg [(0, .pointer (some ⟨bo, 0, none⟩)), (1, .string ⟨s.toArray⟩)] fun TA => ?_
  refine W.seq (W.region ?_)
  refine RW.v ?_
  refine RW.cl ?_
  refine WC.enter (fn := Tryd.f72) Tryd.func72 rfl ?_
  refine W.rg [(0, .pointer (some ⟨bo, 0, none⟩))] fun TA => ?_
  refine W.seq (W.region ?_)
  iterate 3 refine RW.v ?_
  refine RW.ld H 1 1 ?_
  refine RW.v ?_
  refine RW.nil ?_
  refine W.c0 ?_
  refine W.seq (W.region ?_)
  iterate 3 refine RW.v ?_
  refine RW.ld H 1 1 ?_
  refine RW.v ?_
  refine RW.vop (v := .bool false) (by kernel_rfl) (by kernel_rfl) (vop_ptrNe rfl rfl rfl rfl (by kernel_rfl)) (by kernel_rfl) ?_
  refine RW.nil ?_
  refine W.c0 ?_
  refine W.skip ?_
  refine endG (by rfl) (by exact rfl) ?_
  refine RW.nil ?_
  refine W.rg [(0, .pointer (some ⟨bo, 0, none⟩)), (1, .string ⟨s.toArray⟩)] fun TA => ?_
  refine W.seq (W.region ?_)
  iterate 4 refine RW.v ?_
  refine RW.ld H 1 1 ?_
  refine RW.v ?_
  refine RW.appStr H 0 (bs := s) (by kernel_rfl) (by kernel_rfl) rfl rfl rfl rfl rfl rfl rfl rfl rfl (by kernel_rfl) (by omega) (by kernel_rfl) ?_
  clear H; intro _ v1 _ hz1 hz2 H
  dsimp only [setL, delL] at H
  iterate 2 refine RW.v ?_
  refine RW.stL H 1 (vs := [v1]) (cs' := [.pointer (some ⟨bo, 0, none⟩), v1]) (by kernel_rfl) (by kernel_rfl) rfl rfl rfl (H.sl 0 rfl).one (gr_all (H.sl 0 rfl)) (by kernel_rfl) (Nat.le_of_ble_eq_true rfl) rfl (by kernel_rfl) ?_
  clear H; intro _ _ H; dsimp only [setL, delL] at H
  refine RW.nil ?_
  refine W.rg [(1, .string ⟨s.toArray⟩)] fun TA => ?_
  refine W.seq (W.region ?_)
  refine RW.v ?_
  refine RW.vop (v := .int .i64 (s.length : Int)) (by kernel_rfl) (by kernel_rfl) (vop_sLenL rfl rfl rfl rfl Tryd.underlying9 rfl) (by kernel_rfl) ?_
  iterate 2 refine RW.v ?_
  refine RW.nil ?_
  refine W.ret ?_
  refine endG (by rfl) (by exact resL_tmp (by exact resL_tmp rfl)) ?_
  rw [bytes_cat, ← List.length_append] at H
  refine ⟨_, fun e => ?_, H⟩
  obtain ⟨e1, e2⟩ := List.append_eq_nil_iff.1 e
  exact (hz1 e2).trans (hz e1)
set_option maxHeartbeats 8000000 in
theorem p_bstr {G : Nat} {A : Abs} {σ : Mem} {F : Nat → Option Blk2} {L : List Ent} {bo : Nat} {ad u : Value} {bs : List UInt8} (hl : bs.length ≤ 1000000) (hz : bs = [] → u = .slice none 0 0) (H : Lies G A F σ (.sl 5 1 u bs.length (bs.map byteV) :: .at_ bo (.row ⟨[ad, u], 83, false⟩) :: L)) : WC G Tryd.prog 49 #[.pointer (some ⟨bo, 0, none⟩)] σ fun v σ' => v = .string ⟨bs.toArray⟩ ∧ Lies G A F σ' L := by
 refine WC.enter (fn := Tryd.f49) Tryd.func49 rfl ?_
 refine W.rg [(0, .pointer (some ⟨bo, 0, none⟩))] fun TA => ?_
 refine W.seq (W.region ?_)
 refine RW.v ?_
 refine RW.nil ?_
 refine W.rg [(0, .pointer (some ⟨bo, 0, none⟩))] fun TA => ?_
 refine W.seq ?_
 refine W.drawn (by kernel_rfl) (by kernel_rfl) H.gn ?_
 have H1 := H
 iterate 3 refine RW.v ?_
 refine RW.ld H1 1 1 ?_
 obtain ⟨dp, hdp, hvd⟩ := data_is (u := u) hz (H1.sl 0 rfl)
 refine RW.vop (v := dp) (by kernel_rfl) (by kernel_rfl) (hvd rfl rfl rfl rfl) (by kernel_rfl) ?_
 iterate 3 refine RW.v ?_
 refine RW.ld H1 1 1 ?_
 refine RW.len (by kernel_rfl) (by kernel_rfl) rfl rfl rfl rfl ((H1.sl 0 rfl).len (by kernel_rfl)) (by kernel_rfl) ?_
 refine RW.ustrGD H1 0 (bs := bs) (by kernel_rfl) (by kernel_rfl) rfl rfl rfl rfl rfl rfl hdp hz rfl rfl (by kernel_rfl) (by omega) (by kernel_rfl) ?_
 intro _ H2
 dsimp only [setL, delL] at H2
 refine RW.v ?_
 refine RW.nil ?_
 refine ⟨⟨by kernel_rfl, ⟨trivial, trivial, trivial, dyn_row (H1.get 1 rfl) (H2.get 0 rfl) ⟨nB, nB, nB, nB, nB, nB, nB, nB, nB, nB, fun _ => H1.get 1 rfl, nB, trivial⟩, trivial, trivial, trivial, trivial, dyn_row (H1.get 1 rfl) (H2.get 0 rfl) ⟨nB, nB, nB, nB, nB, nB, nB, nB, nB, nB, fun _ => H1.get 1 rfl, nB, trivial⟩, trivial, trivial, trivial, trivial⟩⟩, ?_⟩
 replace H := H2
 clear H1 H2
 refine W.ret ?_
 refine endG (by rfl) (by exact resL_tmp rfl) ?_
 exact ⟨rfl, (H.del 0)⟩
end Go.Proofs.YthemeeiedlbhkaaDoor
