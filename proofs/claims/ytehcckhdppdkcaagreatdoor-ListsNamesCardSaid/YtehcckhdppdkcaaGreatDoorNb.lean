/-
  lists.equal on trees in the second memory: what it answers, and that it gives up where too few pairs are left. Conditions: the heap lies there as HeapAt says.
-/
import Derived.Test.YtehcckhdppdkcaaGreatDoorNa
import Derived.Test.YtehcckhdppdkcaaGreatDoorS4
namespace Go.Proofs.YtehcckhdppdkcaaGreatDoor
set_option maxRecDepth 100000
theorem WC.enterP {P : Program} {G : Nat} {σ : Mem} {f : FuncId} {args : Array Value} {fn : Func} {c : Code} {v0 : Value} {R : Value → Mem → Prop} (hf : P.funcs[f]? = some fn) (hb : fn.body = some c)
    (h : W G P none (args.size + (fn.ntmps - args.size)) c (fun t => args.getD t undef) [] σ fun ex ta' dm' σ' => ex = .panic (panC v0) ∧ ∃ σ2, ShutP G P v0 dm' σ' σ2 ∧ ∃ vs, resL P ta' σ2 fn.results.toList = some vs ∧ R (tupV vs) σ2) : WC G P f args σ R := by
  obtain ⟨ex, ta', dm', σ', h1, rfl, σ2, h2, vs, h3, h4⟩ := h
  exact ⟨_, σ2, SCall.of_recovered hf hb h1 h2 (sres h3), h4⟩
section
variable {G h : Nat} {m : HM} {σ σ0 : Mem} {F : Nat → Option Blk2} {L : List Ent}
/-- The deferred call recovers: equal answers with the error. -/
theorem rec_fuel {A : Abs} (p q : Nat) (H : Lies G A F σ (.at_ q (.row ⟨[.int .i64 0], 24, false⟩) :: .at_ p (.row ⟨[.bool false], 4, false⟩) :: L)) :
    ∃ σ2, SDCallP G Tryz.prog 111 (#[] ++ #[.pointer (some ⟨p, 0, none⟩), .pointer (some ⟨q, 0, none⟩)]) fuelV σ σ2 ∧ Lies G A F σ2 (.at_ q (.row ⟨[.int .i64 22], 24, false⟩) :: .at_ p (.row ⟨[.bool false], 4, false⟩) :: L) := by
  refine SDCallP.of_W (l := _) (fn := Tryz.f111) Tryz.func111 rfl rfl rfl rfl (by kernel_rfl) (by kernel_rfl) (by kernel_rfl) ?_
  refine RW.rst [(0, .pointer (some ⟨p, 0, none⟩)), (1, .pointer (some ⟨q, 0, none⟩)), (5, .iface 159 (.agg #[.int .i64 22]))] ⟨rfl, rfl, rfl, trivial⟩ fun TA _ => ?_
  refine RW.v ?_
  refine RW.nil ?_
  refine W.rg [(0, pt p), (1, pt q), (2, .iface 159 (.agg #[.int .i64 22]))] fun TA => ?_
  refine W.seq ?_
  refine W.seq ?_
  refine W.region ?_
  refine RW.v ?_
  refine RW.v ?_
  refine RW.nil ?_
  refine W.rg [(0, pt p), (1, pt q), (2, .iface 159 (.agg #[.int .i64 22])), (7, .bool false)] fun TA => ?_
  refine W.c0 ?_
  refine W.skip ?_
  refine W.seq ?_
  refine W.region ?_
  refine RW.v ?_
  refine RW.val (v := .tuple #[.agg #[.int .i64 22], .bool true]) (by kernel_rfl) (by kernel_rfl) (by kernel_rfl) (by kernel_rfl) ?_
  refine RW.v ?_
  refine RW.v ?_
  refine RW.v ?_
  refine RW.mk H (.row ⟨[.int .i64 0], 159, false⟩) ?_
  clear H; intro _ b1 _ H
  refine RW.st H 0 [.int .i64 22] [.int .i64 22] ?_
  clear H; intro _ _ H
  dsimp only [setL, delL] at H
  refine RW.v ?_
  refine RW.nil ?_
  refine W.rg [(0, pt p), (1, pt q), (2, .iface 159 (.agg #[.int .i64 22])), (3, pt b1), (4, .bool true)] fun TA => ?_
  refine W.seq ?_
  refine W.seq ?_
  refine W.region ?_
  refine RW.v ?_
  refine RW.v ?_
  refine RW.nil ?_
  refine W.rg [(0, pt p), (1, pt q), (2, .iface 159 (.agg #[.int .i64 22])), (3, pt b1), (14, .bool false)] fun TA => ?_
  refine W.c0 ?_
  refine W.skip ?_
  refine W.drawn (by kernel_rfl) (by kernel_rfl) H.gn ?_
  have H2 := H
  refine RW.v ?_
  refine RW.ld H2 0 1 ?_
  refine RW.stD H2 2 (vs := [.bool false]) (cs' := [.bool false]) (by kernel_rfl) (by kernel_rfl) rfl rfl rfl rfl rfl (by kernel_rfl) (Nat.le_of_ble_eq_true rfl) rfl (by kernel_rfl) ?_
  intro _ H3
  dsimp only [setL, delL] at H3
  refine RW.stD H3 1 (vs := [.int .i64 22]) (cs' := [.int .i64 22]) (by kernel_rfl) (by kernel_rfl) rfl rfl rfl rfl rfl (by kernel_rfl) (Nat.le_of_ble_eq_true rfl) rfl (by kernel_rfl) ?_
  intro _ H4
  dsimp only [setL, delL] at H4
  refine RW.nil ?_
  refine ⟨⟨by kernel_rfl, ⟨trivial, dyn_row (H2.get 0 rfl) (H4.get 0 rfl) ⟨fun h => Bool.noConfusion h, fun h => Bool.noConfusion h, fun _ => H2.get 0 rfl, fun _ => H3.get 0 rfl, trivial⟩, trivial, trivial, trivial⟩⟩, ?_⟩
  replace H := H4
  clear H2 H3 H4
  replace H := (H.del 0)
  dsimp only [setL, delL] at H
  exact ⟨rfl, rfl, H⟩
theorem equal_ok {r : Bool} {d n n' k Lp : Nat} {a b : Wd} (H : Lies G (heapAbs h m) F σ L) (hk : lookL L k = some (.at_ Lp (irow (n : Int)))) (hT : TreeR m r d a b) (hd : d ≤ 200) (hn : n ≤ 1000000) (hc : n = costT d + n') (hlim : 0 < m.limit) :
    WC G Tryz.prog 82 #[pp h, wdV a, wdV b, pp Lp] σ fun v σ' => v = .tuple #[.bool r, .int .i64 0] ∧ Lies G (heapAbs h m) F σ' (setL L k (.at_ Lp (irow (n' : Int)))) := by
  refine WC.enterD (fn := Tryz.f82) Tryz.func82 rfl ?_
  refine W.rg [(0, pt h), (1, .agg #[.int .i64 a.1, .int .i64 a.2]), (2, .agg #[.int .i64 b.1, .int .i64 b.2]), (3, pt Lp)] fun TA => ?_
  refine W.seq ?_
  refine W.region ?_
  refine RW.mk H (.row ⟨[.int .i64 a.1, .int .i64 a.2], 37, false⟩) ?_
  clear H; intro _ b1 _ H
  refine RW.mk H (.row ⟨[.int .i64 b.1, .int .i64 b.2], 37, false⟩) ?_
  clear H; intro _ b2 _ H
  refine RW.mk H (.row ⟨[.bool false], 4, false⟩) ?_
  clear H; intro _ b3 _ H
  refine RW.mk H (.row ⟨[.int .i64 0], 24, false⟩) ?_
  clear H; intro _ b4 _ H
  refine RW.nil ?_
  refine W.rg [(0, pt h), (3, pt Lp), (5, pt b1), (6, pt b2), (8, pt b3), (9, pt b4)] fun TA => ?_
  refine W.seq ?_
  refine W.seq ?_
  refine W.region ?_
  refine RW.v ?_
  refine RW.call (by kernel_rfl) (by kernel_rfl) rfl rfl rfl (by kernel_rfl) (by kernel_rfl) ((made_wc (G := G) (h := h) H.abs (by first | exact hlim | decide)).mono ?_)
  rintro _ σ5 ⟨rfl, hσ⟩
  obtain rfl := hσ.symm
  refine RW.v ?_
  refine RW.nil ?_
  refine W.rg [(0, pt h), (3, pt Lp), (5, pt b1), (6, pt b2), (8, pt b3), (9, pt b4), (12, .bool false)] fun TA => ?_
  refine W.c0 ?_
  refine W.skip ?_
  refine W.seq ?_
  refine W.deferred (f := 111) (fa := #[]) (as_ := #[]) (ca := #[.pointer (some ⟨b3, 0, none⟩), .pointer (some ⟨b4, 0, none⟩)]) [_] rfl rfl rfl rfl rfl (by kernel_rfl) ?_
  refine RW.v ?_
  refine RW.nil ?_
  refine ⟨by kernel_rfl, by kernel_rfl, ?_⟩
  refine W.rg [(0, pt h), (3, pt Lp), (5, pt b1), (6, pt b2), (8, pt b3), (9, pt b4)] fun TA => ?_
  refine W.seq ?_
  rcases alike_all G h m d r a b 0 n Lp _ hT (by omega) H.gn H.abs (H.low (k + 4) hk) (H.get (k + 4) hk) hn with ⟨_, hC⟩ | ⟨hlt, _⟩
  rotate_left
  · exact absurd hlt (by omega)
  rw [show n - costT d = n' by omega] at hC
  refine W.region ?_
  refine RW.v ?_
  refine RW.ld H 3 2 ?_
  refine RW.ld H 2 2 ?_
  refine RW.v ?_
  refine RW.call (by kernel_rfl) (by kernel_rfl) rfl rfl rfl (by kernel_rfl) (by kernel_rfl) ((hC).mono ?_)
  rintro _ _ ⟨rfl, E⟩
  replace H := H.setG (k + 4) hk E.at_ E.old E.nx E.abs
  clear E hk
  refine RW.st H 1 [.bool r] [.bool r] ?_
  clear H; intro _ _ H
  dsimp only [setL, delL] at H
  refine RW.st H 0 [.int .i64 0] [.int .i64 0] ?_
  clear H; intro _ _ H
  dsimp only [setL, delL] at H
  refine RW.nil ?_
  replace H := ((H.del 3).del 2)
  dsimp only [setL, delL] at H
  refine W.rg [(8, pt b3), (9, pt b4)] fun TA => ?_
  refine W.ret ?_
  obtain ⟨σ8, hd, hσ⟩ := rec_call (G := G) b3 b4
  obtain rfl := hσ
  exact ⟨rfl, _, Shut.one (by kernel_rfl) hd (.nil _), _, resL_cell rfl (H.get 1 rfl) (by rw [uT_eq]; exact Tryz.underlying4) (by kernel_rfl) rfl rfl (by exact resL_cell rfl (H.get 0 rfl) (by rw [uT_eq]; exact Tryz.underlying24) (by kernel_rfl) rfl rfl rfl), rfl, ((H.del 0).del 0)⟩
theorem equal_fuel {r : Bool} {d n k Lp : Nat} {a b : Wd} (H : Lies G (heapAbs h m) F σ L) (hk : lookL L k = some (.at_ Lp (irow (n : Int)))) (hT : TreeR m r d a b) (hd : d ≤ 200) (hn : n ≤ 1000000) (hc : n < costT d) (hlim : 0 < m.limit) :
    WC G Tryz.prog 82 #[pp h, wdV a, wdV b, pp Lp] σ fun v σ' => v = .tuple #[.bool false, .int .i64 22] ∧ Lies G (heapAbs h m) F σ' (setL L k (.at_ Lp (irow 0))) := by
  refine WC.enterP (v0 := fuelV) (fn := Tryz.f82) Tryz.func82 rfl ?_
  refine W.rg [(0, pt h), (1, .agg #[.int .i64 a.1, .int .i64 a.2]), (2, .agg #[.int .i64 b.1, .int .i64 b.2]), (3, pt Lp)] fun TA => ?_
  refine W.seq ?_
  refine W.region ?_
  refine RW.mk H (.row ⟨[.int .i64 a.1, .int .i64 a.2], 37, false⟩) ?_
  clear H; intro _ b1 _ H
  refine RW.mk H (.row ⟨[.int .i64 b.1, .int .i64 b.2], 37, false⟩) ?_
  clear H; intro _ b2 _ H
  refine RW.mk H (.row ⟨[.bool false], 4, false⟩) ?_
  clear H; intro _ b3 _ H
  refine RW.mk H (.row ⟨[.int .i64 0], 24, false⟩) ?_
  clear H; intro _ b4 _ H
  refine RW.nil ?_
  refine W.rg [(0, pt h), (3, pt Lp), (5, pt b1), (6, pt b2), (8, pt b3), (9, pt b4)] fun TA => ?_
  refine W.seq ?_
  refine W.seq ?_
  refine W.region ?_
  refine RW.v ?_
  refine RW.call (by kernel_rfl) (by kernel_rfl) rfl rfl rfl (by kernel_rfl) (by kernel_rfl) ((made_wc (G := G) (h := h) H.abs (by first | exact hlim | decide)).mono ?_)
  rintro _ σ5 ⟨rfl, hσ⟩
  obtain rfl := hσ.symm
  refine RW.v ?_
  refine RW.nil ?_
  refine W.rg [(0, pt h), (3, pt Lp), (5, pt b1), (6, pt b2), (8, pt b3), (9, pt b4), (12, .bool false)] fun TA => ?_
  refine W.c0 ?_
  refine W.skip ?_
  refine W.seq ?_
  refine W.deferred (f := 111) (fa := #[]) (as_ := #[]) (ca := #[.pointer (some ⟨b3, 0, none⟩), .pointer (some ⟨b4, 0, none⟩)]) [_] rfl rfl rfl rfl rfl (by kernel_rfl) ?_
  refine RW.v ?_
  refine RW.nil ?_
  refine ⟨by kernel_rfl, by kernel_rfl, ?_⟩
  refine W.rg [(0, pt h), (3, pt Lp), (5, pt b1), (6, pt b2), (8, pt b3), (9, pt b4)] fun TA => ?_
  refine W.seq ?_
  rcases alike_all G h m d r a b 0 n Lp _ hT (by omega) H.gn H.abs (H.low (k + 4) hk) (H.get (k + 4) hk) hn with ⟨hle, _⟩ | ⟨_, σ8, hC, E⟩
  · exact absurd hle (by omega)
  refine W.panics [_, _, _, _] [_, _] rfl ?_
  refine RW.v ?_
  refine RW.ld H 3 2 ?_
  refine RW.ld H 2 2 ?_
  refine RW.v ?_
  refine RW.nil ?_
  refine ⟨by kernel_rfl, by kernel_rfl, fuelV, σ8, eop_callP rfl rfl rfl (by kernel_rfl) (hC.args (by kernel_rfl)), ?_⟩
  replace H := H.setG (k + 4) hk E.at_ E.old E.nx E.abs
  clear E hk hC
  obtain ⟨σ9, hd, H⟩ := rec_fuel b3 b4 H
  exact ⟨rfl, σ9, .call (fun a_ cs w => invoke_func (by kernel_rfl) cs a_ w) hd (.nil _), _, resL_cell rfl (H.get 1 rfl) (by rw [uT_eq]; exact Tryz.underlying4) (by kernel_rfl) rfl rfl (by exact resL_cell rfl (H.get 0 rfl) (by rw [uT_eq]; exact Tryz.underlying24) (by kernel_rfl) rfl rfl rfl), rfl, ((((H.del 0).del 0).del 0).del 0)⟩
end
end Go.Proofs.YtehcckhdppdkcaaGreatDoor
