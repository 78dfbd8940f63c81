/-
  Parts of a text among a law's arguments, in the second memory. Conditions: none.
  A contract of a call that reads a slice and leaves all alone, as a call of the second memory. Over any program. Conditions: none.
  Calls that read a slice or plain arguments where the two tables of unicode/utf8 lie. Conditions: none.
  The two tables of unicode/utf8 among the frozen rows. Conditions: none.
  Ranges over open strings in the second memory. Over any program. Conditions: none.
-/
import Derived.Test.YtmmapljeeccdnaaDoorK2
import Derived.WideShapes
import Derived.Test.YtmmapljeeccdnaaDoorK1
import Derived.Test.YtmmapljeeccdnaaDoorRowsU
import Derived.Test.YtmmapljeeccdnaaDoorS4
import Derived.Test.YtmmapljeeccdnaaDoorS2
import Derived.Test.YtmmapljeeccdnaaDoorUtf
import Derived.Lib.TrimUEq
import Derived.Lib.TrimU
namespace Go.Proofs.YtmmapljeeccdnaaDoor
open Go.ChangeShapes Go.WideShapes Go.ChangeAt Go.RowKit
set_option maxRecDepth 100000
structure Prt where
  k : Int
  p : Int
  t : Int
  s : List UInt8
  b : Int
  c : Int
  d : Bool
  e : Bool
  f : Bool
instance : Inhabited Prt := ⟨⟨0, 0, 0, [], 0, 0, false, false, false⟩⟩
def Prt.vs (x : Prt) : List Value := [.int .i64 x.k, .int .i64 x.p, .int .i64 x.t, .string ⟨x.s.toArray⟩, .int .i64 x.b, .int .i64 x.c, .bool x.d, .bool x.e, .bool x.f]
def pC : List Prt → List Value
  | [] => []
  | x :: l => x.vs ++ pC l
theorem pC_at : ∀ {l : List Prt} {i : Nat} (_ : i < l.length), ((pC l).drop (i * 9)).take 9 = (l.getD i default).vs
  | [], _, h => absurd h (Nat.not_lt_zero _)
  | x :: l, 0, _ => by
    rw [show pC (x :: l) = x.vs ++ pC l from rfl, Nat.zero_mul, List.drop_zero]
    exact List.take_left' rfl
  | x :: l, i + 1, h => by
    rw [show pC (x :: l) = x.vs ++ pC l from rfl, show (i + 1) * 9 = x.vs.length + i * 9 by show _ = 9 + _; omega, ← List.drop_drop, List.drop_left, List.getD_cons_succ]
    exact pC_at (by simpa using h)
section
variable {H : Type} {enc : TypeId × Value → H} {w : World}
end
end Go.Proofs.YtmmapljeeccdnaaDoor
namespace Go.Proofs.YtmmapljeeccdnaaDoor
open Go.RowKit
set_option maxRecDepth 100000
section
variable {P : Program} {G : Nat} {σ : Mem}
theorem below_callR {R : List (Nat × List Value)} (hR : RowsAt R σ) (hGR : ∀ g cs, (g, cs) ∈ R → g < G) (h64 : ∀ g cs, (g, cs) ∈ R → g < 64) (hfR : ∀ g cs, (g, cs) ∈ R → (∀ x ∈ cs, flatV x = true) ∧ cs ≠ []) {f : FuncId} {args : Array Value} {v : Value} (hl : args.toList.all (closedV 3) = true) (hv : closedV 3 v = true)
    (hc : ∀ w, RowsLie w R → Calls P f args w fun e w' => e = .returned v ∧ Below w.heap.size w w') : SCall G P f args σ v σ := by
  refine ⟨Nat.le_refl _, fun μ w cargs hs hGn _ har => ?_⟩
  have hz : cargs = args := by
    apply Array.ext
    · exact har.1.symm
    · intro i h1 h2
      exact closedV_eq 3 _ _ (List.all_eq_true.1 hl _ (by simp)) (har.2 i args[i] cargs[i] (by simp [h2]) (by simp [h1]))
  subst hz
  refine (hc w (rows_lie hs hGR h64 hfR hR)).mono ?_
  rintro e w' ⟨rfl, hb⟩
  have own2 := OwnOk.same (G := G) (σ := σ) (μ := μ) (w := w) (w' := w') (σ' := σ) rfl (Ext.refl μ) rfl hb.size (fun B hB _ => hb.block B hB) fun c z ci hz hc => .inr ⟨c, z, ci, hz, hc, rfl⟩
  exact ⟨v, μ, rfl, ⟨Nat.le_refl _, fun b h1 h2 => absurd h1 (by omega), fun _ _ => rfl, ⟨hs.glob, fun b x bi hx hm => (hs.blk b x bi hx hm).keep (hb.block _ (hs.blk b x bi hx hm).lt) (Ext.refl _), hs.inj, hs.rw_, own2 hs.abs⟩, hb.size, hb.os, hb.tape, hb.output, fun b x bi hb' hx _ => absurd (Mem.lt hx) (by omega), fun _ x _ h => ⟨x, h⟩, hGn, own_id, fun B hB _ _ => hb.block B hB⟩, closedV_rel _ 3 v hv⟩
end
end Go.Proofs.YtmmapljeeccdnaaDoor
namespace Go.Proofs.YtmmapljeeccdnaaDoor
open Go.RowKit
set_option maxRecDepth 100000
theorem tabs_of_rowsU {w : World} (hl : RowsLie w rowsU) : Lib.Utf8Tabs 0 1 w := by
  refine ⟨fun c hc => ?_, fun i hi => ⟨?_, ?_⟩⟩
  · exact (hl _ firstL (by simp [rowsU])).2.2 c _ (by simp [firstL, hc])
  · refine (hl _ accL (by simp [rowsU])).2.2 (2 * i) _ ?_
    unfold accL
    rw [List.getElem?_map, List.getElem?_range (by omega)]
    simp
  · refine (hl _ accL (by simp [rowsU])).2.2 (2 * i + 1) _ ?_
    unfold accL
    rw [List.getElem?_map, List.getElem?_range (by omega)]
    simp only [Option.map_some, Option.some.injEq]
    rw [if_neg (by omega), show (2 * i + 1) / 2 = i by omega]
section
variable {P : Program} {G : Nat} {σ : Mem} (hR : RowsAt rowsU σ) (h16 : 16 ≤ G)
include hR h16
theorem below_callT {f : FuncId} {args : Array Value} {v : Value} (hl : args.toList.all (closedV 3) = true) (hv : closedV 3 v = true)
    (hc : ∀ w, Lib.Utf8Tabs 0 1 w → Calls P f args w fun e w' => e = .returned v ∧ Below w.heap.size w w') : SCall G P f args σ v σ :=
  below_callR hR (fun g cs hm => Nat.lt_of_lt_of_le (rowsU_low g cs hm) h16) (fun g cs hm => Nat.lt_of_lt_of_le (rowsU_low g cs hm) (by decide)) rowsU_flat hl hv fun w h1 => hc w (tabs_of_rowsU h1)
end
end Go.Proofs.YtmmapljeeccdnaaDoor
namespace Go.Proofs.YtmmapljeeccdnaaDoor
set_option maxRecDepth 100000
def U8F (F : Nat → Option Blk2) : Prop := (∃ t g, F 0 = some (.row ⟨firstL, t, g⟩)) ∧ ∃ t g, F 1 = some (.row ⟨accL, t, g⟩)
theorem u8f_of {σ : Mem} (h : RowsAt rowsU σ) : U8F σ.get := ⟨h _ _ (by simp [rowsU]), h _ _ (by simp [rowsU])⟩
theorem U8F.le {F F' : Nat → Option Blk2} (h : U8F F) (k : Le F F') : U8F F' := by
  obtain ⟨⟨t, g, h1⟩, u, f, h2⟩ := h
  exact ⟨⟨t, g, k _ _ h1⟩, u, f, k _ _ h2⟩
theorem U8F.rows {σ : Mem} (h : U8F σ.get) : RowsAt rowsU σ := fun g cs hm => by
  unfold rowsU at hm
  simp only [List.mem_cons, Prod.mk.injEq, List.mem_nil_iff, or_false] at hm
  rcases hm with ⟨rfl, rfl⟩ | ⟨rfl, rfl⟩
  · exact h.1
  · exact h.2
end Go.Proofs.YtmmapljeeccdnaaDoor
namespace Go.Proofs.YtmmapljeeccdnaaDoor
open Go.Lib
set_option maxRecDepth 100000
theorem runes_dr {bs : List UInt8} {pos : Nat} (h : pos < bs.length) : runes (bs.drop pos) = ((decodeL (bs.drop pos)).1 : Int) :: runes (bs.drop (pos + (decodeL (bs.drop pos)).2)) := by
  have hne : bs.drop pos ≠ [] := by
    intro e
    have := congrArg List.length e
    rw [List.length_drop, List.length_nil] at this
    omega
  have h1 := runes_step _ hne
  rw [List.drop_drop] at h1
  exact h1
theorem runes_end {bs : List UInt8} {pos : Nat} (h : bs.length ≤ pos) : runes (bs.drop pos) = [] := by
  rw [List.drop_eq_nil_of_le h]
  rfl
theorem dec_list (bs : List UInt8) (pos : Nat) : Utf8.decode ⟨bs.toArray⟩ pos = decodeL (bs.drop pos) := (decodeL_drop ⟨bs.toArray⟩ pos).symm
section
variable {P : Program} {G : Nat} {A : Abs} {F : Nat → Option Blk2} {σ : Mem} {L : List Ent} {nt : Nat} {ops : Array Oper} {l : List Oper} {ta : Nat → Value} {rs : List (Rec × Mem)} {o : Oper} {K : (Nat → Value) → Mem → Prop} {bs : List UInt8} {pos b : Nat} {it : Operand}
theorem RW.nxtT (H : Lies G A F σ L) (k : Nat) (hp : pos < bs.length)
    (h : ∀ σ' rs' (c q : Nat), pos < q → c ≤ 1114111 → runes (bs.drop pos) = (c : Int) :: runes (bs.drop q) → Lies G A F σ' (setL L k (.at_ b (.iter ⟨bs.toArray⟩ q))) → RW G P nt ops l (putO ta o.dst (.tuple #[.bool true, .int .i64 ((pos : Nat) : Int), .int .i32 ((c : Nat) : Int)])) σ' rs' fun _ => K)
    (ho : o.op = .next it true := by exact rfl) (hi : oper2 ta it = .pointer (some ⟨b, 0, none⟩) := by exact rfl) (hk0 : lookL L k = some (.at_ b (.iter ⟨bs.toArray⟩ pos)) := by exact rfl) (hw : wantedT ops ta o = true := by kernel_rfl) (hk : opndOk G o = true := by kernel_rfl) (hd : dstOk nt o.dst = true := by kernel_rfl) :
    RW G P nt ops (o :: l) ta σ rs fun _ => K := by
  have he := eop_next (P := P) (G := G) (o := o) ho hi (H.low k hk0) (H.get k hk0)
  have e1 : nextF ⟨bs.toArray⟩ pos = (.tuple #[.bool true, .int .i64 pos, .int .i32 (decodeL (bs.drop pos)).1], pos + (decodeL (bs.drop pos)).2) := by
    unfold nextF
    rw [if_pos (by exact hp), dec_list]
  rw [e1] at he
  have hwd := decodeL_width (bs.drop pos)
  have hr : (decodeL (bs.drop pos)).1 ≤ 1114111 := by rw [← dec_list]; exact rune_le _ _
  exact RW.eff hw hk he hd (h _ _ _ _ (by omega) hr (runes_dr hp) (H.put k _ hk0))
theorem RW.nxtF (H : Lies G A F σ L) (k : Nat) (hp : bs.length ≤ pos)
    (h : ∀ σ' rs', Lies G A F σ' (setL L k (.at_ b (.iter ⟨bs.toArray⟩ pos))) → RW G P nt ops l (putO ta o.dst (.tuple #[.bool false])) σ' rs' fun _ => K)
    (ho : o.op = .next it true := by exact rfl) (hi : oper2 ta it = .pointer (some ⟨b, 0, none⟩) := by exact rfl) (hk0 : lookL L k = some (.at_ b (.iter ⟨bs.toArray⟩ pos)) := by exact rfl) (hw : wantedT ops ta o = true := by kernel_rfl) (hk : opndOk G o = true := by kernel_rfl) (hd : dstOk nt o.dst = true := by kernel_rfl) :
    RW G P nt ops (o :: l) ta σ rs fun _ => K := by
  have he := eop_next (P := P) (G := G) (o := o) ho hi (H.low k hk0) (H.get k hk0)
  have e1 : nextF ⟨bs.toArray⟩ pos = (.tuple #[.bool false], pos) := by
    unfold nextF
    rw [if_neg (by show ¬ pos < bs.length; omega)]
  rw [e1] at he
  exact RW.eff hw hk he hd (h _ _ (H.put k _ hk0))
end
end Go.Proofs.YtmmapljeeccdnaaDoor
