/-
  Parts of a text among a law's arguments, in the second memory. Conditions: none.
  A contract of a call that reads a slice and leaves all alone, as a call of the second memory. Over any program. Conditions: none.
  Calls that read a slice or plain arguments where the two tables of unicode/utf8 lie. Conditions: none.
  The two tables of unicode/utf8 among the frozen rows. Conditions: none.
  Ranges over open strings in the second memory. Over any program. Conditions: none.
-/
import Derived.Test.YtmmapljeeccdnaaDoorK2
import Derived.WideShapes
import Derived.Test.YtmmapljeeccdnaaDoorK1
import Derived.Test.YtmmapljeeccdnaaDoorRowsU
import Derived.Test.YtmmapljeeccdnaaDoorS4
import Derived.Test.YtmmapljeeccdnaaDoorS2
import Derived.Test.YtmmapljeeccdnaaDoorUtf
import Derived.Lib.TrimUEq
import Derived.Lib.TrimU
namespace Go.Proofs.YtmmapljeeccdnaaDoor
open Go.ChangeShapes Go.WideShapes Go.ChangeAt Go.RowKit
set_option maxRecDepth 100000
structure Prt where
 k : Int
 p : Int
 t : Int
 s : List UInt8
 b : Int
 c : Int
 d : Bool
 e : Bool
 f : Bool
instance : Inhabited Prt := ⟨⟨0, 0, 0, [], 0, 0, false, false, false⟩⟩
def Prt.vs (x : Prt) : List Value := [.int .i64 x.k, .int .i64 x.p, .int .i64 x.t, .string ⟨x.s.toArray⟩, .int .i64 x.b, .int .i64 x.c, .bool x.d, .bool x.e, .bool x.f]
def pC : List Prt → List Value
 | [] => []
 | x :: l => x.vs ++ pC l
theorem pC_len : ∀ l : List Prt, (pC l).length = l.length * 9
 | [] => rfl
 | x :: l => by
  show (x.vs ++ pC l).length = (l.length + 1) * 9
  rw [List.length_append, pC_len l]
  show 9 + l.length * 9 = _
  omega
theorem pC_get : ∀ {l : List Prt} {i : Nat} {u : Value}, (pC l)[i]? = some u → ∃ (j : Nat) (x : Prt) (k : Nat), l[j]? = some x ∧ x.vs[k]? = some u ∧ i = j * 9 + k
 | [], _, _, h => by simp [pC] at h
 | x :: l, i, u, h => by
  rw [show pC (x :: l) = x.vs ++ pC l from rfl] at h
  rcases Nat.lt_or_ge i 9 with hi | hi
  ·rw [List.getElem?_append_left (by exact hi)] at h
   exact ⟨0, x, i, rfl, h, by omega⟩
  ·rw [List.getElem?_append_right (by exact hi)] at h
   obtain ⟨j, y, k, h1, h2, h3⟩ := pC_get (l := l) h
   have h3 : i - 9 = j * 9 + k := h3
   exact ⟨j + 1, y, k, by simpa using h1, h2, by omega⟩
theorem pvs_flat {x : Prt} {u : Value} (h : u ∈ x.vs) : flatV u = true := by
 simp only [Prt.vs, List.mem_cons, List.mem_nil_iff, or_false] at h
 rcases h with rfl | rfl | rfl | rfl | rfl | rfl | rfl | rfl | rfl <;> rfl
theorem pC_flat {l : List Prt} {u : Value} (h : u ∈ pC l) : flatV u = true := by
 obtain ⟨i, hi⟩ := List.getElem?_of_mem h
 obtain ⟨_, _, _, _, h2, _⟩ := pC_get hi
 exact pvs_flat (List.mem_of_getElem? h2)
theorem pC_at : ∀ {l : List Prt} {i : Nat} (_ : i < l.length), ((pC l).drop (i * 9)).take 9 = (l.getD i default).vs
 | [], _, h => absurd h (Nat.not_lt_zero _)
 | x :: l, 0, _ => by
  rw [show pC (x :: l) = x.vs ++ pC l from rfl, Nat.zero_mul, List.drop_zero]
  exact List.take_left' rfl
 | x :: l, i + 1, h => by
  rw [show pC (x :: l) = x.vs ++ pC l from rfl, show (i + 1) * 9 = x.vs.length + i * 9 by show _ = 9 + _; omega, ← List.drop_drop, List.drop_left, List.getD_cons_succ]
  exact pC_at (by simpa using h)
section
variable {H : Type} {enc : TypeId × Value → H} {w : World}
theorem part_open {n : Nat} {cs : List Value} {y : DataW H × List MemPlace} {base : Nat} {spare : Nat → Bool} {held : Bool} (hl : cs.length = 9) (h : DataW.trod enc Tryd.prog w base spare held n 52 cs = some y) : ∃ x : Prt, cs = x.vs := by
 obtain ⟨xs, k, hk, hxy, _, hxl, hf⟩ := DataW.trod_struct Tryd.underlying52 h
 match xs, hxl, cs, hl with
 | [y0, y1, y2, y3, y4], _, [v0, v1, v2, v3, v4, v5, v6, v7, v8], _ =>
  have g0 : DataW.trod enc Tryd.prog w base spare held k 3 ((([v0, v1, v2, v3, v4, v5, v6, v7, v8] : List Value).drop 0).take (Tryd.prog.cellsOf 3)) = some y0 := hf 0 _ rfl
  have g1 : DataW.trod enc Tryd.prog w base spare held k 3 ((([v0, v1, v2, v3, v4, v5, v6, v7, v8] : List Value).drop 1).take (Tryd.prog.cellsOf 3)) = some y1 := hf 1 _ rfl
  have g2 : DataW.trod enc Tryd.prog w base spare held k 3 ((([v0, v1, v2, v3, v4, v5, v6, v7, v8] : List Value).drop 2).take (Tryd.prog.cellsOf 3)) = some y2 := hf 2 _ rfl
  have g3 : DataW.trod enc Tryd.prog w base spare held k 9 ((([v0, v1, v2, v3, v4, v5, v6, v7, v8] : List Value).drop 3).take (Tryd.prog.cellsOf 9)) = some y3 := hf 3 _ rfl
  have g4 : DataW.trod enc Tryd.prog w base spare held k 50 ((([v0, v1, v2, v3, v4, v5, v6, v7, v8] : List Value).drop 4).take (Tryd.prog.cellsOf 50)) = some y4 := hf 4 _ rfl
  rw [show Tryd.prog.cellsOf 3 = 1 from by kernel_rfl] at g0 g1 g2
  rw [show Tryd.prog.cellsOf 9 = 1 from by kernel_rfl] at g3
  rw [show Tryd.prog.cellsOf 50 = 5 from by kernel_rfl] at g4
  simp only [List.drop_succ_cons, List.drop_zero, List.take_succ_cons, List.take_zero] at g0 g1 g2 g3 g4
  obtain ⟨a0, p0, _, _⟩ := DataW.trod_int Tryd.underlying3 g0
  obtain ⟨a1, p1, _, _⟩ := DataW.trod_int Tryd.underlying3 g1
  obtain ⟨a2, p2, _, _⟩ := DataW.trod_int Tryd.underlying3 g2
  obtain ⟨a3, p3, _, _⟩ := DataW.trod_string Tryd.underlying9 g3
  obtain ⟨zs, k2, _, _, _, hzl, hg⟩ := DataW.trod_struct Tryd.underlying50 g4
  match zs, hzl with
  | [u0, u1, u2, u3, u4], _ =>
   have e0 : DataW.trod enc Tryd.prog w base spare held k2 3 ((([v4, v5, v6, v7, v8] : List Value).drop 0).take (Tryd.prog.cellsOf 3)) = some u0 := hg 0 _ rfl
   have e1 : DataW.trod enc Tryd.prog w base spare held k2 3 ((([v4, v5, v6, v7, v8] : List Value).drop 1).take (Tryd.prog.cellsOf 3)) = some u1 := hg 1 _ rfl
   have e2 : DataW.trod enc Tryd.prog w base spare held k2 4 ((([v4, v5, v6, v7, v8] : List Value).drop 2).take (Tryd.prog.cellsOf 4)) = some u2 := hg 2 _ rfl
   have e3 : DataW.trod enc Tryd.prog w base spare held k2 4 ((([v4, v5, v6, v7, v8] : List Value).drop 3).take (Tryd.prog.cellsOf 4)) = some u3 := hg 3 _ rfl
   have e4 : DataW.trod enc Tryd.prog w base spare held k2 4 ((([v4, v5, v6, v7, v8] : List Value).drop 4).take (Tryd.prog.cellsOf 4)) = some u4 := hg 4 _ rfl
   rw [show Tryd.prog.cellsOf 3 = 1 from by kernel_rfl] at e0 e1
   rw [show Tryd.prog.cellsOf 4 = 1 from by kernel_rfl] at e2 e3 e4
   obtain ⟨z1, q1, _, _⟩ := DataW.trod_int Tryd.underlying3 e0
   obtain ⟨z2, q2, _, _⟩ := DataW.trod_int Tryd.underlying3 e1
   obtain ⟨z3, q3, _⟩ := DataW.trod_bool Tryd.underlying4 e2
   obtain ⟨z4, q4, _⟩ := DataW.trod_bool Tryd.underlying4 e3
   obtain ⟨z5, q5, _⟩ := DataW.trod_bool Tryd.underlying4 e4
   simp at p0 p1 p2 p3 q1 q2 q3 q4 q5
   subst p0 p1 p2 p3 q1 q2 q3 q4 q5
   refine ⟨⟨a0, a1, a2, a3.data.toList, z1, z2, z3, z4, z5⟩, ?_⟩
   have e : (⟨a3.data.toList.toArray⟩ : ByteArray) = a3 := Go.WideShapes.bytes_inj (by simp)
   show _ = [_, _, _, Value.string ⟨a3.data.toList.toArray⟩, _, _, _, _, _]
   rw [e]
theorem parts_open {n : Nat} {v : Value} {y : DataW H × List MemPlace} {held : Bool} (h : DataW.trod enc Tryd.prog w 0 (fun _ => true) held n 22 [v] = some y) : ∃ ps : List Prt, FlatsA w 9 v ps.length (pC ps) := by
 rcases Go.Deep.open_slice Tryd.underlying22 h with ⟨hcs, _⟩ | ⟨a', len', cap', m, n, D, Pl, hcs, _, hl, hm, hmm, _, hi⟩
 ·simp at hcs
  subst hcs
  exact ⟨[], none, 0, rfl, rfl, fun _ => rfl, fun u hu => by simp [pC] at hu, fun h => absurd h (by simp)⟩
 ·simp at hcs
  subst hcs
  have hlm : len' ≤ m := by rw [hmm]; split <;> omega
  have each : ∀ i, i < len' → ∃ x : Prt, ∀ k u, x.vs[k]? = some u → w.cell? (a'.add (i * 9 + k)) = some u := by
   intro i hil
   obtain ⟨cs', h1, h2⟩ := hi i (by omega)
   rw [show Tryd.prog.cellsOf 52 = 9 from by kernel_rfl] at h1
   obtain ⟨_, hlen, hcell⟩ := World.cells?_some h1
   obtain ⟨x, rfl⟩ := part_open hlen h2
   refine ⟨x, fun k u hk => ?_⟩
   have hk6 : k < 9 := (List.getElem?_eq_some_iff.1 hk).1
   have e0 := hcell k hk6
   rw [Go.Deep.add_add] at e0
   rw [e0, hk]
  obtain ⟨q, hq⟩ := Go.Deep.choose_lt each
  refine ⟨(List.range len').map q, some a', cap', by simp, by rw [pC_len], (fun h => by cases h), fun u hu => pC_flat hu, fun h0 => ?_⟩
  simp at h0
  obtain ⟨b, off, spot⟩ := a'
  have hspot : spot = none := by simpa [Addr.add] using World.cell?_spot (hq 0 h0 0 _ rfl)
  subst hspot
  refine ⟨b, off, rfl, fun i u hu => ?_⟩
  obtain ⟨j, x, k, h1, h2, rfl⟩ := pC_get hu
  have hj' : j < len' := by have := (List.getElem?_eq_some_iff.1 h1).1; simpa using this
  have hy : x = q j := by simpa [hj'] using h1.symm
  subst hy
  have := hq j hj' k u h2
  rwa [addr_plain] at this
theorem open_parts {r : Reach} {b0 : Nat} {v : Value} {d : DataW H} {p : List MemPlace} (hv : Value.okWide Tryd.prog w r b0 22 v) (h : DataW.Trod enc Tryd.prog w 0 (fun _ => true) true 22 v d p) : ∃ ps : List Prt, FlatsA w 9 v ps.length (pC ps) := by
 obtain ⟨a, len, cap, rfl⟩ := okWide_slice Tryd.underlying22 hv
 obtain ⟨fuel, hf⟩ := h
 exact parts_open (v := .slice a len cap) hf
end
end Go.Proofs.YtmmapljeeccdnaaDoor
namespace Go.Proofs.YtmmapljeeccdnaaDoor
open Go.RowKit
set_option maxRecDepth 100000
section
variable {P : Program} {G : Nat} {σ : Mem}
theorem below_callR {R : List (Nat × List Value)} (hR : RowsAt R σ) (hGR : ∀ g cs, (g, cs) ∈ R → g < G) (h64 : ∀ g cs, (g, cs) ∈ R → g < 64) (hfR : ∀ g cs, (g, cs) ∈ R → (∀ x ∈ cs, flatV x = true) ∧ cs ≠ []) {f : FuncId} {args : Array Value} {v : Value} (hl : args.toList.all (closedV 3) = true) (hv : closedV 3 v = true)
    (hc : ∀ w, RowsLie w R → Calls P f args w fun e w' => e = .returned v ∧ Below w.heap.size w w') : SCall G P f args σ v σ := by
  refine ⟨Nat.le_refl _, fun μ w cargs hs hGn _ har => ?_⟩
  have hz : cargs = args := by
    apply Array.ext
    · exact har.1.symm
    · intro i h1 h2
      exact closedV_eq 3 _ _ (List.all_eq_true.1 hl _ (by simp)) (har.2 i args[i] cargs[i] (by simp [h2]) (by simp [h1]))
  subst hz
  refine (hc w (rows_lie hs hGR h64 hfR hR)).mono ?_
  rintro e w' ⟨rfl, hb⟩
  have own2 := OwnOk.same (G := G) (σ := σ) (μ := μ) (w := w) (w' := w') (σ' := σ) rfl (Ext.refl μ) rfl hb.size (fun B hB _ => hb.block B hB) fun c z ci hz hc => .inr ⟨c, z, ci, hz, hc, rfl⟩
  exact ⟨v, μ, rfl, ⟨Nat.le_refl _, fun b h1 h2 => absurd h1 (by omega), fun _ _ => rfl, ⟨hs.glob, fun b x bi hx hm => (hs.blk b x bi hx hm).keep (hb.block _ (hs.blk b x bi hx hm).lt) (Ext.refl _), hs.inj, hs.rw_, own2 hs.abs⟩, hb.size, hb.os, hb.tape, hb.output, fun b x bi hb' hx _ => absurd (Mem.lt hx) (by omega), fun _ x _ h => ⟨x, h⟩, hGn, own_id, fun B hB _ _ => hb.block B hB⟩, closedV_rel _ 3 v hv⟩
end
end Go.Proofs.YtmmapljeeccdnaaDoor
namespace Go.Proofs.YtmmapljeeccdnaaDoor
open Go.RowKit
set_option maxRecDepth 100000
theorem tabs_of_rowsU {w : World} (hl : RowsLie w rowsU) : Lib.Utf8Tabs 0 1 w := by
 refine ⟨fun c hc => ?_, fun i hi => ⟨?_, ?_⟩⟩
 ·exact (hl _ firstL (by simp [rowsU])).2.2 c _ (by simp [firstL, hc])
 ·refine (hl _ accL (by simp [rowsU])).2.2 (2 * i) _ ?_
  unfold accL
  rw [List.getElem?_map, List.getElem?_range (by omega)]
  simp
 ·refine (hl _ accL (by simp [rowsU])).2.2 (2 * i + 1) _ ?_
  unfold accL
  rw [List.getElem?_map, List.getElem?_range (by omega)]
  simp only [Option.map_some, Option.some.injEq]
  rw [if_neg (by omega), show (2 * i + 1) / 2 = i by omega]
section
variable {P : Program} {G : Nat} {σ : Mem} (hR : RowsAt rowsU σ) (h16 : 16 ≤ G)
include hR h16
theorem below_callT {f : FuncId} {args : Array Value} {v : Value} (hl : args.toList.all (closedV 3) = true) (hv : closedV 3 v = true)
    (hc : ∀ w, Lib.Utf8Tabs 0 1 w → Calls P f args w fun e w' => e = .returned v ∧ Below w.heap.size w w') : SCall G P f args σ v σ :=
  below_callR hR (fun g cs hm => Nat.lt_of_lt_of_le (rowsU_low g cs hm) h16) (fun g cs hm => Nat.lt_of_lt_of_le (rowsU_low g cs hm) (by decide)) rowsU_flat hl hv fun w h1 => hc w (tabs_of_rowsU h1)
end
end Go.Proofs.YtmmapljeeccdnaaDoor
namespace Go.Proofs.YtmmapljeeccdnaaDoor
set_option maxRecDepth 100000
def U8F (F : Nat → Option Blk2) : Prop := (∃ t g, F 0 = some (.row ⟨firstL, t, g⟩)) ∧ ∃ t g, F 1 = some (.row ⟨accL, t, g⟩)
theorem u8f_of {σ : Mem} (h : RowsAt rowsU σ) : U8F σ.get := ⟨h _ _ (by simp [rowsU]), h _ _ (by simp [rowsU])⟩
theorem U8F.le {F F' : Nat → Option Blk2} (h : U8F F) (k : Le F F') : U8F F' := by
 obtain ⟨⟨t, g, h1⟩, u, f, h2⟩ := h
 exact ⟨⟨t, g, k _ _ h1⟩, u, f, k _ _ h2⟩
theorem U8F.rows {σ : Mem} (h : U8F σ.get) : RowsAt rowsU σ := fun g cs hm => by
 unfold rowsU at hm
 simp only [List.mem_cons, Prod.mk.injEq, List.mem_nil_iff, or_false] at hm
 rcases hm with ⟨rfl, rfl⟩ | ⟨rfl, rfl⟩
 ·exact h.1
 ·exact h.2
end Go.Proofs.YtmmapljeeccdnaaDoor
namespace Go.Proofs.YtmmapljeeccdnaaDoor
open Go.Lib
set_option maxRecDepth 100000
theorem runes_dr {bs : List UInt8} {pos : Nat} (h : pos < bs.length) : runes (bs.drop pos) = ((decodeL (bs.drop pos)).1 : Int) :: runes (bs.drop (pos + (decodeL (bs.drop pos)).2)) := by
 have hne : bs.drop pos ≠ [] := by
  intro e
  have := congrArg List.length e
  rw [List.length_drop, List.length_nil] at this
  omega
 have h1 := runes_step _ hne
 rw [List.drop_drop] at h1
 exact h1
theorem runes_end {bs : List UInt8} {pos : Nat} (h : bs.length ≤ pos) : runes (bs.drop pos) = [] := by
 rw [List.drop_eq_nil_of_le h]
 rfl
theorem dec_list (bs : List UInt8) (pos : Nat) : Utf8.decode ⟨bs.toArray⟩ pos = decodeL (bs.drop pos) := (decodeL_drop ⟨bs.toArray⟩ pos).symm
section
variable {P : Program} {G : Nat} {A : Abs} {F : Nat → Option Blk2} {σ : Mem} {L : List Ent} {nt : Nat} {ops : Array Oper} {l : List Oper} {ta : Nat → Value} {rs : List (Rec × Mem)} {o : Oper} {K : (Nat → Value) → Mem → Prop} {bs : List UInt8} {pos b : Nat} {it : Operand}
theorem RW.nxtT (H : Lies G A F σ L) (k : Nat) (hp : pos < bs.length)
    (h : ∀ σ' rs' (c q : Nat), pos < q → c ≤ 1114111 → runes (bs.drop pos) = (c : Int) :: runes (bs.drop q) → Lies G A F σ' (setL L k (.at_ b (.iter ⟨bs.toArray⟩ q))) → RW G P nt ops l (putO ta o.dst (.tuple #[.bool true, .int .i64 ((pos : Nat) : Int), .int .i32 ((c : Nat) : Int)])) σ' rs' fun _ => K)
    (ho : o.op = .next it true := by exact rfl) (hi : oper2 ta it = .pointer (some ⟨b, 0, none⟩) := by exact rfl) (hk0 : lookL L k = some (.at_ b (.iter ⟨bs.toArray⟩ pos)) := by exact rfl) (hw : wantedT ops ta o = true := by kernel_rfl) (hk : opndOk G o = true := by kernel_rfl) (hd : dstOk nt o.dst = true := by kernel_rfl) :
    RW G P nt ops (o :: l) ta σ rs fun _ => K := by
  have he := eop_next (P := P) (G := G) (o := o) ho hi (H.low k hk0) (H.get k hk0)
  have e1 : nextF ⟨bs.toArray⟩ pos = (.tuple #[.bool true, .int .i64 pos, .int .i32 (decodeL (bs.drop pos)).1], pos + (decodeL (bs.drop pos)).2) := by
    unfold nextF
    rw [if_pos (by exact hp), dec_list]
  rw [e1] at he
  have hwd := decodeL_width (bs.drop pos)
  have hr : (decodeL (bs.drop pos)).1 ≤ 1114111 := by rw [← dec_list]; exact rune_le _ _
  exact RW.eff hw hk he hd (h _ _ _ _ (by omega) hr (runes_dr hp) (H.put k _ hk0))
theorem RW.nxtF (H : Lies G A F σ L) (k : Nat) (hp : bs.length ≤ pos)
    (h : ∀ σ' rs', Lies G A F σ' (setL L k (.at_ b (.iter ⟨bs.toArray⟩ pos))) → RW G P nt ops l (putO ta o.dst (.tuple #[.bool false])) σ' rs' fun _ => K)
    (ho : o.op = .next it true := by exact rfl) (hi : oper2 ta it = .pointer (some ⟨b, 0, none⟩) := by exact rfl) (hk0 : lookL L k = some (.at_ b (.iter ⟨bs.toArray⟩ pos)) := by exact rfl) (hw : wantedT ops ta o = true := by kernel_rfl) (hk : opndOk G o = true := by kernel_rfl) (hd : dstOk nt o.dst = true := by kernel_rfl) :
    RW G P nt ops (o :: l) ta σ rs fun _ => K := by
  have he := eop_next (P := P) (G := G) (o := o) ho hi (H.low k hk0) (H.get k hk0)
  have e1 : nextF ⟨bs.toArray⟩ pos = (.tuple #[.bool false], pos) := by
    unfold nextF
    rw [if_neg (by show ¬ pos < bs.length; omega)]
  rw [e1] at he
  exact RW.eff hw hk he hd (h _ _ (H.put k _ hk0))
end
end Go.Proofs.YtmmapljeeccdnaaDoor
