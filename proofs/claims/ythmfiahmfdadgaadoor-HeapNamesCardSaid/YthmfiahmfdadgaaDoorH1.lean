/-
  HeapNames in plain words: a string that is doubled, the heap that stores() fills, what Collect leaves of it; strings in the second memory. Conditions: none.
  Code as a call of the second memory. Conditions: the heap lies there as HeapAt says.
  stores() of the heap's laws in the second memory: it answers true. Conditions: the tables of unicode/utf8 lie as laid.
  HeapNames answers true in every world. Conditions: the tables of unicode/utf8 lie as laid.
-/
import Derived.Test.YthmfiahmfdadgaaDoorHz
import Derived.Test.YthmfiahmfdadgaaDoorC1
import Derived.Test.YthmfiahmfdadgaaDoorKz
import Derived.Test.YthmfiahmfdadgaaDoorS3
namespace Go.Proofs.YthmfiahmfdadgaaDoor
open Go.RowKit
set_option maxRecDepth 100000
section
variable {P : Program} {o : Oper} {ρ : Operand → Value}
theorem vop_strAdd {t t' : TypeId} {x y : Operand} {a b : ByteArray} (ho : o.op = .binOp .add t x y t') (hx : ρ x = .string a) (hy : ρ y = .string b) (hs : a.size + b.size ≤ 1000000000000) : VOp P o ρ (.string (a ++ b)) := fun μ ρc hor => by
  rw [ho] at hor
  have h1 := hor x (by simp [Op.operands])
  have h2 := hor y (by simp [Op.operands])
  rw [hx] at h1
  rw [hy] at h2
  have h1 := flatV_eq rfl h1
  have h2 := flatV_eq rfl h2
  have hn : ¬ (((a.size + b.size : Nat) : Int) > IntKind.i64.max) := by
    have : IntKind.i64.max = 9223372036854775807 := by decide
    omega
  refine ⟨_, .flat _ rfl, fun w => ?_⟩
  unfold execOp
  simp only [ho, h1, h2]
  simp only [eqGuard, binOp, Op.stringOp, if_neg hn]
  rfl
theorem vop_strLen {c : Call} {x : Operand} {t : TypeId} {a : ByteArray} (ho : o.op = .call c) (hc : c.callee = .builtin .len) (ha : c.args = #[x]) (ht : c.argTypes = #[t]) (hu : P.underlying t = some .string) (hx : ρ x = .string a) : VOp P o ρ (.int .i64 a.size) := fun μ ρc hor => by
  rw [ho] at hor
  have h1 := hor x (by simp [Op.operands, Call.operands, hc, ha])
  rw [hx] at h1
  have h1 := flatV_eq rfl h1
  refine ⟨_, .flat _ rfl, fun w => ?_⟩
  unfold execOp
  simp only [ho, Sem.run_bind, resolve, hc, ha, ht, Result.andThen_ok, Sem.run_pure]
  simp [invoke, builtin, Builtin.len_, run_underlying hu, h1, goInt]
end
/-- A string of n characters of one byte. -/
structure GoodS (s : ByteArray) (n : Nat) : Prop where
  size : s.size = n
  ok : Lib.validD s.data.toList = true
  len : lenOf s.data.toList = n
theorem GoodS.dbl {s : ByteArray} {n : Nat} (h : GoodS s n) : GoodS (s ++ s) (n + n) := by
  obtain ⟨h1, h2, h3⟩ := h
  have e : (s ++ s).data.toList = s.data.toList ++ s.data.toList := by simp
  have k := valid_append_left (t := s.data.toList) h2
  refine ⟨by rw [ByteArray.size_append, h1], by rw [e, k.1, h2], ?_⟩
  rw [lenOf_yes h2] at h3
  rw [e, lenOf_yes (by rw [k.1, h2]), k.2, List.length_append, h3]
theorem goodS_a : GoodS ⟨#[97]⟩ 1 := ⟨rfl, by decide, by decide⟩
/-- The heap behind i texts. -/
def hmT (s : ByteArray) (i : Nat) : HM := ⟨40, List.replicate i (some (.text s)), []⟩
theorem hmT_succ (s : ByteArray) (i : Nat) : (hmT s i).push (.text s) = hmT s (i + 1) := by simp [HM.push, hmT, List.replicate_succ']
theorem hmT_len (s : ByteArray) (i : Nat) : (hmT s i).objs.length = i := by simp [hmT]
theorem hmT_many (s : ByteArray) (i : Nat) : (hmT s i).many = i := by simp [HM.many, hmT]
theorem hmT_used {s : ByteArray} {n : Nat} (h : GoodS s n) (i : Nat) : (hmT s i).used = i * n := by
  simp [HM.used, hmT, optSize, HObj.size, h.len]
def hmV (s : ByteArray) (l : List Wd) : HM := ⟨40, List.replicate 15 (some (.text s)) ++ [some (.vec l)], []⟩
def hmE (s : ByteArray) (l : List Wd) : HM := ⟨40, List.replicate 15 (some (.text s)) ++ [some (.vec l), some (.text ByteArray.empty)], []⟩
theorem hmV_is (s : ByteArray) (l : List Wd) : (hmT s 15).push (.vec l) = hmV s l := rfl
theorem hmE_is (s : ByteArray) (l : List Wd) : (hmV s l).push (.text ByteArray.empty) = hmE s l := rfl
theorem hmV_used {s : ByteArray} {l : List Wd} {n : Nat} (h : GoodS s n) : (hmV s l).used = 15 * n + l.length := by
  rw [← hmV_is, HM.used_push, hmT_used h]; rfl
theorem hmE_used {s : ByteArray} {l : List Wd} {n : Nat} (h : GoodS s n) : (hmE s l).used = 15 * n + l.length := by
  rw [← hmE_is, HM.used_push, hmV_used h]
  have : (HObj.text ByteArray.empty).size = 0 := by decide
  omega
theorem find_k0 (m : HM) (a : Int) : m.find (0, a) = none := by
  cases e : m.find (0, a) with
  | none => rfl
  | some o => have := (HM.find_mem e).2.2; cases o <;> cases this
theorem hmV_lt (s : ByteArray) (l : List Wd) : (hmV s l).many < (hmV s l).limit := by
  have : (hmV s l).many = 16 := by simp [HM.many, hmV]
  rw [this]
  show 16 < 40
  decide
def mkE : List Bool := List.replicate 15 false ++ [true, false]
theorem reachE {s : ByteArray} {n i : Nat} : Reach (hmE s (List.replicate n (0, 0))) [(4, 15)] i ↔ i = 15 := by
  have hf : (hmE s (List.replicate n (0, 0))).find (4, 15) = some (.vec (List.replicate n (0, 0))) := rfl
  constructor
  · intro h
    induction h with
    | root x o hx h =>
      rw [List.mem_singleton] at hx
      subst hx
      rfl
    | kid i o x o' hi ho hx h ih =>
      exfalso
      subst ih
      cases ho
      have : x = (0, 0) := (List.mem_replicate.1 hx).2
      subst this
      rw [find_k0] at h
      cases h
  · rintro rfl
    exact Reach.root (l := [(4, 15)]) (4, 15) _ (by simp) hf
theorem marksE {s : ByteArray} {n : Nat} {M : List Bool} (h : Marks (hmE s (List.replicate n (0, 0))) (markL (hmE s (List.replicate n (0, 0))) (List.replicate (hmE s (List.replicate n (0, 0))).objs.length false, []) [(4, 15)]) M) : (hmE s (List.replicate n (0, 0))).Above M ∧ M = mkE := by
  obtain ⟨hl, hr⟩ := h.reach
  have hl : M.length = 17 := hl
  refine ⟨fun z _ x hx => (by cases hx), ?_⟩
  apply List.ext_getElem?
  intro i
  rcases Nat.lt_or_ge i 17 with hi | hi
  · have h1 := hr i
    rw [reachE] at h1
    have h2 := List.getElem?_eq_getElem (l := M) (i := i) (by omega)
    rw [h2] at h1 ⊢
    have e : mkE[i]? = some (decide (i = 15)) := (by decide : ∀ i, i < 17 → mkE[i]? = some (decide (i = 15))) i hi
    rw [e]
    congr 1
    by_cases hk : i = 15
    · rw [decide_eq_true hk]
      exact Option.some.inj (h1.2 hk)
    · rw [decide_eq_false hk]
      cases hM : M[i] with
      | false => rfl
      | true => exact absurd (h1.1 (by rw [hM])) hk
  · rw [List.getElem?_eq_none (by omega), List.getElem?_eq_none (by simp [mkE]; omega)]
theorem goneE (s : ByteArray) (l : List Wd) : (hmE s l).gone mkE = 16 := by kernel_rfl
theorem sweptE (s : ByteArray) (l : List Wd) : ((hmE s l).swept mkE).used = l.length := by
  have : ((hmE s l).swept mkE).objs = List.replicate 15 none ++ [some (.vec l), none] := by kernel_rfl
  unfold HM.used
  rw [this]
  simp [optSize, HObj.size]
theorem infoZ {P : Program} {e : TypeId} {z : Value} {s m : Nat} (h : ((iT P e).any fun i => i.size == s && decide (i.bytes ≤ m)) = true) (h2 : zeroT P e = some z) : ∃ i, iT P e = some i ∧ i.size = s ∧ i.bytes ≤ m := by
  cases hi : iT P e with
  | none => rw [hi] at h; cases h
  | some i =>
    rw [hi] at h
    simp at h
    exact ⟨i, rfl, h.1, h.2⟩
theorem zeros_wd : ∀ n, (List.range' 0 0 1 : List Nat) = [] ∧ (zerosF #[.int .i64 0, .int .i64 0] (n * 2)).toList = wdC (List.replicate n (0, 0)) := fun n => by
  refine ⟨rfl, ?_⟩
  unfold zerosF
  simp only [Array.toList_map, Array.toList_range]
  induction n with
  | zero => rfl
  | succ n ih =>
    rw [show (n + 1) * 2 = n * 2 + 1 + 1 by omega, List.range_succ, List.range_succ, List.map_append, List.map_append, ih, List.replicate_succ']
    have e1 : (n * 2) % 2 = 0 := by omega
    have e2 : (n * 2 + 1) % 2 = 1 := by omega
    simp [wdC, e1, e2]
theorem makeSlice_wd {G : Nat} {σ : Mem} {o : Oper} {ρ : Operand → Value} {x y : Operand} (n : Nat) (hn : 0 < n ∧ n ≤ 1000000) (ho : o.op = .makeSlice 22 x y) (hx : ρ x = .int .i64 n) (hy : ρ y = .int .i64 n) :
    stepOp G Tryd.prog σ o ρ = some (.make (.row ⟨wdC (List.replicate n (0, 0)), 24, false⟩) fun b => .slice (some ⟨b, 0, none⟩) n n) := by
  have hz : zeroT Tryd.prog 24 = some (.agg #[.int .i64 0, .int .i64 0]) := by kernel_rfl
  obtain ⟨i, h1, h2, h3⟩ := infoZ (P := Tryd.prog) (e := 24) (s := 2) (m := 64) (by kernel_rfl) hz
  have ht : uT Tryd.prog 22 = some (.slice 24) := by kernel_rfl
  have hc : closedV 2 (.agg #[.int .i64 0, .int .i64 0]) = true := rfl
  unfold stepOp
  rw [ho]
  simp only [sMkS, makeSliceF, hx, hy, ht, h1, hz, h2]
  have hmul : (i.bytes : Int) * (n : Int) ≤ 64 * 1000000 := by
    have := Nat.mul_le_mul h3 hn.2
    have h : ((i.bytes * n : Nat) : Int) ≤ ((64 * 1000000 : Nat) : Int) := Int.ofNat_le.2 this
    simpa using h
  have e1 : ((n : Int)).toNat = n := Int.toNat_natCast n
  rw [if_pos ⟨by omega, by omega, by omega, by omega, hc, by decide⟩, e1, if_neg (by omega)]
  rw [show (Value.agg #[.int .i64 0, .int .i64 0]).cells = #[.int .i64 0, .int .i64 0] from rfl, (zeros_wd n).2]
end Go.Proofs.YthmfiahmfdadgaaDoor
namespace Go.Proofs.YthmfiahmfdadgaaDoor
open Go.RowKit
set_option maxRecDepth 100000
section
variable {G : Nat} {σ : Mem} {h : Nat} {m : HM}
/-- A slice of the second memory, as the world has it. -/
theorem sl_worldG {μ : Mu} {w : World} {v u : Value} {s n : Nat} {xs : List Value} (hs : Sim G μ σ w) (hs0 : 0 < s) (hsl : Sl σ s v xs) (hlen : xs.length = n * s) (hcl : ∀ x ∈ xs, closedV 3 x = true) (hu : VRel μ v u) : ∃ A c, u = .slice A n c ∧ Reads w w.heap.size s A n xs := by
  cases hsl with
  | nil =>
    have hl0 : n = 0 := by
      rcases Nat.eq_zero_or_pos n with h | h
      · exact h
      · have := Nat.mul_pos h hs0; simp at hlen; omega
    have := closedV_eq 3 _ _ rfl hu
    exact ⟨none, 0, by rw [this, hl0], by rw [hl0]; exact ⟨by simp, fun h => absurd h (by decide)⟩⟩
  | some hr hx hc =>
    rename_i b p n' c sp r
    have hn : n' = n := Nat.eq_of_mul_eq_mul_right hs0 (by rw [← hx]; exact hlen)
    subst hn
    obtain ⟨ri, q, c', g1, g2, _, g3⟩ := hu.slice_inv
    refine ⟨_, c', g2, hx, fun hp => ⟨⟨ri.blk, q, none⟩, rfl, (hs.blk b _ ri hr g1).lt, fun i x hi => ?_⟩⟩
    have hq := g3 (by omega)
    obtain ⟨cc, fz, t', hcc, _, hcs⟩ := (hs.blk b _ ri hr g1).lie
    have hcl : closedV 3 x = true := hcl x (List.mem_of_getElem? hi)
    obtain ⟨v', p1, p2⟩ := hcs (p + i) _ (hc i _ hi)
    have := closedV_eq 3 _ _ hcl p2
    subst this
    have hadd : (⟨ri.blk, q, none⟩ : Addr).add i = ⟨ri.blk, q + i, none⟩ := by unfold Addr.add; split <;> simp_all
    rw [hadd]
    unfold World.cell?
    simp only [hcc]
    rw [hq, Nat.add_assoc]
    exact p1
theorem byC_closed (l : List Int) : ∀ x ∈ byC l, closedV 3 x = true := fun x hx => by
  obtain ⟨y, _, rfl⟩ := List.mem_map.1 hx
  rfl
theorem wdC_closed (l : List Wd) : ∀ x ∈ wdC l, closedV 3 x = true := fun x hx => by
  simp only [wdC, List.mem_flatMap, List.mem_cons, List.not_mem_nil, or_false] at hx
  obtain ⟨y, _, rfl | rfl⟩ := hx <;> rfl
/-- Code's argument, as the world has it. -/
theorem code_world {μ : Mu} {w : World} {x y z : Int} {v1 v2 u : Value} {bs : List Int} {cs : List Wd} (hs : Sim G μ σ w) (h1 : Sl σ 1 v1 (byC bs)) (h2 : Sl σ 2 v2 (wdC cs)) (hu : VRel μ (.agg #[.int .i64 x, .int .i64 y, .int .i64 z, v1, v2]) u) :
    ∃ A c B d, u = .agg #[.int .i64 x, .int .i64 y, .int .i64 z, .slice A bs.length c, .slice B cs.length d] ∧ Reads w w.heap.size 1 A bs.length (byC bs) ∧ Reads w w.heap.size 2 B cs.length (wdC cs) := by
  obtain ⟨ws, rfl, hsz, hr⟩ := hu.agg_inv
  have h5 : ws.size = 5 := hsz.symm
  have r0 := closedV_eq 3 _ _ rfl (hr 0 (.int .i64 x) ws[0] rfl (by simp [h5]))
  have r1 := closedV_eq 3 _ _ rfl (hr 1 (.int .i64 y) ws[1] rfl (by simp [h5]))
  have r2 := closedV_eq 3 _ _ rfl (hr 2 (.int .i64 z) ws[2] rfl (by simp [h5]))
  obtain ⟨A, c, e3, q3⟩ := sl_worldG (n := bs.length) hs (by decide) h1 (by rw [byC_length, Nat.mul_one]) (byC_closed bs) (hr 3 v1 ws[3] rfl (by simp [h5]))
  obtain ⟨B, d, e4, q4⟩ := sl_worldG (n := cs.length) hs (by decide) h2 (by rw [wdC_length]) (wdC_closed cs) (hr 4 v2 ws[4] rfl (by simp [h5]))
  refine ⟨A, c, B, d, congrArg Value.agg ?_, q3, q4⟩
  apply Array.ext
  · simp [h5]
  · intro i k3 k4
    match i, k3, k4 with
    | 0, _, _ => exact r0
    | 1, _, _ => exact r1
    | 2, _, _ => exact r2
    | 3, _, _ => exact e3
    | 4, _, _ => exact e4
    | i + 5, _, k4 => exact absurd k4 (by simp)
theorem s_code {x y z : Int} {v1 v2 : Value} {bs : List Int} {cs : List Wd} (k1 : Sl σ 1 v1 (byC bs)) (k2 : Sl σ 2 v2 (wdC cs)) (ha : σ.abs = heapAbs h m) (hn : bs.length ≤ 65536) (hk : cs.length ≤ 65536) (hm : m.many < m.limit) (hf : m.free = []) (hu : m.used + (bs.length + cs.length) ≤ 1048576) :
    SCall G Tryd.prog 23 #[.pointer (some ⟨h, 0, none⟩), .agg #[.int .i64 x, .int .i64 y, .int .i64 z, v1, v2]] σ (.tuple #[wdV (6, (m.objs.length : Int)), .int .i64 0]) (σ.with (heapAbs h (m.push (.code x y z bs cs)))) :=
  heap_call ha rfl fun μ w cargs bi S hs har h1 h2 h3 _ => by
    obtain ⟨u, rfl, hu2⟩ := args_open h1 h2 har
    obtain ⟨A, c, B, d, rfl, q1, q2⟩ := code_world hs k1 k2 hu2
    exact code_new S bi.blk m x y z A B bs.length c cs.length d bs cs w h3 hn hk q1 q2 hm hf hu
theorem s_codeLarge {x y z : Int} {v1 v2 : Value} {bs : List Int} {cs : List Wd} (k1 : Sl σ 1 v1 (byC bs)) (k2 : Sl σ 2 v2 (wdC cs)) (ha : σ.abs = heapAbs h m) (hn : bs.length ≤ 65536) (hk : cs.length ≤ 65536) (hm : m.many < m.limit) (hf : m.free = []) (hu : 1048576 < m.used + (bs.length + cs.length)) :
    SCall G Tryd.prog 23 #[.pointer (some ⟨h, 0, none⟩), .agg #[.int .i64 x, .int .i64 y, .int .i64 z, v1, v2]] σ (.tuple #[wdV (0, 0), .int .i64 7]) σ := by
  have := heap_call (G := G) (P := Tryd.prog) (f := 23) (args := #[.pointer (some ⟨h, 0, none⟩), .agg #[.int .i64 x, .int .i64 y, .int .i64 z, v1, v2]]) (v := (.tuple #[wdV (0, 0), .int .i64 7])) (m' := m) ha rfl fun μ w cargs bi S hs har h1 h2 h3 _ => by
    obtain ⟨u, rfl, hu2⟩ := args_open h1 h2 har
    obtain ⟨A, c, B, d, rfl, q1, q2⟩ := code_world hs k1 k2 hu2
    exact (code_large S bi.blk m x y z A B bs.length c cs.length d bs cs w h3 hn hk q1 q2 hm hf hu).mono fun e w' ⟨he, hb⟩ => ⟨S, he, h3.below hb, .of_below hb⟩
  rwa [with_same ha] at this
end
end Go.Proofs.YthmfiahmfdadgaaDoor
namespace Go.Proofs.YthmfiahmfdadgaaDoor
open Go.RowKit
set_option maxRecDepth 100000
theorem hmE_noCode {s : ByteArray} {l : List Wd} {i : Nat} {x y z : Int} {bs : List Int} {cs : List Wd} : (hmE s l).objs[i]? ≠ some (some (HObj.code x y z bs cs)) := fun e => by
  have := List.mem_of_getElem? e
  simp [hmE] at this
theorem hmE_texts {s : ByteArray} {l : List Wd} (h : s.size ≤ 1000000000000) : (hmE s l).Texts := fun i t e => by
  have := List.mem_of_getElem? e
  simp [hmE] at this
  rcases this with rfl | rfl
  · exact h
  · decide
set_option maxHeartbeats 8000000 in
theorem stores_wc {G : Nat} {σ0 : Mem} (hG : G ≤ σ0.next) (h16 : 16 ≤ G) (hR : RowsAt rowsU σ0) (hno : σ0.abs = Abs.no) :
    WC G Tryd.prog 28 #[] σ0 fun v _ => v = .bool true := by
  refine WC.enter (fn := Tryd.f28) Tryd.func28 rfl ?_
  refine W.seq ?_
  refine W.region ?_
  refine RW.val (by kernel_rfl) (by kernel_rfl) rfl (by kernel_rfl) ?_
  refine RW.nil ?_
  refine W.reset [(0, .bool false)] ⟨rfl, trivial⟩ fun TA => ?_
  have CN := s_new (G := G) (σ := σ0) 40 (by omega) (by omega) hno
  refine W.seq ?_
  refine W.region ?_
  refine RW.call (by kernel_rfl) (by kernel_rfl) rfl rfl rfl (by kernel_rfl) (by kernel_rfl) ⟨_, _, CN, ?_⟩
  refine RW.val (by kernel_rfl) (by kernel_rfl) rfl (by kernel_rfl) ?_
  refine RW.val (by kernel_rfl) (by kernel_rfl) rfl (by kernel_rfl) ?_
  refine RW.val (by kernel_rfl) (by kernel_rfl) rfl (by kernel_rfl) ?_
  refine RW.val (by kernel_rfl) (by kernel_rfl) rfl (by kernel_rfl) ?_
  refine RW.val (by kernel_rfl) (by kernel_rfl) rfl (by kernel_rfl) ?_
  obtain ⟨σa, hσa⟩ : ∃ Z, Z = σ0.made 40 := ⟨_, rfl⟩
  rw [← hσa]
  have na : σa.next = σ0.next + 1 := by rw [hσa]; rfl
  have ha : σa.abs = heapAbs σ0.next (hmT ⟨#[97]⟩ 0) := by rw [hσa]; rfl
  replace hR : RowsAt rowsU σa := fun g cs hm => by obtain ⟨t, f, e⟩ := hR g cs hm; exact ⟨t, f, by rw [hσa, made_get]; exact e⟩
  have gn : G ≤ σa.next := by omega
  clear hσa CN hno
  refine RW.nil ?_
  refine W.reset [(1, pp σ0.next), (2, .int .i64 0)] ⟨rfl, rfl, trivial⟩ fun TA => ?_
  have CR := s_room (G := G) ha
  rw [hmT_used goodS_a] at CR
  refine W.seq ?_
  refine W.seq ?_
  refine W.region ?_
  refine RW.val (by kernel_rfl) (by kernel_rfl) rfl (by kernel_rfl) ?_
  refine RW.val (by kernel_rfl) (by kernel_rfl) rfl (by kernel_rfl) ?_
  refine RW.val (by kernel_rfl) (by kernel_rfl) rfl (by kernel_rfl) ?_
  refine RW.val (by rfl) (by kernel_rfl) rfl (by kernel_rfl) ?_
  refine RW.val (by rfl) (by kernel_rfl) rfl (by kernel_rfl) ?_
  refine RW.val (by kernel_rfl) (by kernel_rfl) rfl (by kernel_rfl) ?_
  refine RW.val (by kernel_rfl) (by kernel_rfl) rfl (by kernel_rfl) ?_
  refine RW.val (by rfl) (by kernel_rfl) rfl (by kernel_rfl) ?_
  refine RW.call (by rfl) (by kernel_rfl) rfl rfl rfl (by kernel_rfl) (by kernel_rfl) ⟨_, _, CR, ?_⟩
  refine RW.val (by rfl) (by kernel_rfl) rfl (by kernel_rfl) ?_
  refine RW.val (by kernel_rfl) (by kernel_rfl) rfl (by kernel_rfl) ?_
  refine RW.nil ?_
  refine W.cond (b := false) rfl (fun h => by cases h) (fun _ => ?_)
  refine W.skip ?_
  clear CR
  refine W.reset [(1, pp σ0.next)] ⟨rfl, trivial⟩ fun TA => ?_
  refine W.seq ?_
  refine W.region ?_
  refine RW.val (by kernel_rfl) (by kernel_rfl) rfl (by kernel_rfl) ?_
  refine RW.nil ?_
  refine W.reset [(1, pp σ0.next), (3, .string ⟨#[97]⟩)] ⟨rfl, rfl, trivial⟩ fun TA => ?_
  refine W.seq ?_
  refine W.block ?_
  refine W.loop (fun mm ta σ => ∃ (k : Nat) (s : ByteArray), mm + k = 16 ∧ GoodS s (2 ^ k) ∧ σ = σa ∧ ta 1 = pp σ0.next ∧ ta 3 = .string s) 16 ?_ ?_
  · exact ⟨0, ⟨#[97]⟩, rfl, goodS_a, rfl, rfl, rfl⟩
  rintro mm ta σ ⟨k, s, hm, gs, rfl, e1, e3⟩
  refine W.know 1 e1 (W.know 3 e3 (?_))
  have hp : 2 ^ k ≤ 65536 := Nat.pow_le_pow_right (n := 2) (by decide) (show k ≤ 16 by omega)
  refine W.seq ?_
  refine W.seq ?_
  refine W.region ?_
  refine RW.val (by kernel_rfl) (by kernel_rfl) rfl (by kernel_rfl) ?_
  refine RW.vop (by kernel_rfl) (by kernel_rfl) (vop_strLen rfl rfl rfl rfl Tryd.underlying9 rfl) (by kernel_rfl) ?_
  refine RW.val (by kernel_rfl) (by kernel_rfl) rfl (by kernel_rfl) ?_
  refine RW.nil ?_
  refine W.cond rfl (fun hh => ?_) (fun hh => ?_)
  · have hk : k < 16 := by
      have h1 := of_decide_eq_true hh
      rw [gs.size] at h1
      rcases Nat.lt_or_ge k 16 with h | h
      · exact h
      · have : k = 16 := by omega
        subst this
        exact absurd h1 (by decide)
    refine W.skip ?_
    refine W.block ?_
    refine W.region ?_
    refine RW.val (by kernel_rfl) (by kernel_rfl) rfl (by kernel_rfl) ?_
    refine RW.val (by kernel_rfl) (by kernel_rfl) rfl (by kernel_rfl) ?_
    refine RW.vop (by kernel_rfl) (by kernel_rfl) (vop_strAdd rfl rfl rfl (by rw [gs.size]; omega)) (by kernel_rfl) ?_
    refine RW.val (by kernel_rfl) (by kernel_rfl) rfl (by kernel_rfl) ?_
    refine RW.nil ?_
    refine ⟨rfl, mm - 1, by omega, k + 1, _, by omega, by rw [Nat.pow_succ, Nat.mul_two]; exact gs.dbl, rfl, rfl, rfl⟩
  have hk : k = 16 := by
    have h1 := of_decide_eq_false hh
    rw [gs.size] at h1
    rcases Nat.lt_or_ge k 16 with h | h
    · have h2 : 2 ^ k ≤ 2 ^ 15 := Nat.pow_le_pow_right (by decide) (by omega)
      exfalso
      exact h1 (by have : (2 : Nat) ^ 15 = 32768 := by decide
                   omega)
    · omega
  subst hk
  refine W.exit _ ?_
  replace gs : GoodS s 65536 := gs
  clear hh hp hm e1 e3
  have hsz : s.size ≤ 1000000000000 := by rw [gs.size]; decide
  refine W.reset [(1, pp σ0.next), (3, .string s)] ⟨rfl, rfl, trivial⟩ fun TA => ?_
  refine W.seq ?_
  refine W.seq ?_
  refine W.region ?_
  refine RW.val (by kernel_rfl) (by kernel_rfl) rfl (by kernel_rfl) ?_
  refine RW.nil ?_
  refine W.reset [(1, pp σ0.next), (3, .string s), (4, .int .i64 0)] ⟨rfl, rfl, rfl, trivial⟩ fun TA => ?_
  refine W.block ?_
  refine W.loop (fun mm ta τ => ∃ i : Nat, mm + i = 15 ∧ (∀ b y, σ.get b = some y → τ.get b = some y) ∧ σ.next ≤ τ.next ∧ τ.abs = heapAbs σ0.next (hmT s i) ∧ ta 1 = pp σ0.next ∧ ta 3 = .string s ∧ ta 4 = .int .i64 (i : Int)) 15 ?_ ?_
  · exact ⟨0, rfl, fun _ _ h => h, Nat.le_refl _, ha, rfl, rfl, rfl⟩
  rintro mm ta τ ⟨i, hm, ho, hnx, hab, e1, e3, e4⟩
  refine W.know 1 e1 (W.know 3 e3 (W.know 4 e4 (?_)))
  refine W.seq ?_
  refine W.seq ?_
  refine W.region ?_
  refine RW.val (by kernel_rfl) (by kernel_rfl) rfl (by kernel_rfl) ?_
  refine RW.val (by kernel_rfl) (by kernel_rfl) rfl (by kernel_rfl) ?_
  refine RW.nil ?_
  refine W.cond rfl (fun hh => ?_) (fun hh => ?_)
  · have hi : i < 15 := by have := of_decide_eq_true hh; omega
    have gt : G ≤ τ.next := by omega
    have hT : RowsAt rowsU τ := fun g cs hm => by obtain ⟨t, f, e⟩ := hR g cs hm; exact ⟨t, f, ho _ _ e⟩
    have CT := s_text (G := G) (s := s) hT h16 hab hsz gs.ok (by rw [gs.len]; decide) (by rw [hmT_many]; show i < 40; omega) rfl (by rw [hmT_used gs, gs.len]; omega)
    rw [hmT_len, hmT_succ] at CT
    refine W.skip ?_
    refine W.seq ?_
    refine W.block ?_
    refine W.seq ?_
    refine W.region ?_
    refine RW.val (by kernel_rfl) (by kernel_rfl) rfl (by kernel_rfl) ?_
    refine RW.val (by kernel_rfl) (by kernel_rfl) rfl (by kernel_rfl) ?_
    refine RW.call (by kernel_rfl) (by kernel_rfl) rfl rfl rfl (by kernel_rfl) (by kernel_rfl) ⟨_, _, CT, ?_⟩
    refine RW.val (by kernel_rfl) (by kernel_rfl) rfl (by kernel_rfl) ?_
    refine RW.val (by kernel_rfl) (by kernel_rfl) rfl (by kernel_rfl) ?_
    refine RW.val (by kernel_rfl) (by kernel_rfl) rfl (by kernel_rfl) ?_
    have nw : (τ.with (heapAbs σ0.next (hmT s (i + 1)))).next = τ.next := rfl
    refine RW.varS (d := 5) (r0 := ⟨[.int .i64 0, .int .i64 0], 24, false⟩) (vs := #[.int .i64 ((3, (i : Int)) : Wd).1, .int .i64 ((3, (i : Int)) : Wd).2]) (by kernel_rfl) (by kernel_rfl) (by kernel_rfl) rfl (by kernel_rfl) rfl (by kernel_rfl) rfl rfl rfl rfl (by kernel_rfl) rfl (by show G ≤ τ.next; exact gt) ?_
    intro σ1 _ r5 o1 n1 a1
    refine RW.val (by kernel_rfl) (by kernel_rfl) rfl (by kernel_rfl) ?_
    refine RW.nil ?_
    rw [nw] at r5 n1
    clear CT r5
    replace ho : ∀ b y, σ.get b = some y → σ1.get b = some y := fun b y hy => o1 b y (ho b y hy)
    replace hab : σ1.abs = heapAbs σ0.next (hmT s (i + 1)) := a1
    clear o1 a1
    refine W.reset [(1, pp σ0.next), (3, .string s), (4, .int .i64 (i : Int)), (6, .int .i64 0)] ⟨rfl, rfl, rfl, rfl, trivial⟩ fun TB => ?_
    refine W.seq ?_
    refine W.region ?_
    refine RW.val (by kernel_rfl) (by kernel_rfl) rfl (by kernel_rfl) ?_
    refine RW.val (by kernel_rfl) (by kernel_rfl) rfl (by kernel_rfl) ?_
    refine RW.nil ?_
    refine W.cond (b := false) rfl (fun h => by cases h) (fun _ => ?_)
    refine W.skip ?_
    refine W.region ?_
    refine RW.val (by kernel_rfl) (by kernel_rfl) rfl (by kernel_rfl) ?_
    refine RW.valE (by kernel_rfl) (by kernel_rfl) rfl (congrArg (Value.int .i64) (wrap_in (by omega) (by omega))) (by kernel_rfl) ?_
    refine RW.val (by kernel_rfl) (by kernel_rfl) rfl (by kernel_rfl) ?_
    refine RW.nil ?_
    exact ⟨rfl, mm - 1, by omega, i + 1, by omega, ho, by omega, hab, rfl, rfl, rfl⟩
  have hi : i = 15 := by have := of_decide_eq_false hh; omega
  subst hi
  refine W.exit _ ?_
  replace hR : RowsAt rowsU τ := fun g cs hm => by obtain ⟨t, f, e⟩ := hR g cs hm; exact ⟨t, f, ho _ _ e⟩
  have gn : G ≤ τ.next := by omega
  have ha := hab
  clear ho hnx hab hm hh e1 e3 e4
  refine W.reset [(1, pp σ0.next)] ⟨rfl, trivial⟩ fun TA => ?_
  refine W.seq ?_
  refine W.region ?_
  refine RW.val (by kernel_rfl) (by kernel_rfl) rfl (by kernel_rfl) ?_
  obtain ⟨n, hn⟩ : ∃ n : Nat, n = 65536 := ⟨_, rfl⟩
  obtain ⟨l, hl⟩ : ∃ l : List Wd, l = List.replicate n (0, 0) := ⟨_, rfl⟩
  have hll : l.length = n := by rw [hl, List.length_replicate]
  refine RW.makeG (x := .row ⟨wdC l, 24, false⟩) (fm := fun b => .slice (some ⟨b, 0, none⟩) n n) (by kernel_rfl) (by kernel_rfl) (by rw [hl]; exact makeSlice_wd n (by omega) rfl (by rw [hn]; rfl) (by rw [hn]; rfl)) (by kernel_rfl) ?_; intro σm _ gm Gm nm
  have K : ∀ b y, τ.get b = some y → σm.get b = some y := Gm.old
  replace hR : RowsAt rowsU σm := fun g cs hm => by obtain ⟨t, f, e⟩ := hR g cs hm; exact ⟨t, f, K _ _ e⟩
  replace gn : G ≤ σm.next := by omega
  replace ha := Gm.abs.trans ha
  clear K
  have hsl : Sl σm 2 (.slice (some ⟨τ.next, 0, none⟩) n n) (wdC l) := by
    have h1 : (wdC l).length = n * 2 := by rw [wdC_length, hll]
    exact .some gm h1 (fun i x hi => by simpa using hi)
  have CV := s_vec (G := G) hsl ha (by rw [hll, hn]; decide) (by rw [hmT_many]; show 15 < 40; decide) rfl (by rw [hmT_used gs, hll, hn]; decide)
  rw [hmT_len, hmV_is] at CV
  refine RW.call (by kernel_rfl) (by kernel_rfl) rfl rfl rfl (by kernel_rfl) (by kernel_rfl) ⟨_, _, CV, ?_⟩
  refine RW.val (by kernel_rfl) (by kernel_rfl) rfl (by kernel_rfl) ?_
  refine RW.val (by kernel_rfl) (by kernel_rfl) rfl (by kernel_rfl) ?_
  refine RW.val (by kernel_rfl) (by kernel_rfl) rfl (by kernel_rfl) ?_
  obtain ⟨σs1, hs⟩ : ∃ Z, Z = σm.with (heapAbs σ0.next (hmV s l)) := ⟨_, rfl⟩
  rw [← hs]
  have ns : σs1.next = σm.next := by rw [hs]; rfl
  have K : ∀ b y, σm.get b = some y → σs1.get b = some y := fun b y hy => by rw [hs, with_get]; exact hy
  replace hR : RowsAt rowsU σs1 := fun g cs hm => by obtain ⟨t, f, e⟩ := hR g cs hm; exact ⟨t, f, K _ _ e⟩
  replace gn : G ≤ σs1.next := by omega
  replace ha := (show σs1.abs = heapAbs σ0.next (hmV s l) by rw [hs]; rfl)
  clear K
  clear hs
  refine RW.varS (d := 7) (r0 := ⟨[.int .i64 0, .int .i64 0], 24, false⟩) (vs := #[.int .i64 ((4, 15) : Wd).1, .int .i64 ((4, 15) : Wd).2]) (by kernel_rfl) (by kernel_rfl) (by kernel_rfl) rfl (by kernel_rfl) rfl (by kernel_rfl) rfl rfl rfl rfl (by kernel_rfl) rfl (by omega) ?_
  intro σq2 _ r7 oq nq aq
  have K : ∀ b y, σs1.get b = some y → σq2.get b = some y := oq
  replace hR : RowsAt rowsU σq2 := fun g cs hm => by obtain ⟨t, f, e⟩ := hR g cs hm; exact ⟨t, f, K _ _ e⟩
  replace gn : G ≤ σq2.next := by omega
  replace ha := aq.trans ha
  clear K
  clear oq nq aq
  refine RW.val (by kernel_rfl) (by kernel_rfl) rfl (by kernel_rfl) ?_
  clear CV hsl gm Gm nm ns
  refine RW.nil ?_
  refine W.reset [(1, pp σ0.next), (7, pp σs1.next), (8, .int .i64 0)] ⟨rfl, rfl, rfl, trivial⟩ fun TA => ?_
  have hu := hmV_used (l := l) gs
  rw [hll, hn] at hu
  have CL := s_textLarge (G := G) (s := ⟨#[195, 169]⟩) hR h16 ha (by decide) (by decide) (by decide) (hmV_lt s l) rfl (by rw [hu]; decide)
  refine W.seq ?_
  refine W.region ?_
  refine RW.val (by kernel_rfl) (by kernel_rfl) rfl (by kernel_rfl) ?_
  refine RW.call (by kernel_rfl) (by kernel_rfl) rfl rfl rfl (by kernel_rfl) (by kernel_rfl) ⟨_, _, CL, ?_⟩
  refine RW.val (by kernel_rfl) (by kernel_rfl) rfl (by kernel_rfl) ?_
  refine RW.val (by kernel_rfl) (by kernel_rfl) rfl (by kernel_rfl) ?_
  refine RW.val (by kernel_rfl) (by kernel_rfl) rfl (by kernel_rfl) ?_
  refine RW.varS (d := 9) (r0 := ⟨[.int .i64 0, .int .i64 0], 24, false⟩) (vs := #[.int .i64 ((0, 0) : Wd).1, .int .i64 ((0, 0) : Wd).2]) (by kernel_rfl) (by kernel_rfl) (by kernel_rfl) rfl (by kernel_rfl) rfl (by kernel_rfl) rfl rfl rfl rfl (by kernel_rfl) rfl (by omega) ?_
  intro σq3 _ r9 oq nq aq
  have K : ∀ b y, σq2.get b = some y → σq3.get b = some y := oq
  replace r7 := K _ _ r7
  replace hR : RowsAt rowsU σq3 := fun g cs hm => by obtain ⟨t, f, e⟩ := hR g cs hm; exact ⟨t, f, K _ _ e⟩
  replace gn : G ≤ σq3.next := by omega
  replace ha := aq.trans ha
  clear K
  clear oq nq aq
  refine RW.val (by kernel_rfl) (by kernel_rfl) rfl (by kernel_rfl) ?_
  clear r9
  clear CL
  refine RW.nil ?_
  refine W.reset [(1, pp σ0.next), (7, pp σs1.next), (8, .int .i64 0), (10, .int .i64 7)] ⟨rfl, rfl, rfl, rfl, trivial⟩ fun TA => ?_
  refine W.seq ?_
  refine W.region ?_
  refine RW.val (by kernel_rfl) (by kernel_rfl) rfl (by kernel_rfl) ?_
  have np : ∃ k, σq3.next = k := ⟨_, rfl⟩
  obtain ⟨k15, hk15⟩ := np
  refine RW.makeG (x := .row ⟨wdC [((0, 0) : Wd)], 24, false⟩) (fm := fun b => .slice (some ⟨b, 0, none⟩) 1 1) (by kernel_rfl) (by kernel_rfl) (by kernel_rfl) (by kernel_rfl) ?_; intro σn _ gm Gm nm
  have K : ∀ b y, σq3.get b = some y → σn.get b = some y := Gm.old
  replace r7 := K _ _ r7
  replace hR : RowsAt rowsU σn := fun g cs hm => by obtain ⟨t, f, e⟩ := hR g cs hm; exact ⟨t, f, K _ _ e⟩
  replace gn : G ≤ σn.next := by omega
  replace ha := Gm.abs.trans ha
  clear K
  have hsl : Sl σn 2 (.slice (some ⟨σq3.next, 0, none⟩) 1 1) (wdC [((0, 0) : Wd)]) := .some gm rfl (fun i x hi => by simpa using hi)
  have CV := s_vecLarge (G := G) hsl ha (by decide) (hmV_lt s l) rfl (by rw [hu]; decide)
  refine RW.call (by kernel_rfl) (by kernel_rfl) rfl rfl rfl (by kernel_rfl) (by kernel_rfl) ⟨_, _, CV, ?_⟩
  refine RW.val (by kernel_rfl) (by kernel_rfl) rfl (by kernel_rfl) ?_
  refine RW.val (by kernel_rfl) (by kernel_rfl) rfl (by kernel_rfl) ?_
  refine RW.val (by kernel_rfl) (by kernel_rfl) rfl (by kernel_rfl) ?_
  refine RW.varS (d := 11) (r0 := ⟨[.int .i64 0, .int .i64 0], 24, false⟩) (vs := #[.int .i64 ((0, 0) : Wd).1, .int .i64 ((0, 0) : Wd).2]) (by kernel_rfl) (by kernel_rfl) (by kernel_rfl) rfl (by kernel_rfl) rfl (by kernel_rfl) rfl rfl rfl rfl (by kernel_rfl) rfl (by omega) ?_
  intro σq4 _ r11 oq nq aq
  have K : ∀ b y, σn.get b = some y → σq4.get b = some y := oq
  replace r7 := K _ _ r7
  replace hR : RowsAt rowsU σq4 := fun g cs hm => by obtain ⟨t, f, e⟩ := hR g cs hm; exact ⟨t, f, K _ _ e⟩
  replace gn : G ≤ σq4.next := by omega
  replace ha := aq.trans ha
  clear K
  clear oq nq aq
  refine RW.val (by kernel_rfl) (by kernel_rfl) rfl (by kernel_rfl) ?_
  clear r11
  clear CV hsl gm Gm nm hk15
  refine RW.nil ?_
  refine W.reset [(1, pp σ0.next), (7, pp σs1.next), (8, .int .i64 0), (10, .int .i64 7), (12, .int .i64 7)] ⟨rfl, rfl, rfl, rfl, rfl, trivial⟩ fun TA => ?_
  refine W.seq ?_
  refine W.region ?_
  refine RW.val (by kernel_rfl) (by kernel_rfl) rfl (by kernel_rfl) ?_
  refine RW.makeG (x := .row ⟨byC [1], 5, false⟩) (fm := fun b => .slice (some ⟨b, 0, none⟩) 1 1) (by kernel_rfl) (by kernel_rfl) (by kernel_rfl) (by kernel_rfl) ?_; intro σc _ gm Gm nm
  have K : ∀ b y, σq4.get b = some y → σc.get b = some y := Gm.old
  replace r7 := K _ _ r7
  replace hR : RowsAt rowsU σc := fun g cs hm => by obtain ⟨t, f, e⟩ := hR g cs hm; exact ⟨t, f, K _ _ e⟩
  replace gn : G ≤ σc.next := by omega
  replace ha := Gm.abs.trans ha
  clear K
  refine RW.val (v := .agg #[.int .i64 0, .int .i64 0, .int .i64 0, .slice (some ⟨σq4.next, 0, none⟩) 1 1, .slice none 0 0]) (by kernel_rfl) (by kernel_rfl) (by kernel_rfl) (by kernel_rfl) ?_
  have hsl : Sl σc 1 (.slice (some ⟨σq4.next, 0, none⟩) 1 1) (byC [1]) := .some gm rfl (fun i x hi => by simpa using hi)
  have CV := s_codeLarge (G := G) (x := 0) (y := 0) (z := 0) (cs := []) hsl .nil ha (by decide) (by decide) (hmV_lt s l) rfl (by rw [hu]; decide)
  refine RW.call (by kernel_rfl) (by kernel_rfl) rfl rfl rfl (by kernel_rfl) (by kernel_rfl) ⟨_, _, CV, ?_⟩
  refine RW.val (by kernel_rfl) (by kernel_rfl) rfl (by kernel_rfl) ?_
  refine RW.val (by kernel_rfl) (by kernel_rfl) rfl (by kernel_rfl) ?_
  refine RW.val (by kernel_rfl) (by kernel_rfl) rfl (by kernel_rfl) ?_
  refine RW.varS (d := 13) (r0 := ⟨[.int .i64 0, .int .i64 0], 24, false⟩) (vs := #[.int .i64 ((0, 0) : Wd).1, .int .i64 ((0, 0) : Wd).2]) (by kernel_rfl) (by kernel_rfl) (by kernel_rfl) rfl (by kernel_rfl) rfl (by kernel_rfl) rfl rfl rfl rfl (by kernel_rfl) rfl (by omega) ?_
  intro σq5 _ r13 oq nq aq
  have K : ∀ b y, σc.get b = some y → σq5.get b = some y := oq
  replace r7 := K _ _ r7
  replace hR : RowsAt rowsU σq5 := fun g cs hm => by obtain ⟨t, f, e⟩ := hR g cs hm; exact ⟨t, f, K _ _ e⟩
  replace gn : G ≤ σq5.next := by omega
  replace ha := aq.trans ha
  clear K
  clear oq nq aq
  refine RW.val (by kernel_rfl) (by kernel_rfl) rfl (by kernel_rfl) ?_
  clear r13
  clear CV hsl gm Gm nm
  refine RW.nil ?_
  refine W.reset [(1, pp σ0.next), (7, pp σs1.next), (8, .int .i64 0), (10, .int .i64 7), (12, .int .i64 7), (14, .int .i64 7)] ⟨rfl, rfl, rfl, rfl, rfl, rfl, trivial⟩ fun TA => ?_
  have CT := s_text (G := G) (s := ByteArray.empty) hR h16 ha (by decide) (by decide) (by decide) (hmV_lt s l) rfl (by rw [hu]; decide)
  rw [hmE_is] at CT
  refine W.seq ?_
  refine W.region ?_
  refine RW.val (by kernel_rfl) (by kernel_rfl) rfl (by kernel_rfl) ?_
  refine RW.call (by kernel_rfl) (by kernel_rfl) rfl rfl rfl (by kernel_rfl) (by kernel_rfl) ⟨_, _, CT, ?_⟩
  refine RW.val (by kernel_rfl) (by kernel_rfl) rfl (by kernel_rfl) ?_
  refine RW.val (by kernel_rfl) (by kernel_rfl) rfl (by kernel_rfl) ?_
  refine RW.val (by kernel_rfl) (by kernel_rfl) rfl (by kernel_rfl) ?_
  obtain ⟨σs6, hs⟩ : ∃ Z, Z = σq5.with (heapAbs σ0.next (hmE s l)) := ⟨_, rfl⟩
  rw [← hs]
  have ns : σs6.next = σq5.next := by rw [hs]; rfl
  have K : ∀ b y, σq5.get b = some y → σs6.get b = some y := fun b y hy => by rw [hs, with_get]; exact hy
  replace r7 := K _ _ r7
  replace hR : RowsAt rowsU σs6 := fun g cs hm => by obtain ⟨t, f, e⟩ := hR g cs hm; exact ⟨t, f, K _ _ e⟩
  replace gn : G ≤ σs6.next := by omega
  replace ha := (show σs6.abs = heapAbs σ0.next (hmE s l) by rw [hs]; rfl)
  clear K
  clear hs
  refine RW.varS (d := 15) (r0 := ⟨[.int .i64 0, .int .i64 0], 24, false⟩) (vs := #[.int .i64 ((3, 16) : Wd).1, .int .i64 ((3, 16) : Wd).2]) (by kernel_rfl) (by kernel_rfl) (by kernel_rfl) rfl (by kernel_rfl) rfl (by kernel_rfl) rfl rfl rfl rfl (by kernel_rfl) rfl (by omega) ?_
  intro σq7 _ r15 oq nq aq
  have K : ∀ b y, σs6.get b = some y → σq7.get b = some y := oq
  replace r7 := K _ _ r7
  replace hR : RowsAt rowsU σq7 := fun g cs hm => by obtain ⟨t, f, e⟩ := hR g cs hm; exact ⟨t, f, K _ _ e⟩
  replace gn : G ≤ σq7.next := by omega
  replace ha := aq.trans ha
  clear K
  clear oq nq aq
  refine RW.val (by kernel_rfl) (by kernel_rfl) rfl (by kernel_rfl) ?_
  clear r15
  clear CT ns hu
  refine RW.nil ?_
  refine W.reset [(1, pp σ0.next), (7, pp σs1.next), (8, .int .i64 0), (10, .int .i64 7), (12, .int .i64 7), (14, .int .i64 7), (16, .int .i64 0)] ⟨rfl, rfl, rfl, rfl, rfl, rfl, rfl, trivial⟩ fun TA => ?_
  have hu := hmE_used (l := l) gs
  rw [hll, hn] at hu
  have CR := s_room (G := G) ha
  rw [hu] at CR
  refine W.seq ?_
  refine W.region ?_
  refine RW.val (by kernel_rfl) (by kernel_rfl) rfl (by kernel_rfl) ?_
  refine RW.call (by kernel_rfl) (by kernel_rfl) rfl rfl rfl (by kernel_rfl) (by kernel_rfl) ⟨_, _, CR, ?_⟩
  refine RW.val (by kernel_rfl) (by kernel_rfl) rfl (by kernel_rfl) ?_
  refine RW.val (by kernel_rfl) (by kernel_rfl) rfl (by kernel_rfl) ?_
  refine RW.val (by rfl) (by kernel_rfl) rfl (by kernel_rfl) ?_
  refine RW.val (by rfl) (by kernel_rfl) rfl (by kernel_rfl) ?_
  refine RW.val (by kernel_rfl) (by kernel_rfl) rfl (by kernel_rfl) ?_
  refine RW.val (by kernel_rfl) (by kernel_rfl) rfl (by kernel_rfl) ?_
  refine RW.val (by rfl) (by kernel_rfl) rfl (by kernel_rfl) ?_
  refine RW.val (by rfl) (by kernel_rfl) rfl (by kernel_rfl) ?_
  refine RW.val (by kernel_rfl) (by kernel_rfl) rfl (by kernel_rfl) ?_
  refine RW.val (by kernel_rfl) (by kernel_rfl) rfl (by kernel_rfl) ?_
  refine RW.val (by rfl) (by kernel_rfl) rfl (by kernel_rfl) ?_
  refine RW.val (by rfl) (by kernel_rfl) rfl (by kernel_rfl) ?_
  refine RW.val (by kernel_rfl) (by kernel_rfl) rfl (by kernel_rfl) ?_
  refine RW.val (by kernel_rfl) (by kernel_rfl) rfl (by kernel_rfl) ?_
  refine RW.val (by rfl) (by kernel_rfl) rfl (by kernel_rfl) ?_
  refine RW.val (by rfl) (by kernel_rfl) rfl (by kernel_rfl) ?_
  refine RW.val (by kernel_rfl) (by kernel_rfl) rfl (by kernel_rfl) ?_
  refine RW.val (by kernel_rfl) (by kernel_rfl) rfl (by kernel_rfl) ?_
  refine RW.val (by rfl) (by kernel_rfl) rfl (by kernel_rfl) ?_
  refine RW.val (by rfl) (by kernel_rfl) rfl (by kernel_rfl) ?_
  refine RW.val (by kernel_rfl) (by kernel_rfl) rfl (by kernel_rfl) ?_
  refine RW.val (by kernel_rfl) (by kernel_rfl) rfl (by kernel_rfl) ?_
  refine RW.nil ?_
  refine W.reset [(1, pp σ0.next), (7, pp σs1.next), (17, .bool true)] ⟨rfl, rfl, rfl, trivial⟩ fun TA => ?_
  have CP := s_copy (G := G) ha rfl (by intro i x y z bs cs; exact hmE_noCode)
  obtain ⟨σp, hσp⟩ : ∃ Z, Z = σq7.also (heapAbs2 σ0.next (hmE s l) σq7.next (hmE s l)) := ⟨_, rfl⟩
  have ap : σp.abs = heapAbs2 σ0.next (hmE s l) σq7.next (hmE s l) := by rw [hσp]; rfl
  have C2 := s_room2 (G := G) ap
  rw [hu] at C2
  obtain ⟨σr, hσr⟩ : ∃ Z, Z = σp.with (heapAbs σ0.next (hmE s l)) := ⟨_, rfl⟩
  rw [← hσr] at C2
  rw [← hσp] at CP
  have nr : σr.next = σq7.next + 1 := by rw [hσr, hσp]; rfl
  refine W.seq ?_
  refine W.region ?_
  refine RW.val (by kernel_rfl) (by kernel_rfl) rfl (by kernel_rfl) ?_
  refine RW.val (by kernel_rfl) (by kernel_rfl) rfl (by kernel_rfl) ?_
  refine RW.val (by rfl) (by kernel_rfl) rfl (by kernel_rfl) ?_
  refine RW.call (by rfl) (by kernel_rfl) rfl rfl rfl (by kernel_rfl) (by kernel_rfl) ⟨_, _, CP, ?_⟩
  refine RW.call (by rfl) (by kernel_rfl) rfl rfl rfl (by kernel_rfl) (by kernel_rfl) ⟨_, _, C2, ?_⟩
  refine RW.val (by rfl) (by kernel_rfl) rfl (by kernel_rfl) ?_
  refine RW.val (by kernel_rfl) (by kernel_rfl) rfl (by kernel_rfl) ?_
  refine RW.val (by kernel_rfl) (by kernel_rfl) rfl (by kernel_rfl) ?_
  have K : ∀ b y, σq7.get b = some y → σr.get b = some y := fun b y hy => by rw [hσr, with_get, hσp, also_get]; exact hy
  replace r7 := K _ _ r7
  replace hR : RowsAt rowsU σr := fun g cs hm => by obtain ⟨t, f, e⟩ := hR g cs hm; exact ⟨t, f, K _ _ e⟩
  replace gn : G ≤ σr.next := by omega
  replace ha := (show σr.abs = heapAbs σ0.next (hmE s l) by rw [hσr]; rfl)
  clear K
  clear hσr hσp ap C2 CP
  refine RW.val (by rfl) (by kernel_rfl) rfl (by kernel_rfl) ?_
  refine RW.loads 2 (by rfl) (by kernel_rfl) rfl rfl r7 rfl rfl (by kernel_rfl) ?_
  refine RW.makeG (x := .row ⟨wdC [((4, 15) : Wd)], 24, false⟩) (fm := fun b => .slice (some ⟨b, 0, none⟩) 1 1) (by kernel_rfl) (by kernel_rfl) (by kernel_rfl) (by kernel_rfl) ?_; intro σw _ gm Gm nm
  have K : ∀ b y, σr.get b = some y → σw.get b = some y := Gm.old
  replace r7 := K _ _ r7
  replace hR : RowsAt rowsU σw := fun g cs hm => by obtain ⟨t, f, e⟩ := hR g cs hm; exact ⟨t, f, K _ _ e⟩
  replace gn : G ≤ σw.next := by omega
  replace ha := Gm.abs.trans ha
  clear K
  have hsl : Sl σw 2 (.slice (some ⟨σr.next, 0, none⟩) 1 1) (wdC [((4, 15) : Wd)]) := .some gm rfl (fun i x hi => by simpa using hi)
  have CC := s_collect (G := G) _ [((4, 15) : Wd)] mkE hsl ha (by rw [hl]; exact fun M' hM => marksE hM) (by decide) hR h16 (hmE_texts hsz)
  rw [goneE] at CC
  refine RW.call (by rfl) (by kernel_rfl) rfl rfl rfl (by kernel_rfl) (by kernel_rfl) ⟨_, _, CC, ?_⟩
  refine RW.val (by rfl) (by kernel_rfl) rfl (by kernel_rfl) ?_
  refine RW.val (by kernel_rfl) (by kernel_rfl) rfl (by kernel_rfl) ?_
  refine RW.val (by kernel_rfl) (by kernel_rfl) rfl (by kernel_rfl) ?_
  have CZ := s_room (G := G) (σ := σw.with (heapAbs σ0.next ((hmE s l).swept mkE))) rfl
  rw [sweptE, hll, hn] at CZ
  refine RW.val (by rfl) (by kernel_rfl) rfl (by kernel_rfl) ?_
  refine RW.call (by rfl) (by kernel_rfl) rfl rfl rfl (by kernel_rfl) (by kernel_rfl) ⟨_, _, CZ, ?_⟩
  refine RW.val (by rfl) (by kernel_rfl) rfl (by kernel_rfl) ?_
  refine RW.val (by kernel_rfl) (by kernel_rfl) rfl (by kernel_rfl) ?_
  refine RW.val (by kernel_rfl) (by kernel_rfl) rfl (by kernel_rfl) ?_
  refine RW.nil ?_
  refine W.ret ?_
  exact endG (R := fun v _ => v = Value.bool true) rfl (resL_tmp rfl) rfl
end Go.Proofs.YthmfiahmfdadgaaDoor
namespace Go.Proofs.YthmfiahmfdadgaaDoor
open Go.RowKit
set_option maxRecDepth 100000
/-- A call that leaves all alone where the tables lie. -/
theorem tab_callN {P : Program} {G : Nat} {f : FuncId} {args : Array Value} {v : Value} {σ : Mem} (hR : RowsAt rowsU σ) (h16 : 16 ≤ G) (hl : args.toList.all (closedV 3) = true) (hv : closedV 3 v = true)
    (hc : ∀ w, Tabs w → Calls P f args w fun e w' => e = .returned v ∧ Below w.heap.size w w') : SCall G P f args σ v σ := by
  refine ⟨Nat.le_refl _, fun μ w cargs hs hGn hf har => ?_⟩
  have hT : Tabs w := tabs_of_rows (rows_lie hs (fun g cs hm => Nat.lt_of_lt_of_le (rowsU_low g cs hm) h16) (fun g cs hm => Nat.lt_of_lt_of_le (rowsU_low g cs hm) (by decide)) rowsU_flat hR)
  have hz : cargs = args := by
    apply Array.ext
    · exact har.1.symm
    · intro i h1 h2
      exact closedV_eq 3 _ _ (List.all_eq_true.1 hl _ (by simp)) (har.2 i args[i] cargs[i] (by simp [h2]) (by simp [h1]))
  subst hz
  refine (hc w hT).mono ?_
  rintro e w' ⟨rfl, hb⟩
  have own2 := OwnOk.same (G := G) (σ := σ) (μ := μ) (w := w) (w' := w') (σ' := σ) rfl (Ext.refl μ) rfl hb.size (fun B hB _ => hb.block B hB) fun c z ci hz hc => .inr ⟨c, z, ci, hz, hc, rfl⟩
  exact ⟨v, μ, rfl, ⟨Nat.le_refl _, fun b h1 h2 => absurd h1 (by omega), fun _ _ => rfl, ⟨hs.glob, fun b x bi hx hm => (hs.blk b x bi hx hm).keep (hb.block _ (hs.blk b x bi hx hm).lt) (Ext.refl _), hs.inj, hs.rw_, own2 hs.abs⟩, hb.size, hb.os, hb.tape, hb.output, fun b x bi hb' hx _ => absurd (Mem.lt hx) (by omega), fun _ x _ h => ⟨x, h⟩, hGn, own_id, fun B hB _ _ => hb.block B hB⟩, closedV_rel _ 3 v hv⟩
theorem stores_any (w : World) (hT : Tabs w) : Calls Tryd.prog 28 #[] w fun e w' => e = .returned (.bool true) ∧ Below w.heap.size w w' := by
  have h64 : ∀ g cs, (g, cs) ∈ rowsU → g < 64 := fun g cs hm => Nat.lt_of_lt_of_le (rowsU_low g cs hm) (by decide)
  have hnd : (rowsU.map (·.1)).Nodup := by unfold rowsU; simp
  obtain ⟨v, σ', hS, rfl⟩ := stores_wc (G := 64) (σ0 := argMem rowsU []) (Nat.le_refl _) (by decide) (argMem_tab hnd h64) rfl
  exact arg_calls (rows := []) (rowsU_lie hT) h64 (fun k r hr => by simp at hr) ⟨rfl, fun i y y' h1 h2 => by simp at h1⟩ hS rfl
section
variable {G : Nat} {σ : Mem} {h : Nat} {m : HM}
theorem s_new0 : SCall G Tryd.prog 9 #[.int .i64 0] σ (.tuple #[.pointer none, .int .i64 3]) σ :=
  closed_scall (G := 16) (n := 200) (K := noK []) (args := [.int .i64 0]) noK_right (by kernel_rfl) rfl rfl (fun _ _ h => by cases h) (fun _ _ h => by cases h) (fun _ _ h => by cases h) σ (fun _ _ h => by cases h)
theorem s_consNil : SCall G Tryd.prog 12 #[.pointer none, wdV (1, 0), wdV (1, 0)] σ (.tuple #[wdV (0, 0), .int .i64 1]) σ :=
  closed_scall (G := 16) (n := 200) (K := noK []) (args := [.pointer none, wdV (1, 0), wdV (1, 0)]) noK_right (by kernel_rfl) rfl rfl (fun _ _ h => by cases h) (fun _ _ h => by cases h) (fun _ _ h => by cases h) σ (fun _ _ h => by cases h)
theorem s_manyNil : SCall G Tryd.prog 26 #[.pointer none] σ (.int .i64 0) σ :=
  closed_scall (G := 16) (n := 200) (K := noK []) (args := [.pointer none]) noK_right (by kernel_rfl) rfl rfl (fun _ _ h => by cases h) (fun _ _ h => by cases h) (fun _ _ h => by cases h) σ (fun _ _ h => by cases h)
theorem s_roomNil : SCall G Tryd.prog 29 #[.pointer none] σ (.int .i64 0) σ :=
  closed_scall (G := 16) (n := 200) (K := noK []) (args := [.pointer none]) noK_right (by kernel_rfl) rfl rfl (fun _ _ h => by cases h) (fun _ _ h => by cases h) (fun _ _ h => by cases h) σ (fun _ _ h => by cases h)
theorem s_copyNil : SCall G Tryd.prog 30 #[.pointer none] σ (.pointer none) σ :=
  closed_scall (G := 16) (n := 200) (K := noK []) (args := [.pointer none]) noK_right (by kernel_rfl) rfl rfl (fun _ _ h => by cases h) (fun _ _ h => by cases h) (fun _ _ h => by cases h) σ (fun _ _ h => by cases h)
theorem s_setCar (x y : Wd) (ha : σ.abs = heapAbs h m) : SCall G Tryd.prog 32 #[.pointer (some ⟨h, 0, none⟩), wdV x, wdV y] σ (.int .i64 (m.setCar x y).2) (σ.with (heapAbs h (m.setCar x y).1)) :=
  heap_call ha rfl fun μ w cargs bi S _ har h1 h2 h3 _ => by
    have : cargs = _ := args_heap (l := [wdV x, wdV y]) h1 h2 rfl har
    rw [this]
    exact (setCar_heap S bi.blk m x y w h3).mono fun e w' ⟨k1, k2, k3⟩ => ⟨S, k1, k2, k3⟩
theorem s_textBad {s : ByteArray} (hR : RowsAt rowsU σ) (h16 : 16 ≤ G) (ha : σ.abs = heapAbs h m) (hs0 : s.size ≤ 1000000000000) (hv : Lib.validD s.data.toList = false) :
    SCall G Tryd.prog 11 #[.pointer (some ⟨h, 0, none⟩), .string s] σ (.tuple #[wdV (0, 0), .int .i64 5]) σ := by
  have := heap_call (G := G) (P := Tryd.prog) (f := 11) (args := #[.pointer (some ⟨h, 0, none⟩), .string s]) (v := .tuple #[wdV (0, 0), .int .i64 5]) (m' := m) ha rfl fun μ w cargs bi S hs har h1 h2 h3 hav => by
    have hT : Tabs w := tabs_of_rows (rows_lie hs (fun g cs hm => Nat.lt_of_lt_of_le (rowsU_low g cs hm) h16) (fun g cs hm => Nat.lt_of_lt_of_le (rowsU_low g cs hm) (by decide)) rowsU_flat hR)
    have hout : ∀ g cs, (g, cs) ∈ rowsU → S g = none := fun g cs hm => by
      obtain ⟨t, gg, ht⟩ := hR g cs hm
      obtain ⟨ci, hb, e12⟩ := hs.glob g (Nat.lt_of_lt_of_le (rowsU_low g cs hm) h16)
      have := hav g _ ci ht hb
      rwa [(e12 (Nat.lt_of_lt_of_le (rowsU_low g cs hm) (by decide))).1] at this
    have hTS : TabsOut S := ⟨hout _ firstL (by simp [rowsU]), hout _ accL (by simp [rowsU])⟩
    have : cargs = _ := args_heap (l := [.string s]) h1 h2 rfl har
    subst this
    exact (text_bad S bi.blk m s w h3 hs0 hT hTS hv).mono fun e w' ⟨he, hb⟩ => ⟨S, he, h3.below hb, .of_below hb⟩
  rwa [with_same ha] at this
end
def m1N : HM := ⟨2, [some (.pair (0, 1) (1, 0))], []⟩
def m2N : HM := ⟨2, [some (.pair (0, 1) (1, 0)), some (.text ⟨#[97]⟩)], []⟩
def m3N : HM := ⟨2, [some (.vec []), some (.text ⟨#[97]⟩)], []⟩
theorem m2N_texts : m2N.Texts := fun i t e => by
  have := List.mem_of_getElem? e
  simp [m2N] at this
  subst this
  decide
theorem goneN : m2N.gone [false, true] = 1 := by kernel_rfl
theorem reachN {i : Nat} : Reach m2N [(3, 1)] i ↔ i = 1 := by
  constructor
  · intro h
    induction h with
    | root x o hx h =>
      rw [List.mem_singleton] at hx
      subst hx
      rfl
    | kid i o x o' hi ho hx h ih =>
      exfalso
      subst ih
      cases ho
      cases hx
  · rintro rfl
    exact Reach.root (l := [(3, 1)]) (3, 1) (.text ⟨#[97]⟩) (by simp) rfl
theorem marksN {M : List Bool} (h : Marks m2N (markL m2N (List.replicate m2N.objs.length false, []) [(3, 1)]) M) : m2N.Above M ∧ M = [false, true] := by
  obtain ⟨hl, hr⟩ := h.reach
  have hl : M.length = 2 := hl
  refine ⟨fun z _ x hx => (by cases hx), ?_⟩
  match M, hl with
  | [a, b], _ =>
    have h0 := hr 0
    have h1 := hr 1
    rw [reachN] at h0 h1
    cases a <;> cases b <;> simp_all
set_option maxHeartbeats 8000000 in
theorem names_wc {G : Nat} {σ0 : Mem} (hG : G ≤ σ0.next) (h16 : 16 ≤ G) (hR : RowsAt rowsU σ0) (hno : σ0.abs = Abs.no) :
    WC G Tryd.prog 6 #[] σ0 fun v _ => v = .bool true := by
  have CL : SCall G Tryd.prog 8 #[] σ0 (.bool true) σ0 := tab_callN hR h16 rfl rfl lives_any
  have CS : SCall G Tryd.prog 28 #[] σ0 (.bool true) σ0 := tab_callN hR h16 rfl rfl stores_any
  refine WC.enter (fn := Tryd.f6) Tryd.func6 rfl ?_
  refine W.seq ?_
  refine W.region ?_
  refine RW.val (by kernel_rfl) (by kernel_rfl) rfl (by kernel_rfl) ?_
  refine RW.nil ?_
  refine W.reset [(0, .bool false)] ⟨rfl, trivial⟩ fun TA => ?_
  refine W.seq ?_
  refine W.seq ?_
  refine W.region ?_
  refine RW.call (by kernel_rfl) (by kernel_rfl) rfl rfl rfl (by kernel_rfl) (by kernel_rfl) ⟨_, _, CL, ?_⟩
  refine RW.val (by kernel_rfl) (by kernel_rfl) rfl (by kernel_rfl) ?_
  refine RW.val (by kernel_rfl) (by kernel_rfl) rfl (by kernel_rfl) ?_
  refine RW.call (by rfl) (by kernel_rfl) rfl rfl rfl (by kernel_rfl) (by kernel_rfl) ⟨_, _, CS, ?_⟩
  refine RW.val (by rfl) (by kernel_rfl) rfl (by kernel_rfl) ?_
  refine RW.val (by kernel_rfl) (by kernel_rfl) rfl (by kernel_rfl) ?_
  refine RW.nil ?_
  refine W.cond (b := false) rfl (fun h => by cases h) (fun _ => ?_)
  refine W.skip ?_
  clear CL CS
  have CN := s_new (G := G) (σ := σ0) 2 (by omega) (by omega) hno
  refine W.seq ?_
  refine W.region ?_
  refine RW.call (by kernel_rfl) (by kernel_rfl) rfl rfl rfl (by kernel_rfl) (by kernel_rfl) ⟨_, _, CN, ?_⟩
  refine RW.val (by kernel_rfl) (by kernel_rfl) rfl (by kernel_rfl) ?_
  refine RW.val (by kernel_rfl) (by kernel_rfl) rfl (by kernel_rfl) ?_
  refine RW.val (by kernel_rfl) (by kernel_rfl) rfl (by kernel_rfl) ?_
  refine RW.val (by kernel_rfl) (by kernel_rfl) rfl (by kernel_rfl) ?_
  refine RW.val (by kernel_rfl) (by kernel_rfl) rfl (by kernel_rfl) ?_
  obtain ⟨σa, hσa⟩ : ∃ s, s = σ0.made 2 := ⟨_, rfl⟩
  rw [← hσa]
  have na : σa.next = σ0.next + 1 := by rw [hσa]; rfl
  have ha : σa.abs = heapAbs σ0.next ⟨2, [], []⟩ := by rw [hσa]; rfl
  replace hR : RowsAt rowsU σa := fun g cs hm => by obtain ⟨t, f, e⟩ := hR g cs hm; exact ⟨t, f, by rw [hσa, made_get]; exact e⟩
  have gn : G ≤ σa.next := by omega
  clear hσa CN hno
  refine RW.nil ?_
  refine W.reset [(1, pp σ0.next)] ⟨rfl, trivial⟩ fun TA => ?_
  have C1 := s_cons (G := G) (0, 1) (1, 0) ha (by decide) rfl
  rw [show (⟨2, [], []⟩ : HM).push (.pair (0, 1) (1, 0)) = m1N from rfl] at C1
  refine W.seq ?_
  refine W.region ?_
  refine RW.val (by kernel_rfl) (by kernel_rfl) rfl (by kernel_rfl) ?_
  refine RW.call (by kernel_rfl) (by kernel_rfl) rfl rfl rfl (by kernel_rfl) (by kernel_rfl) ⟨_, _, (s_int _), ?_⟩
  refine RW.call (by kernel_rfl) (by kernel_rfl) rfl rfl rfl (by kernel_rfl) (by kernel_rfl) ⟨_, _, s_nilK, ?_⟩
  refine RW.call (by kernel_rfl) (by kernel_rfl) rfl rfl rfl (by kernel_rfl) (by kernel_rfl) ⟨_, _, C1, ?_⟩
  obtain ⟨σs1, hs⟩ : ∃ Z, Z = σa.with (heapAbs σ0.next (m1N)) := ⟨_, rfl⟩
  rw [← hs]
  have ns : σs1.next = σa.next := by rw [hs]; rfl
  have K : ∀ b y, σa.get b = some y → σs1.get b = some y := fun b y hy => by rw [hs, with_get]; exact hy
  replace hR : RowsAt rowsU σs1 := fun g cs hm => by obtain ⟨t, f, e⟩ := hR g cs hm; exact ⟨t, f, K _ _ e⟩
  replace gn : G ≤ σs1.next := by omega
  replace ha := (show σs1.abs = heapAbs σ0.next (m1N) by rw [hs]; rfl)
  clear K
  clear hs ns
  clear C1
  refine RW.nil ?_
  refine W.reset [(1, pp σ0.next)] ⟨rfl, trivial⟩ fun TA => ?_
  have C1 := s_text (G := G) (s := ⟨#[97]⟩) hR h16 ha (by decide) (by decide) (by decide) (by decide) rfl (by decide)
  rw [show m1N.push (.text ⟨#[97]⟩) = m2N from rfl] at C1
  refine W.seq ?_
  refine W.region ?_
  refine RW.val (by kernel_rfl) (by kernel_rfl) rfl (by kernel_rfl) ?_
  refine RW.call (by kernel_rfl) (by kernel_rfl) rfl rfl rfl (by kernel_rfl) (by kernel_rfl) ⟨_, _, C1, ?_⟩
  obtain ⟨σs2, hs⟩ : ∃ Z, Z = σs1.with (heapAbs σ0.next (m2N)) := ⟨_, rfl⟩
  rw [← hs]
  have ns : σs2.next = σs1.next := by rw [hs]; rfl
  have K : ∀ b y, σs1.get b = some y → σs2.get b = some y := fun b y hy => by rw [hs, with_get]; exact hy
  replace hR : RowsAt rowsU σs2 := fun g cs hm => by obtain ⟨t, f, e⟩ := hR g cs hm; exact ⟨t, f, K _ _ e⟩
  replace gn : G ≤ σs2.next := by omega
  replace ha := (show σs2.abs = heapAbs σ0.next (m2N) by rw [hs]; rfl)
  clear K
  clear hs ns
  clear C1
  refine RW.nil ?_
  refine W.reset [(1, pp σ0.next)] ⟨rfl, trivial⟩ fun TA => ?_
  refine W.seq ?_
  refine W.region ?_
  refine RW.val (by kernel_rfl) (by kernel_rfl) rfl (by kernel_rfl) ?_
  refine RW.call (by kernel_rfl) (by kernel_rfl) rfl rfl rfl (by kernel_rfl) (by kernel_rfl) ⟨_, _, (s_word _ _), ?_⟩
  refine RW.makeG (x := .row ⟨wdC [((3, 1) : Wd)], 24, false⟩) (fm := fun b => .slice (some ⟨b, 0, none⟩) 1 1) (by kernel_rfl) (by kernel_rfl) (by kernel_rfl) (by kernel_rfl) ?_; intro σw _ gm Gm nm
  have K : ∀ b y, σs2.get b = some y → σw.get b = some y := Gm.old
  replace hR : RowsAt rowsU σw := fun g cs hm => by obtain ⟨t, f, e⟩ := hR g cs hm; exact ⟨t, f, K _ _ e⟩
  replace gn : G ≤ σw.next := by omega
  replace ha := Gm.abs.trans ha
  clear K
  have hsl : Sl σw 2 (.slice (some ⟨σs2.next, 0, none⟩) 1 1) (wdC [((3, 1) : Wd)]) := .some gm rfl (fun i x hi => by simpa using hi)
  have C1 := s_collect (G := G) _ [((3, 1) : Wd)] [false, true] hsl ha (fun M' hM => marksN hM) (by decide) hR h16 m2N_texts
  rw [goneN] at C1
  refine RW.call (by kernel_rfl) (by kernel_rfl) rfl rfl rfl (by kernel_rfl) (by kernel_rfl) ⟨_, _, C1, ?_⟩
  obtain ⟨σs3, hs⟩ : ∃ Z, Z = σw.with (heapAbs σ0.next (m2N.swept [false, true])) := ⟨_, rfl⟩
  rw [← hs]
  have ns : σs3.next = σw.next := by rw [hs]; rfl
  have K : ∀ b y, σw.get b = some y → σs3.get b = some y := fun b y hy => by rw [hs, with_get]; exact hy
  replace hR : RowsAt rowsU σs3 := fun g cs hm => by obtain ⟨t, f, e⟩ := hR g cs hm; exact ⟨t, f, K _ _ e⟩
  replace gn : G ≤ σs3.next := by omega
  replace ha := (show σs3.abs = heapAbs σ0.next (m2N.swept [false, true]) by rw [hs]; rfl)
  clear K
  clear hs ns
  clear C1 hsl gm Gm nm
  refine RW.val (by kernel_rfl) (by kernel_rfl) rfl (by kernel_rfl) ?_
  refine RW.nil ?_
  refine W.reset [(1, pp σ0.next), (3, .int .i64 ((1 : Nat) : Int))] ⟨rfl, rfl, trivial⟩ fun TA => ?_
  have C1 := s_vecF (G := G) (k := 0) ha (by decide) (by kernel_rfl) (by kernel_rfl)
  rw [show (m2N.swept [false, true]).take 0 (.vec []) = m3N by kernel_rfl] at C1
  refine W.seq ?_
  refine W.region ?_
  refine RW.val (by kernel_rfl) (by kernel_rfl) rfl (by kernel_rfl) ?_
  refine RW.call (by kernel_rfl) (by kernel_rfl) rfl rfl rfl (by kernel_rfl) (by kernel_rfl) ⟨_, _, C1, ?_⟩
  refine RW.val (by kernel_rfl) (by kernel_rfl) rfl (by kernel_rfl) ?_
  refine RW.val (by kernel_rfl) (by kernel_rfl) rfl (by kernel_rfl) ?_
  refine RW.val (by kernel_rfl) (by kernel_rfl) rfl (by kernel_rfl) ?_
  obtain ⟨σs4, hs⟩ : ∃ Z, Z = σs3.with (heapAbs σ0.next (m3N)) := ⟨_, rfl⟩
  rw [← hs]
  have ns : σs4.next = σs3.next := by rw [hs]; rfl
  have K : ∀ b y, σs3.get b = some y → σs4.get b = some y := fun b y hy => by rw [hs, with_get]; exact hy
  replace hR : RowsAt rowsU σs4 := fun g cs hm => by obtain ⟨t, f, e⟩ := hR g cs hm; exact ⟨t, f, K _ _ e⟩
  replace gn : G ≤ σs4.next := by omega
  replace ha := (show σs4.abs = heapAbs σ0.next (m3N) by rw [hs]; rfl)
  clear K
  clear hs ns
  clear C1
  refine RW.varS (d := 4) (r0 := ⟨[.int .i64 0, .int .i64 0], 24, false⟩) (vs := #[.int .i64 ((4, 0) : Wd).1, .int .i64 ((4, 0) : Wd).2]) (by kernel_rfl) (by kernel_rfl) (by kernel_rfl) rfl (by kernel_rfl) rfl (by kernel_rfl) rfl rfl rfl rfl (by kernel_rfl) rfl (by omega) ?_
  intro σq5 _ r4 oq nq aq
  have K : ∀ b y, σs4.get b = some y → σq5.get b = some y := oq
  replace hR : RowsAt rowsU σq5 := fun g cs hm => by obtain ⟨t, f, e⟩ := hR g cs hm; exact ⟨t, f, K _ _ e⟩
  replace gn : G ≤ σq5.next := by omega
  replace ha := aq.trans ha
  clear K
  clear oq nq aq
  refine RW.val (by kernel_rfl) (by kernel_rfl) rfl (by kernel_rfl) ?_
  refine RW.nil ?_
  refine W.reset [(1, pp σ0.next), (3, .int .i64 ((1 : Nat) : Int)), (4, pp σs4.next), (5, .int .i64 0)] ⟨rfl, rfl, rfl, rfl, trivial⟩ fun TA => ?_
  have C1 := s_car (G := G) (1, 0) ha
  rw [show m3N.car (1, 0) = ((1, 0), 0) by kernel_rfl] at C1
  refine W.seq ?_
  refine W.region ?_
  refine RW.val (by kernel_rfl) (by kernel_rfl) rfl (by kernel_rfl) ?_
  refine RW.call (by kernel_rfl) (by kernel_rfl) rfl rfl rfl (by kernel_rfl) (by kernel_rfl) ⟨_, _, s_nilK, ?_⟩
  refine RW.call (by kernel_rfl) (by kernel_rfl) rfl rfl rfl (by kernel_rfl) (by kernel_rfl) ⟨_, _, C1, ?_⟩
  refine RW.val (by kernel_rfl) (by kernel_rfl) rfl (by kernel_rfl) ?_
  refine RW.val (by kernel_rfl) (by kernel_rfl) rfl (by kernel_rfl) ?_
  refine RW.val (by kernel_rfl) (by kernel_rfl) rfl (by kernel_rfl) ?_
  clear C1
  refine RW.varS (d := 6) (r0 := ⟨[.int .i64 0, .int .i64 0], 24, false⟩) (vs := #[.int .i64 ((1, 0) : Wd).1, .int .i64 ((1, 0) : Wd).2]) (by kernel_rfl) (by kernel_rfl) (by kernel_rfl) rfl (by kernel_rfl) rfl (by kernel_rfl) rfl rfl rfl rfl (by kernel_rfl) rfl (by omega) ?_
  intro σq6 _ r6 oq nq aq
  have K : ∀ b y, σq5.get b = some y → σq6.get b = some y := oq
  replace r4 := K _ _ r4
  replace hR : RowsAt rowsU σq6 := fun g cs hm => by obtain ⟨t, f, e⟩ := hR g cs hm; exact ⟨t, f, K _ _ e⟩
  replace gn : G ≤ σq6.next := by omega
  replace ha := aq.trans ha
  clear K
  clear oq nq aq
  refine RW.val (by kernel_rfl) (by kernel_rfl) rfl (by kernel_rfl) ?_
  refine RW.nil ?_
  refine W.reset [(1, pp σ0.next), (3, .int .i64 ((1 : Nat) : Int)), (4, pp σs4.next), (5, .int .i64 0), (6, pp σq5.next), (7, .int .i64 0)] ⟨rfl, rfl, rfl, rfl, rfl, rfl, trivial⟩ fun TA => ?_
  have C1 := s_car (G := G) (0, 5) ha
  rw [show m3N.car (0, 5) = ((0, 0), 6) by kernel_rfl] at C1
  refine W.seq ?_
  refine W.region ?_
  refine RW.val (by kernel_rfl) (by kernel_rfl) rfl (by kernel_rfl) ?_
  refine RW.call (by kernel_rfl) (by kernel_rfl) rfl rfl rfl (by kernel_rfl) (by kernel_rfl) ⟨_, _, (s_int _), ?_⟩
  refine RW.call (by kernel_rfl) (by kernel_rfl) rfl rfl rfl (by kernel_rfl) (by kernel_rfl) ⟨_, _, C1, ?_⟩
  refine RW.val (by kernel_rfl) (by kernel_rfl) rfl (by kernel_rfl) ?_
  refine RW.val (by kernel_rfl) (by kernel_rfl) rfl (by kernel_rfl) ?_
  refine RW.val (by kernel_rfl) (by kernel_rfl) rfl (by kernel_rfl) ?_
  clear C1
  refine RW.varS (d := 8) (r0 := ⟨[.int .i64 0, .int .i64 0], 24, false⟩) (vs := #[.int .i64 ((0, 0) : Wd).1, .int .i64 ((0, 0) : Wd).2]) (by kernel_rfl) (by kernel_rfl) (by kernel_rfl) rfl (by kernel_rfl) rfl (by kernel_rfl) rfl rfl rfl rfl (by kernel_rfl) rfl (by omega) ?_
  intro σq7 _ r8 oq nq aq
  have K : ∀ b y, σq6.get b = some y → σq7.get b = some y := oq
  replace r4 := K _ _ r4
  replace r6 := K _ _ r6
  replace hR : RowsAt rowsU σq7 := fun g cs hm => by obtain ⟨t, f, e⟩ := hR g cs hm; exact ⟨t, f, K _ _ e⟩
  replace gn : G ≤ σq7.next := by omega
  replace ha := aq.trans ha
  clear K
  clear oq nq aq
  refine RW.val (by kernel_rfl) (by kernel_rfl) rfl (by kernel_rfl) ?_
  clear r8
  refine RW.nil ?_
  refine W.reset [(1, pp σ0.next), (3, .int .i64 ((1 : Nat) : Int)), (4, pp σs4.next), (5, .int .i64 0), (6, pp σq5.next), (7, .int .i64 0), (9, .int .i64 6)] ⟨rfl, rfl, rfl, rfl, rfl, rfl, rfl, trivial⟩ fun TA => ?_
  refine W.seq ?_
  refine W.region ?_
  refine RW.call (by kernel_rfl) (by kernel_rfl) rfl rfl rfl (by kernel_rfl) (by kernel_rfl) ⟨_, _, s_new0, ?_⟩
  refine RW.val (by kernel_rfl) (by kernel_rfl) rfl (by kernel_rfl) ?_
  refine RW.val (by kernel_rfl) (by kernel_rfl) rfl (by kernel_rfl) ?_
  refine RW.val (by kernel_rfl) (by kernel_rfl) rfl (by kernel_rfl) ?_
  refine RW.val (by kernel_rfl) (by kernel_rfl) rfl (by kernel_rfl) ?_
  refine RW.val (by kernel_rfl) (by kernel_rfl) rfl (by kernel_rfl) ?_
  refine RW.nil ?_
  refine W.reset [(1, pp σ0.next), (3, .int .i64 ((1 : Nat) : Int)), (4, pp σs4.next), (5, .int .i64 0), (6, pp σq5.next), (7, .int .i64 0), (9, .int .i64 6), (11, .int .i64 3)] ⟨rfl, rfl, rfl, rfl, rfl, rfl, rfl, rfl, trivial⟩ fun TA => ?_
  have C1 := s_textBad (G := G) (s := ⟨#[255]⟩) hR h16 ha (by decide) (by decide)
  refine W.seq ?_
  refine W.region ?_
  refine RW.val (by kernel_rfl) (by kernel_rfl) rfl (by kernel_rfl) ?_
  refine RW.call (by kernel_rfl) (by kernel_rfl) rfl rfl rfl (by kernel_rfl) (by kernel_rfl) ⟨_, _, C1, ?_⟩
  refine RW.val (by kernel_rfl) (by kernel_rfl) rfl (by kernel_rfl) ?_
  refine RW.val (by kernel_rfl) (by kernel_rfl) rfl (by kernel_rfl) ?_
  refine RW.val (by kernel_rfl) (by kernel_rfl) rfl (by kernel_rfl) ?_
  clear C1
  refine RW.varS (d := 12) (r0 := ⟨[.int .i64 0, .int .i64 0], 24, false⟩) (vs := #[.int .i64 ((0, 0) : Wd).1, .int .i64 ((0, 0) : Wd).2]) (by kernel_rfl) (by kernel_rfl) (by kernel_rfl) rfl (by kernel_rfl) rfl (by kernel_rfl) rfl rfl rfl rfl (by kernel_rfl) rfl (by omega) ?_
  intro σq8 _ r12 oq nq aq
  have K : ∀ b y, σq7.get b = some y → σq8.get b = some y := oq
  replace r4 := K _ _ r4
  replace r6 := K _ _ r6
  replace hR : RowsAt rowsU σq8 := fun g cs hm => by obtain ⟨t, f, e⟩ := hR g cs hm; exact ⟨t, f, K _ _ e⟩
  replace gn : G ≤ σq8.next := by omega
  replace ha := aq.trans ha
  clear K
  clear oq nq aq
  refine RW.val (by kernel_rfl) (by kernel_rfl) rfl (by kernel_rfl) ?_
  clear r12
  refine RW.nil ?_
  refine W.reset [(1, pp σ0.next), (3, .int .i64 ((1 : Nat) : Int)), (4, pp σs4.next), (5, .int .i64 0), (6, pp σq5.next), (7, .int .i64 0), (9, .int .i64 6), (11, .int .i64 3), (13, .int .i64 5)] ⟨rfl, rfl, rfl, rfl, rfl, rfl, rfl, rfl, rfl, trivial⟩ fun TA => ?_
  refine W.seq ?_
  refine W.region ?_
  refine RW.val (by kernel_rfl) (by kernel_rfl) rfl (by kernel_rfl) ?_
  refine RW.nil ?_
  refine W.reset [(1, pp σ0.next), (3, .int .i64 ((1 : Nat) : Int)), (4, pp σs4.next), (5, .int .i64 0), (6, pp σq5.next), (7, .int .i64 0), (9, .int .i64 6), (11, .int .i64 3), (13, .int .i64 5), (14, .pointer none)] ⟨rfl, rfl, rfl, rfl, rfl, rfl, rfl, rfl, rfl, rfl, trivial⟩ fun TA => ?_
  refine W.seq ?_
  refine W.region ?_
  refine RW.val (by kernel_rfl) (by kernel_rfl) rfl (by kernel_rfl) ?_
  refine RW.call (by kernel_rfl) (by kernel_rfl) rfl rfl rfl (by kernel_rfl) (by kernel_rfl) ⟨_, _, s_nilK, ?_⟩
  refine RW.call (by kernel_rfl) (by kernel_rfl) rfl rfl rfl (by kernel_rfl) (by kernel_rfl) ⟨_, _, s_nilK, ?_⟩
  refine RW.call (by kernel_rfl) (by kernel_rfl) rfl rfl rfl (by kernel_rfl) (by kernel_rfl) ⟨_, _, s_consNil, ?_⟩
  refine RW.val (by kernel_rfl) (by kernel_rfl) rfl (by kernel_rfl) ?_
  refine RW.val (by kernel_rfl) (by kernel_rfl) rfl (by kernel_rfl) ?_
  refine RW.val (by kernel_rfl) (by kernel_rfl) rfl (by kernel_rfl) ?_
  refine RW.varS (d := 15) (r0 := ⟨[.int .i64 0, .int .i64 0], 24, false⟩) (vs := #[.int .i64 ((0, 0) : Wd).1, .int .i64 ((0, 0) : Wd).2]) (by kernel_rfl) (by kernel_rfl) (by kernel_rfl) rfl (by kernel_rfl) rfl (by kernel_rfl) rfl rfl rfl rfl (by kernel_rfl) rfl (by omega) ?_
  intro σq9 _ r15 oq nq aq
  have K : ∀ b y, σq8.get b = some y → σq9.get b = some y := oq
  replace r4 := K _ _ r4
  replace r6 := K _ _ r6
  replace hR : RowsAt rowsU σq9 := fun g cs hm => by obtain ⟨t, f, e⟩ := hR g cs hm; exact ⟨t, f, K _ _ e⟩
  replace gn : G ≤ σq9.next := by omega
  replace ha := aq.trans ha
  clear K
  clear oq nq aq
  refine RW.val (by kernel_rfl) (by kernel_rfl) rfl (by kernel_rfl) ?_
  clear r15
  refine RW.nil ?_
  refine W.reset [(1, pp σ0.next), (3, .int .i64 ((1 : Nat) : Int)), (4, pp σs4.next), (5, .int .i64 0), (6, pp σq5.next), (7, .int .i64 0), (9, .int .i64 6), (11, .int .i64 3), (13, .int .i64 5), (14, .pointer none), (16, .int .i64 1)] ⟨rfl, rfl, rfl, rfl, rfl, rfl, rfl, rfl, rfl, rfl, rfl, trivial⟩ fun TA => ?_
  have CM := s_limit (G := G) ha
  have CC : ∀ y : Wd, SCall G Tryd.prog 32 #[.pointer (some ⟨σ0.next, 0, none⟩), wdV (1, 0), wdV y] σq9 (.int .i64 6) σq9 := fun y => by
    have := s_setCar (G := G) (1, 0) y ha
    rw [show m3N.setCar (1, 0) y = (m3N, 6) by rfl] at this
    rwa [with_same ha] at this
  refine W.seq ?_
  refine W.drawnS (by kernel_rfl) (by kernel_rfl) gn ?_
  refine RW.val (by kernel_rfl) (by kernel_rfl) rfl (by kernel_rfl) ?_
  refine RW.val (by kernel_rfl) (by kernel_rfl) rfl (by kernel_rfl) ?_
  refine RW.val (by kernel_rfl) (by kernel_rfl) rfl (by kernel_rfl) ?_
  refine RW.val (by rfl) (by kernel_rfl) rfl (by kernel_rfl) ?_
  refine RW.val (by rfl) (by kernel_rfl) rfl (by kernel_rfl) ?_
  refine RW.val (by kernel_rfl) (by kernel_rfl) rfl (by kernel_rfl) ?_
  refine RW.val (by kernel_rfl) (by kernel_rfl) rfl (by kernel_rfl) ?_
  refine RW.loads 2 (by rfl) (by kernel_rfl) rfl rfl r4 rfl rfl (by kernel_rfl) ?_
  refine RW.call (by rfl) (by kernel_rfl) rfl rfl rfl (by kernel_rfl) (by kernel_rfl) ⟨_, _, (s_word _ _), ?_⟩
  refine RW.vop (v := .bool (true)) (by rfl) (by kernel_rfl) (vop_eqS (b := true) (r := true) rfl (.inl ⟨rfl, rfl⟩) rfl rfl rfl rfl (by kernel_rfl) (fun w => (eqWd _ _ _ _ w).trans (by simp))) (by kernel_rfl) ?_
  refine RW.val (by kernel_rfl) (by kernel_rfl) rfl (by kernel_rfl) ?_
  refine RW.val (by kernel_rfl) (by kernel_rfl) rfl (by kernel_rfl) ?_
  refine RW.val (by rfl) (by kernel_rfl) rfl (by kernel_rfl) ?_
  refine RW.val (by rfl) (by kernel_rfl) rfl (by kernel_rfl) ?_
  refine RW.val (by kernel_rfl) (by kernel_rfl) rfl (by kernel_rfl) ?_
  refine RW.val (by kernel_rfl) (by kernel_rfl) rfl (by kernel_rfl) ?_
  refine RW.loads 2 (by rfl) (by kernel_rfl) rfl rfl r6 rfl rfl (by kernel_rfl) ?_
  refine RW.call (by rfl) (by kernel_rfl) rfl rfl rfl (by kernel_rfl) (by kernel_rfl) ⟨_, _, s_nilK, ?_⟩
  refine RW.vop (v := .bool (true)) (by rfl) (by kernel_rfl) (vop_eqS (b := true) (r := true) rfl (.inl ⟨rfl, rfl⟩) rfl rfl rfl rfl (by kernel_rfl) (fun w => (eqWd _ _ _ _ w).trans (by simp))) (by kernel_rfl) ?_
  refine RW.val (by kernel_rfl) (by kernel_rfl) rfl (by kernel_rfl) ?_
  refine RW.val (by kernel_rfl) (by kernel_rfl) rfl (by kernel_rfl) ?_
  refine RW.val (by rfl) (by kernel_rfl) rfl (by kernel_rfl) ?_
  refine RW.val (by rfl) (by kernel_rfl) rfl (by kernel_rfl) ?_
  refine RW.val (by kernel_rfl) (by kernel_rfl) rfl (by kernel_rfl) ?_
  refine RW.val (by kernel_rfl) (by kernel_rfl) rfl (by kernel_rfl) ?_
  refine RW.val (by rfl) (by kernel_rfl) rfl (by kernel_rfl) ?_
  refine RW.val (by rfl) (by kernel_rfl) rfl (by kernel_rfl) ?_
  refine RW.val (by kernel_rfl) (by kernel_rfl) rfl (by kernel_rfl) ?_
  refine RW.val (by kernel_rfl) (by kernel_rfl) rfl (by kernel_rfl) ?_
  refine RW.val (by rfl) (by kernel_rfl) rfl (by kernel_rfl) ?_
  refine RW.val (by rfl) (by kernel_rfl) rfl (by kernel_rfl) ?_
  refine RW.val (by kernel_rfl) (by kernel_rfl) rfl (by kernel_rfl) ?_
  refine RW.val (by kernel_rfl) (by kernel_rfl) rfl (by kernel_rfl) ?_
  refine RW.val (by rfl) (by kernel_rfl) rfl (by kernel_rfl) ?_
  refine RW.val (by rfl) (by kernel_rfl) rfl (by kernel_rfl) ?_
  refine RW.val (by kernel_rfl) (by kernel_rfl) rfl (by kernel_rfl) ?_
  refine RW.val (by kernel_rfl) (by kernel_rfl) rfl (by kernel_rfl) ?_
  refine RW.val (by rfl) (by kernel_rfl) rfl (by kernel_rfl) ?_
  refine RW.call (by rfl) (by kernel_rfl) rfl rfl rfl (by kernel_rfl) (by kernel_rfl) ⟨_, _, s_manyNil, ?_⟩
  refine RW.val (by rfl) (by kernel_rfl) rfl (by kernel_rfl) ?_
  refine RW.val (by kernel_rfl) (by kernel_rfl) rfl (by kernel_rfl) ?_
  refine RW.val (by kernel_rfl) (by kernel_rfl) rfl (by kernel_rfl) ?_
  refine RW.val (by rfl) (by kernel_rfl) rfl (by kernel_rfl) ?_
  refine RW.call (by rfl) (by kernel_rfl) rfl rfl rfl (by kernel_rfl) (by kernel_rfl) ⟨_, _, s_roomNil, ?_⟩
  refine RW.val (by rfl) (by kernel_rfl) rfl (by kernel_rfl) ?_
  refine RW.val (by kernel_rfl) (by kernel_rfl) rfl (by kernel_rfl) ?_
  refine RW.val (by kernel_rfl) (by kernel_rfl) rfl (by kernel_rfl) ?_
  refine RW.val (by rfl) (by kernel_rfl) rfl (by kernel_rfl) ?_
  refine RW.call (by rfl) (by kernel_rfl) rfl rfl rfl (by kernel_rfl) (by kernel_rfl) ⟨_, _, s_copyNil, ?_⟩
  refine RW.val (by rfl) (by kernel_rfl) rfl (by kernel_rfl) ?_
  refine RW.val (by kernel_rfl) (by kernel_rfl) rfl (by kernel_rfl) ?_
  refine RW.val (by kernel_rfl) (by kernel_rfl) rfl (by kernel_rfl) ?_
  refine RW.val (by rfl) (by kernel_rfl) rfl (by kernel_rfl) ?_
  refine RW.call (by rfl) (by kernel_rfl) rfl rfl rfl (by kernel_rfl) (by kernel_rfl) ⟨_, _, CM, ?_⟩
  refine RW.val (by rfl) (by kernel_rfl) rfl (by kernel_rfl) ?_
  refine RW.val (by kernel_rfl) (by kernel_rfl) rfl (by kernel_rfl) ?_
  refine RW.val (by kernel_rfl) (by kernel_rfl) rfl (by kernel_rfl) ?_
  refine RW.val (by rfl) (by kernel_rfl) rfl (by kernel_rfl) ?_
  refine RW.call (by rfl) (by kernel_rfl) rfl rfl rfl (by kernel_rfl) (by kernel_rfl) ⟨_, _, s_nilK, ?_⟩
  refine RW.loads 2 (by rfl) (by kernel_rfl) rfl rfl r4 rfl rfl (by kernel_rfl) ?_
  refine RW.call (by rfl) (by kernel_rfl) rfl rfl rfl (by kernel_rfl) (by kernel_rfl) ⟨_, _, (CC _), ?_⟩
  refine RW.val (by rfl) (by kernel_rfl) rfl (by kernel_rfl) ?_
  refine RW.val (by kernel_rfl) (by kernel_rfl) rfl (by kernel_rfl) ?_
  refine RW.val (by kernel_rfl) (by kernel_rfl) rfl (by kernel_rfl) ?_
  refine RW.nil ?_
  refine ⟨⟨by kernel_rfl, ?_, fun b => rfl⟩, ?_⟩
  · repeat' (first | exact True.intro | exact fun _ => rfl | exact ⟨_, r4⟩ | exact ⟨_, r6⟩ | refine And.intro ?_ ?_)
  refine W.ret ?_
  exact endG (R := fun v _ => v = Value.bool true) rfl (resL_tmp rfl) rfl
theorem names_any (w : World) (hT : Tabs w) : Calls Tryd.prog 6 #[] w fun e w' => e = .returned (.bool true) ∧ Below w.heap.size w w' := by
  have h64 : ∀ g cs, (g, cs) ∈ rowsU → g < 64 := fun g cs hm => Nat.lt_of_lt_of_le (rowsU_low g cs hm) (by decide)
  have hnd : (rowsU.map (·.1)).Nodup := by unfold rowsU; simp
  obtain ⟨v, σ', hS, rfl⟩ := names_wc (G := 64) (σ0 := argMem rowsU []) (Nat.le_refl _) (by decide) (argMem_tab hnd h64) rfl
  exact arg_calls (rows := []) (rowsU_lie hT) h64 (fun k r hr => by simp at hr) ⟨rfl, fun i y y' h1 h2 => by simp at h1⟩ hS rfl
end Go.Proofs.YthmfiahmfdadgaaDoor
