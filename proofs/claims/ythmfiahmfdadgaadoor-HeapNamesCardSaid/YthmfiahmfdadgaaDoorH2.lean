/-
  HeapNames in plain words: a string that is doubled, the heap that stores() fills, what Collect leaves of it; strings in the second memory. Conditions: none.
  Code as a call of the second memory. Conditions: the heap lies there as HeapAt says.
-/
import Derived.Test.YthmfiahmfdadgaaDoorHz
import Derived.Test.YthmfiahmfdadgaaDoorC1
import Derived.Test.YthmfiahmfdadgaaDoorKz
namespace Go.Proofs.YthmfiahmfdadgaaDoor
open Go.RowKit
set_option maxRecDepth 100000
section
variable {P : Program} {o : Oper} {ρ : Operand → Value}
theorem vop_strAdd {t t' : TypeId} {x y : Operand} {a b : ByteArray} (ho : o.op = .binOp .add t x y t') (hx : ρ x = .string a) (hy : ρ y = .string b) (hs : a.size + b.size ≤ 1000000000000) : VOp P o ρ (.string (a ++ b)) := fun μ ρc hor => by
  rw [ho] at hor
  have h1 := hor x (by simp [Op.operands])
  have h2 := hor y (by simp [Op.operands])
  rw [hx] at h1
  rw [hy] at h2
  have h1 := flatV_eq rfl h1
  have h2 := flatV_eq rfl h2
  have hn : ¬ (((a.size + b.size : Nat) : Int) > IntKind.i64.max) := by
    have : IntKind.i64.max = 9223372036854775807 := by decide
    omega
  refine ⟨_, .flat _ rfl, fun w => ?_⟩
  unfold execOp
  simp only [ho, h1, h2]
  simp only [eqGuard, binOp, Op.stringOp, if_neg hn]
  rfl
theorem vop_strLen {c : Call} {x : Operand} {t : TypeId} {a : ByteArray} (ho : o.op = .call c) (hc : c.callee = .builtin .len) (ha : c.args = #[x]) (ht : c.argTypes = #[t]) (hu : P.underlying t = some .string) (hx : ρ x = .string a) : VOp P o ρ (.int .i64 a.size) := fun μ ρc hor => by
  rw [ho] at hor
  have h1 := hor x (by simp [Op.operands, Call.operands, hc, ha])
  rw [hx] at h1
  have h1 := flatV_eq rfl h1
  refine ⟨_, .flat _ rfl, fun w => ?_⟩
  unfold execOp
  simp only [ho, Sem.run_bind, resolve, hc, ha, ht, Result.andThen_ok, Sem.run_pure]
  simp [invoke, builtin, Builtin.len_, run_underlying hu, h1, goInt]
end
/-- A string of n characters of one byte. -/
structure GoodS (s : ByteArray) (n : Nat) : Prop where
  size : s.size = n
  ok : Lib.validD s.data.toList = true
  len : lenOf s.data.toList = n
theorem GoodS.dbl {s : ByteArray} {n : Nat} (h : GoodS s n) : GoodS (s ++ s) (n + n) := by
  obtain ⟨h1, h2, h3⟩ := h
  have e : (s ++ s).data.toList = s.data.toList ++ s.data.toList := by simp
  have k := valid_append_left (t := s.data.toList) h2
  refine ⟨by rw [ByteArray.size_append, h1], by rw [e, k.1, h2], ?_⟩
  rw [lenOf_yes h2] at h3
  rw [e, lenOf_yes (by rw [k.1, h2]), k.2, List.length_append, h3]
theorem goodS_a : GoodS ⟨#[97]⟩ 1 := ⟨rfl, by decide, by decide⟩
/-- The heap behind i texts. -/
def hmT (s : ByteArray) (i : Nat) : HM := ⟨40, List.replicate i (some (.text s)), []⟩
theorem hmT_succ (s : ByteArray) (i : Nat) : (hmT s i).push (.text s) = hmT s (i + 1) := by simp [HM.push, hmT, List.replicate_succ']
theorem hmT_len (s : ByteArray) (i : Nat) : (hmT s i).objs.length = i := by simp [hmT]
theorem hmT_many (s : ByteArray) (i : Nat) : (hmT s i).many = i := by simp [HM.many, hmT]
theorem hmT_used {s : ByteArray} {n : Nat} (h : GoodS s n) (i : Nat) : (hmT s i).used = i * n := by
  simp [HM.used, hmT, optSize, HObj.size, h.len]
def hmV (s : ByteArray) (l : List Wd) : HM := ⟨40, List.replicate 15 (some (.text s)) ++ [some (.vec l)], []⟩
def hmE (s : ByteArray) (l : List Wd) : HM := ⟨40, List.replicate 15 (some (.text s)) ++ [some (.vec l), some (.text ByteArray.empty)], []⟩
theorem hmV_is (s : ByteArray) (l : List Wd) : (hmT s 15).push (.vec l) = hmV s l := rfl
theorem hmE_is (s : ByteArray) (l : List Wd) : (hmV s l).push (.text ByteArray.empty) = hmE s l := rfl
theorem hmV_used {s : ByteArray} {l : List Wd} {n : Nat} (h : GoodS s n) : (hmV s l).used = 15 * n + l.length := by
  rw [← hmV_is, HM.used_push, hmT_used h]; rfl
theorem hmE_used {s : ByteArray} {l : List Wd} {n : Nat} (h : GoodS s n) : (hmE s l).used = 15 * n + l.length := by
  rw [← hmE_is, HM.used_push, hmV_used h]
  have : (HObj.text ByteArray.empty).size = 0 := by decide
  omega
theorem find_k0 (m : HM) (a : Int) : m.find (0, a) = none := by
  cases e : m.find (0, a) with
  | none => rfl
  | some o => have := (HM.find_mem e).2.2; cases o <;> cases this
theorem hmV_lt (s : ByteArray) (l : List Wd) : (hmV s l).many < (hmV s l).limit := by
  have : (hmV s l).many = 16 := by simp [HM.many, hmV]
  rw [this]
  show 16 < 40
  decide
def mkE : List Bool := List.replicate 15 false ++ [true, false]
theorem reachE {s : ByteArray} {n i : Nat} : Reach (hmE s (List.replicate n (0, 0))) [(4, 15)] i ↔ i = 15 := by
  have hf : (hmE s (List.replicate n (0, 0))).find (4, 15) = some (.vec (List.replicate n (0, 0))) := rfl
  constructor
  · intro h
    induction h with
    | root x o hx h =>
      rw [List.mem_singleton] at hx
      subst hx
      rfl
    | kid i o x o' hi ho hx h ih =>
      exfalso
      subst ih
      cases ho
      have : x = (0, 0) := (List.mem_replicate.1 hx).2
      subst this
      rw [find_k0] at h
      cases h
  · rintro rfl
    exact Reach.root (l := [(4, 15)]) (4, 15) _ (by simp) hf
theorem marksE {s : ByteArray} {n : Nat} {M : List Bool} (h : Marks (hmE s (List.replicate n (0, 0))) (markL (hmE s (List.replicate n (0, 0))) (List.replicate (hmE s (List.replicate n (0, 0))).objs.length false, []) [(4, 15)]) M) : (hmE s (List.replicate n (0, 0))).Above M ∧ M = mkE := by
  obtain ⟨hl, hr⟩ := h.reach
  have hl : M.length = 17 := hl
  refine ⟨fun z _ x hx => (by cases hx), ?_⟩
  apply List.ext_getElem?
  intro i
  rcases Nat.lt_or_ge i 17 with hi | hi
  · have h1 := hr i
    rw [reachE] at h1
    have h2 := List.getElem?_eq_getElem (l := M) (i := i) (by omega)
    rw [h2] at h1 ⊢
    have e : mkE[i]? = some (decide (i = 15)) := (by decide : ∀ i, i < 17 → mkE[i]? = some (decide (i = 15))) i hi
    rw [e]
    congr 1
    by_cases hk : i = 15
    · rw [decide_eq_true hk]
      exact Option.some.inj (h1.2 hk)
    · rw [decide_eq_false hk]
      cases hM : M[i] with
      | false => rfl
      | true => exact absurd (h1.1 (by rw [hM])) hk
  · rw [List.getElem?_eq_none (by omega), List.getElem?_eq_none (by simp [mkE]; omega)]
theorem goneE (s : ByteArray) (l : List Wd) : (hmE s l).gone mkE = 16 := by kernel_rfl
theorem sweptE (s : ByteArray) (l : List Wd) : ((hmE s l).swept mkE).used = l.length := by
  have : ((hmE s l).swept mkE).objs = List.replicate 15 none ++ [some (.vec l), none] := by kernel_rfl
  unfold HM.used
  rw [this]
  simp [optSize, HObj.size]
theorem infoZ {P : Program} {e : TypeId} {z : Value} {s m : Nat} (h : ((iT P e).any fun i => i.size == s && decide (i.bytes ≤ m)) = true) (h2 : zeroT P e = some z) : ∃ i, iT P e = some i ∧ i.size = s ∧ i.bytes ≤ m := by
  cases hi : iT P e with
  | none => rw [hi] at h; cases h
  | some i =>
    rw [hi] at h
    simp at h
    exact ⟨i, rfl, h.1, h.2⟩
theorem zeros_wd : ∀ n, (List.range' 0 0 1 : List Nat) = [] ∧ (zerosF #[.int .i64 0, .int .i64 0] (n * 2)).toList = wdC (List.replicate n (0, 0)) := fun n => by
  refine ⟨rfl, ?_⟩
  unfold zerosF
  simp only [Array.toList_map, Array.toList_range]
  induction n with
  | zero => rfl
  | succ n ih =>
    rw [show (n + 1) * 2 = n * 2 + 1 + 1 by omega, List.range_succ, List.range_succ, List.map_append, List.map_append, ih, List.replicate_succ']
    have e1 : (n * 2) % 2 = 0 := by omega
    have e2 : (n * 2 + 1) % 2 = 1 := by omega
    simp [wdC, e1, e2]
theorem makeSlice_wd {G : Nat} {σ : Mem} {o : Oper} {ρ : Operand → Value} {x y : Operand} (n : Nat) (hn : 0 < n ∧ n ≤ 1000000) (ho : o.op = .makeSlice 22 x y) (hx : ρ x = .int .i64 n) (hy : ρ y = .int .i64 n) :
    stepOp G Tryd.prog σ o ρ = some (.make (.row ⟨wdC (List.replicate n (0, 0)), 24, false⟩) fun b => .slice (some ⟨b, 0, none⟩) n n) := by
  have hz : zeroT Tryd.prog 24 = some (.agg #[.int .i64 0, .int .i64 0]) := by kernel_rfl
  obtain ⟨i, h1, h2, h3⟩ := infoZ (P := Tryd.prog) (e := 24) (s := 2) (m := 64) (by kernel_rfl) hz
  have ht : uT Tryd.prog 22 = some (.slice 24) := by kernel_rfl
  have hc : closedV 2 (.agg #[.int .i64 0, .int .i64 0]) = true := rfl
  unfold stepOp
  rw [ho]
  simp only [sMkS, makeSliceF, hx, hy, ht, h1, hz, h2]
  have hmul : (i.bytes : Int) * (n : Int) ≤ 64 * 1000000 := by
    have := Nat.mul_le_mul h3 hn.2
    have h : ((i.bytes * n : Nat) : Int) ≤ ((64 * 1000000 : Nat) : Int) := Int.ofNat_le.2 this
    simpa using h
  have e1 : ((n : Int)).toNat = n := Int.toNat_natCast n
  rw [if_pos ⟨by omega, by omega, by omega, by omega, hc, by decide⟩, e1, if_neg (by omega)]
  rw [show (Value.agg #[.int .i64 0, .int .i64 0]).cells = #[.int .i64 0, .int .i64 0] from rfl, (zeros_wd n).2]
end Go.Proofs.YthmfiahmfdadgaaDoor
namespace Go.Proofs.YthmfiahmfdadgaaDoor
open Go.RowKit
set_option maxRecDepth 100000
section
variable {G : Nat} {σ : Mem} {h : Nat} {m : HM}
/-- A slice of the second memory, as the world has it. -/
theorem sl_worldG {μ : Mu} {w : World} {v u : Value} {s n : Nat} {xs : List Value} (hs : Sim G μ σ w) (hs0 : 0 < s) (hsl : Sl σ s v xs) (hlen : xs.length = n * s) (hcl : ∀ x ∈ xs, closedV 3 x = true) (hu : VRel μ v u) : ∃ A c, u = .slice A n c ∧ Reads w w.heap.size s A n xs := by
  cases hsl with
  | nil =>
    have hl0 : n = 0 := by
      rcases Nat.eq_zero_or_pos n with h | h
      · exact h
      · have := Nat.mul_pos h hs0; simp at hlen; omega
    have := closedV_eq 3 _ _ rfl hu
    exact ⟨none, 0, by rw [this, hl0], by rw [hl0]; exact ⟨by simp, fun h => absurd h (by decide)⟩⟩
  | some hr hx hc =>
    rename_i b p n' c sp r
    have hn : n' = n := Nat.eq_of_mul_eq_mul_right hs0 (by rw [← hx]; exact hlen)
    subst hn
    obtain ⟨ri, q, c', g1, g2, _, g3⟩ := hu.slice_inv
    refine ⟨_, c', g2, hx, fun hp => ⟨⟨ri.blk, q, none⟩, rfl, (hs.blk b _ ri hr g1).lt, fun i x hi => ?_⟩⟩
    have hq := g3 (by omega)
    obtain ⟨cc, fz, t', hcc, _, hcs⟩ := (hs.blk b _ ri hr g1).lie
    have hcl : closedV 3 x = true := hcl x (List.mem_of_getElem? hi)
    obtain ⟨v', p1, p2⟩ := hcs (p + i) _ (hc i _ hi)
    have := closedV_eq 3 _ _ hcl p2
    subst this
    have hadd : (⟨ri.blk, q, none⟩ : Addr).add i = ⟨ri.blk, q + i, none⟩ := by unfold Addr.add; split <;> simp_all
    rw [hadd]
    unfold World.cell?
    simp only [hcc]
    rw [hq, Nat.add_assoc]
    exact p1
theorem byC_closed (l : List Int) : ∀ x ∈ byC l, closedV 3 x = true := fun x hx => by
  obtain ⟨y, _, rfl⟩ := List.mem_map.1 hx
  rfl
theorem wdC_closed (l : List Wd) : ∀ x ∈ wdC l, closedV 3 x = true := fun x hx => by
  simp only [wdC, List.mem_flatMap, List.mem_cons, List.not_mem_nil, or_false] at hx
  obtain ⟨y, _, rfl | rfl⟩ := hx <;> rfl
/-- Code's argument, as the world has it. -/
theorem code_world {μ : Mu} {w : World} {x y z : Int} {v1 v2 u : Value} {bs : List Int} {cs : List Wd} (hs : Sim G μ σ w) (h1 : Sl σ 1 v1 (byC bs)) (h2 : Sl σ 2 v2 (wdC cs)) (hu : VRel μ (.agg #[.int .i64 x, .int .i64 y, .int .i64 z, v1, v2]) u) :
    ∃ A c B d, u = .agg #[.int .i64 x, .int .i64 y, .int .i64 z, .slice A bs.length c, .slice B cs.length d] ∧ Reads w w.heap.size 1 A bs.length (byC bs) ∧ Reads w w.heap.size 2 B cs.length (wdC cs) := by
  obtain ⟨ws, rfl, hsz, hr⟩ := hu.agg_inv
  have h5 : ws.size = 5 := hsz.symm
  have r0 := closedV_eq 3 _ _ rfl (hr 0 (.int .i64 x) ws[0] rfl (by simp [h5]))
  have r1 := closedV_eq 3 _ _ rfl (hr 1 (.int .i64 y) ws[1] rfl (by simp [h5]))
  have r2 := closedV_eq 3 _ _ rfl (hr 2 (.int .i64 z) ws[2] rfl (by simp [h5]))
  obtain ⟨A, c, e3, q3⟩ := sl_worldG (n := bs.length) hs (by decide) h1 (by rw [byC_length, Nat.mul_one]) (byC_closed bs) (hr 3 v1 ws[3] rfl (by simp [h5]))
  obtain ⟨B, d, e4, q4⟩ := sl_worldG (n := cs.length) hs (by decide) h2 (by rw [wdC_length]) (wdC_closed cs) (hr 4 v2 ws[4] rfl (by simp [h5]))
  refine ⟨A, c, B, d, congrArg Value.agg ?_, q3, q4⟩
  apply Array.ext
  · simp [h5]
  · intro i k3 k4
    match i, k3, k4 with
    | 0, _, _ => exact r0
    | 1, _, _ => exact r1
    | 2, _, _ => exact r2
    | 3, _, _ => exact e3
    | 4, _, _ => exact e4
    | i + 5, _, k4 => exact absurd k4 (by simp)
theorem s_code {x y z : Int} {v1 v2 : Value} {bs : List Int} {cs : List Wd} (k1 : Sl σ 1 v1 (byC bs)) (k2 : Sl σ 2 v2 (wdC cs)) (ha : σ.abs = heapAbs h m) (hn : bs.length ≤ 65536) (hk : cs.length ≤ 65536) (hm : m.many < m.limit) (hf : m.free = []) (hu : m.used + (bs.length + cs.length) ≤ 1048576) :
    SCall G Tryd.prog 23 #[.pointer (some ⟨h, 0, none⟩), .agg #[.int .i64 x, .int .i64 y, .int .i64 z, v1, v2]] σ (.tuple #[wdV (6, (m.objs.length : Int)), .int .i64 0]) (σ.with (heapAbs h (m.push (.code x y z bs cs)))) :=
  heap_call ha rfl fun μ w cargs bi S hs har h1 h2 h3 _ => by
    obtain ⟨u, rfl, hu2⟩ := args_open h1 h2 har
    obtain ⟨A, c, B, d, rfl, q1, q2⟩ := code_world hs k1 k2 hu2
    exact code_new S bi.blk m x y z A B bs.length c cs.length d bs cs w h3 hn hk q1 q2 hm hf hu
theorem s_codeLarge {x y z : Int} {v1 v2 : Value} {bs : List Int} {cs : List Wd} (k1 : Sl σ 1 v1 (byC bs)) (k2 : Sl σ 2 v2 (wdC cs)) (ha : σ.abs = heapAbs h m) (hn : bs.length ≤ 65536) (hk : cs.length ≤ 65536) (hm : m.many < m.limit) (hf : m.free = []) (hu : 1048576 < m.used + (bs.length + cs.length)) :
    SCall G Tryd.prog 23 #[.pointer (some ⟨h, 0, none⟩), .agg #[.int .i64 x, .int .i64 y, .int .i64 z, v1, v2]] σ (.tuple #[wdV (0, 0), .int .i64 7]) σ := by
  have := heap_call (G := G) (P := Tryd.prog) (f := 23) (args := #[.pointer (some ⟨h, 0, none⟩), .agg #[.int .i64 x, .int .i64 y, .int .i64 z, v1, v2]]) (v := (.tuple #[wdV (0, 0), .int .i64 7])) (m' := m) ha rfl fun μ w cargs bi S hs har h1 h2 h3 _ => by
    obtain ⟨u, rfl, hu2⟩ := args_open h1 h2 har
    obtain ⟨A, c, B, d, rfl, q1, q2⟩ := code_world hs k1 k2 hu2
    exact (code_large S bi.blk m x y z A B bs.length c cs.length d bs cs w h3 hn hk q1 q2 hm hf hu).mono fun e w' ⟨he, hb⟩ => ⟨S, he, h3.below hb, .of_below hb⟩
  rwa [with_same ha] at this
end
end Go.Proofs.YthmfiahmfdadgaaDoor
