/-
 Lines of a specification. Conditions: none.
-/
import Derived.Test.YthemeeiedlbhkaaDoorN3
import Derived.Test.YthemeeiedlbhkaaDoorN2
namespace Go.Proofs.YthemeeiedlbhkaaDoor
open Go.Lib
set_option maxRecDepth 100000
section
variable {G : Nat} {σ : Mem}
theorem s_trimR {s : List UInt8} {R : List Int} (hv : validD s = true) (hR : R = restR s) : SCall G Tryd.prog 37 #[.string ⟨s.toArray⟩, .string ⟨#[42, 64, 94]⟩] σ (.string ⟨(encA R).toArray⟩) σ := by
 have h := s_trimL (G := G) (σ := σ) (bs := s)
 rw [trim_rest hv, ← hR] at h
 exact h
theorem s_contF {s : List UInt8} {FL : List Int} {b : UInt8} {c : Int} (hv : validD s = true) (hFL : FL = flagsR s) (hb : b.toNat < 128) (hc : ((b.toNat : Nat) : Int) = c) : SCall G Tryd.prog 38 #[.string ⟨(encA FL).toArray⟩, .string ⟨#[b]⟩] σ (.bool (FL.contains c)) σ := by
 have h := s_cont (G := G) (σ := σ) (bs := encA FL) (b := b)
 rw [hFL, flag_has hv hb hc, ← hFL] at h
 exact h
theorem s_indexE {bs : List UInt8} {i : Int} (h : Lib.indexByte bs 10 = i) : SCall G Tryd.prog 65 #[.string ⟨bs.toArray⟩, .string ⟨#[10]⟩] σ (.int .i64 i) σ := h ▸ s_index (b := 10)
theorem s_validT {bs : List UInt8} (h : validD bs = true) (hU : U8F σ.get) (h16 : 16 ≤ G) (hs : bs.length ≤ 1000000) : SCall G Tryd.prog 36 #[.string ⟨bs.toArray⟩] σ (.bool true) σ := h ▸ s_valid hU h16 hs
theorem s_countE {bs : List UInt8} {n : Nat} (hs : bs.length ≤ 1000000) (h : (runes bs).length = n) : SCall G Tryd.prog 69 #[.string ⟨bs.toArray⟩] σ (.int .i64 ((n : Nat) : Int)) σ := h ▸ s_count hs
end
theorem vop_sLenE {P : Program} {o : Oper} {ρ : Operand → Value} {c : Call} {x : Operand} {t : TypeId} {a : List UInt8} {n : Nat} (h : a.length = n) (ho : o.op = .call c) (hc : c.callee = .builtin .len) (ha : c.args = #[x]) (ht : c.argTypes = #[t]) (hu : P.underlying t = some .string) (hx : ρ x = .string ⟨a.toArray⟩) : VOp P o ρ (.int .i64 ((n : Nat) : Int)) := h ▸ vop_sLenL ho hc ha ht hu hx
theorem vop_backP {P : Program} {o : Oper} {F : Nat → Option Blk2} {ρ : Operand → Value} {src dst e : TypeId} {x : Operand} {v : Value} {p : List Int} (h : SlK F 1 v p.length (p.map runeV)) (hz : p = []) (ho : o.op = .convert src dst x) (hx : ρ x = v) (hs : uT P src = some (.slice e)) (he : uT P e = some (.int .i32)) (hd : uT P dst = some .string) : VOp P o ρ (.string ⟨(encA p).toArray⟩) := by
 subst hz
 exact vop_backZ h ho hx hs he hd
theorem split4 (r : List Int) : r = [] ∨ (∃ c p, r = c :: p ∧ (10 : Int) ∉ c :: p) ∨ (∃ q, r = 10 :: q ∧ (10 : Int) ∉ ([] : List Int)) ∨ ∃ c p q, r = c :: (p ++ 10 :: q) ∧ (10 : Int) ∉ c :: p := by
 rcases first_ten r with h | ⟨p, q, rfl, h⟩
 ·match r, h with
  | [], _ => exact .inl rfl
  | c :: p, h => exact .inr (.inl ⟨c, p, rfl, h⟩)
 ·match p, h with
  | [], h => exact .inr (.inr (.inl ⟨q, rfl, h⟩))
  | c :: p, h => exact .inr (.inr (.inr ⟨c, p, q, rfl, h⟩))
theorem head_in {r p : List Int} {c : Int} (h : ∀ x ∈ r, chB x = true) (hr : r = c :: p) : 0 ≤ c ∧ c ≤ 1114111 := by
 have := chB_iff.1 (h c (by rw [hr]; exact List.mem_cons_self ..))
 omega
theorem ten_len (p q : List Int) : (encA (p ++ 10 :: q)).length = (encA p).length + 1 + (encA q).length := by
 rw [encA_append, encA_cons, show encodeRune 10 = [10] from by decide, List.length_append, List.length_append, List.length_singleton]
 omega
theorem ten_out {r : List Int} (h : ∀ x ∈ r, chB x = true) (hn : (10 : Int) ∉ r) : (10 : UInt8) ∉ encA r := fun e => hn ((encA_ten h).1 e)
theorem enc_neA {r : List Int} (h : r ≠ []) : encA r ≠ [] := fun e => by
 have := enc_ge r
 rw [e] at this
 exact h (List.eq_nil_of_length_eq_zero (Nat.le_zero.1 this))
theorem snoc_ne (X : List UInt8) : X ++ [10] ≠ [] := by simp
theorem ten_count {c : Int} {p : List Int} (h : ∀ x ∈ c :: p, chB x = true) : (runes (encA (c :: p) ++ [10])).length = p.length + 2 := by
 have e : encA (c :: p) ++ [10] = encA ((c :: p) ++ [10]) := by rw [encA_append]; rfl
 rw [e, runes_encA _ fun x hx => (List.mem_append.1 hx).elim (h x) fun k => by rw [List.mem_singleton.1 k]; rfl, List.length_append]
 rfl
theorem ten_valid {p : List Int} (h : ∀ x ∈ p, chB x = true) : validD (encA p ++ [10]) = true := by
 have e : encA p ++ [10] = encA (p ++ [10]) := by rw [encA_append]; rfl
 rw [e]
 exact valid_encA _ fun x hx => (List.mem_append.1 hx).elim (h x) fun k => by rw [List.mem_singleton.1 k]; rfl
theorem needC_snoc2 (l : List Need) (c : Int) (s : List UInt8) : needC l ++ [.int .i64 c, .string ⟨s.toArray⟩] = needC (l ++ [(c, s)]) := needC_snoc l (c, s)
theorem trim_tail (X : List UInt8) : (X ++ [10]).drop ((X ++ [10]).length - 1) = [10] := by
 have e : (X ++ [10]).length - 1 = X.length := by rw [List.length_append]; rfl
 rw [e, List.drop_left]
theorem trim_head (X : List UInt8) : (X ++ [10]).take ((X ++ [10]).length - 1) = X := by
 have e : (X ++ [10]).length - 1 = X.length := by rw [List.length_append]; rfl
 rw [e, List.take_left]
theorem trim_no {X : List UInt8} {k : Nat} (h : (10 : UInt8) ∉ X) : X.drop k ≠ [10] := fun e => h (List.mem_of_mem_drop (i := k) (by rw [e]; exact List.mem_singleton.2 rfl))
set_option maxHeartbeats 8000000 in
theorem p_trimA {G : Nat} {A : Abs} {σ : Mem} {F : Nat → Option Blk2} {L : List Ent} {X : List UInt8} (hl : X.length ≤ 1000000) (H : Lies G A F σ L) : WC G Tryd.prog 40 #[.string ⟨(X ++ [10]).toArray⟩, .string ⟨#[10]⟩] σ fun v σ' => v = .string ⟨X.toArray⟩ ∧ Lies G A F σ' L := by
 have hxl : (X ++ [10]).length = X.length + 1 := by rw [List.length_append]; rfl
 refine WC.enter (fn := Tryd.f40) Tryd.func40 rfl ?_
 refine W.rg [(0, .string ⟨(X ++ [10]).toArray⟩), (1, .string ⟨#[10]⟩)] fun TA => ?_
 refine W.seq (W.region ?_)
 refine RW.v ?_
 refine RW.nil ?_
 refine W.rg [(0, .string ⟨(X ++ [10]).toArray⟩), (1, .string ⟨#[10]⟩)] fun TA => ?_
 refine W.seq (W.region ?_)
 iterate 2 refine RW.v ?_
 refine RW.cl ?_
 refine WC.enter (fn := Tryd.f67) Tryd.func67 rfl ?_
 refine W.rg [(0, .string ⟨(X ++ [10]).toArray⟩), (1, .string ⟨#[10]⟩)] fun TA => ?_
 refine W.seq (W.region ?_)
 refine RW.v ?_
 refine RW.nil ?_
 refine W.rg [(0, .string ⟨(X ++ [10]).toArray⟩), (1, .string ⟨#[10]⟩)] fun TA => ?_
 refine W.seq ?_
 refine W.seq (W.region ?_)
 iterate 2 refine RW.v ?_
 refine RW.cl ?_
 refine WC.enter (fn := Tryd.f93) Tryd.func93 rfl ?_
 refine W.rg [(0, .string ⟨(X ++ [10]).toArray⟩), (1, .string ⟨#[10]⟩)] fun TA => ?_
 refine W.seq (W.region ?_)
 refine RW.v ?_
 refine RW.nil ?_
 refine W.rg [(0, .string ⟨(X ++ [10]).toArray⟩), (1, .string ⟨#[10]⟩)] fun TA => ?_
 refine W.seq (W.region ?_)
 refine RW.v ?_
 refine RW.vop (v := .int .i64 ((X ++ [10]).length : Int)) (by kernel_rfl) (by kernel_rfl) (vop_sLenL rfl rfl rfl rfl Tryd.underlying9 rfl) (by kernel_rfl) ?_
 refine RW.v ?_
 refine RW.vop (v := .int .i64 1) (by kernel_rfl) (by kernel_rfl) (vop_sLenL (a := ([10] : List UInt8)) rfl rfl rfl rfl Tryd.underlying9 rfl) (by kernel_rfl) ?_
 refine RW.valE (v' := .bool true) (by kernel_rfl) (by kernel_rfl) rfl (congrArg Value.bool (decide_eq_true (by omega))) (by kernel_rfl) ?_
 refine RW.v ?_
 iterate 2 refine RW.w ?_
 refine RW.vop (v := .int .i64 ((X ++ [10]).length : Int)) (by rfl) (by kernel_rfl) (vop_sLenL rfl rfl rfl rfl Tryd.underlying9 rfl) (by kernel_rfl) ?_
 refine RW.w ?_
 refine RW.vop (v := .int .i64 1) (by rfl) (by kernel_rfl) (vop_sLenL (a := ([10] : List UInt8)) rfl rfl rfl rfl Tryd.underlying9 rfl) (by kernel_rfl) ?_
 refine RW.valE (v' := .int .i64 ((((X ++ [10]).length - 1) : Nat) : Int)) (by rfl) (by kernel_rfl) rfl (congrArg (Value.int .i64) ((wrap_in (by omega) (by omega)).trans (by omega))) (by kernel_rfl) ?_
 refine RW.vop (v := .string ⟨((X ++ [10]).drop ((X ++ [10]).length - 1)).toArray⟩) (by rfl) (by kernel_rfl) (vop_sTailL (a := (X ++ [10])) (j := ((X ++ [10]).length - 1)) rfl rfl rfl Tryd.underlying9 (by omega)) (by kernel_rfl) ?_
 refine RW.w ?_
 refine RW.vop (v := .bool true) (by rfl) (by kernel_rfl) (vop_sEq rfl rfl rfl (beq_iff_eq.2 (trim_tail X))) (by kernel_rfl) ?_
 iterate 2 refine RW.v ?_
 refine RW.nil ?_
 refine W.ret ?_
 refine endG (by rfl) (by exact resL_tmp rfl) ?_
 refine RW.nil ?_
 refine W.c1 ?_
 refine W.seq (W.region ?_)
 iterate 2 refine RW.v ?_
 refine RW.vop (v := .int .i64 ((X ++ [10]).length : Int)) (by kernel_rfl) (by kernel_rfl) (vop_sLenL rfl rfl rfl rfl Tryd.underlying9 rfl) (by kernel_rfl) ?_
 refine RW.v ?_
 refine RW.vop (v := .int .i64 1) (by kernel_rfl) (by kernel_rfl) (vop_sLenL (a := ([10] : List UInt8)) rfl rfl rfl rfl Tryd.underlying9 rfl) (by kernel_rfl) ?_
 refine RW.valE (v' := .int .i64 ((((X ++ [10]).length - 1) : Nat) : Int)) (by kernel_rfl) (by kernel_rfl) rfl (congrArg (Value.int .i64) ((wrap_in (by omega) (by omega)).trans (by omega))) (by kernel_rfl) ?_
 refine RW.vop (v := .string ⟨((X ++ [10]).take ((X ++ [10]).length - 1)).toArray⟩) (by kernel_rfl) (by kernel_rfl) (vop_sHeadL (a := (X ++ [10])) (j := ((X ++ [10]).length - 1)) rfl rfl rfl Tryd.underlying9 (by omega)) (by kernel_rfl) ?_
 refine RW.v ?_
 refine RW.nil ?_
 refine W.ret ?_
 refine seqQ_ret ?_
 refine endG (by rfl) (by exact resL_tmp rfl) ?_
 refine RW.v ?_
 refine RW.nil ?_
 refine W.ret ?_
 refine endG (by rfl) (by exact resL_tmp rfl) ?_
 exact ⟨congrArg (fun l : List UInt8 => Value.string ⟨l.toArray⟩) (trim_head X), H⟩
set_option maxHeartbeats 8000000 in
theorem p_trimB {G : Nat} {A : Abs} {σ : Mem} {F : Nat → Option Blk2} {L : List Ent} {X : List UInt8} (hl : X.length ≤ 1000000) (hX : (10 : UInt8) ∉ X) (h0 : X ≠ []) (H : Lies G A F σ L) : WC G Tryd.prog 40 #[.string ⟨X.toArray⟩, .string ⟨#[10]⟩] σ fun v σ' => v = .string ⟨X.toArray⟩ ∧ Lies G A F σ' L := by
 have hxl : 0 < X.length := List.length_pos_iff.2 h0
 refine WC.enter (fn := Tryd.f40) Tryd.func40 rfl ?_
 refine W.rg [(0, .string ⟨X.toArray⟩), (1, .string ⟨#[10]⟩)] fun TA => ?_
 refine W.seq (W.region ?_)
 refine RW.v ?_
 refine RW.nil ?_
 refine W.rg [(0, .string ⟨X.toArray⟩), (1, .string ⟨#[10]⟩)] fun TA => ?_
 refine W.seq (W.region ?_)
 iterate 2 refine RW.v ?_
 refine RW.cl ?_
 refine WC.enter (fn := Tryd.f67) Tryd.func67 rfl ?_
 refine W.rg [(0, .string ⟨X.toArray⟩), (1, .string ⟨#[10]⟩)] fun TA => ?_
 refine W.seq (W.region ?_)
 refine RW.v ?_
 refine RW.nil ?_
 refine W.rg [(0, .string ⟨X.toArray⟩), (1, .string ⟨#[10]⟩)] fun TA => ?_
 refine W.seq ?_
 refine W.seq (W.region ?_)
 iterate 2 refine RW.v ?_
 refine RW.cl ?_
 refine WC.enter (fn := Tryd.f93) Tryd.func93 rfl ?_
 refine W.rg [(0, .string ⟨X.toArray⟩), (1, .string ⟨#[10]⟩)] fun TA => ?_
 refine W.seq (W.region ?_)
 refine RW.v ?_
 refine RW.nil ?_
 refine W.rg [(0, .string ⟨X.toArray⟩), (1, .string ⟨#[10]⟩)] fun TA => ?_
 refine W.seq (W.region ?_)
 refine RW.v ?_
 refine RW.vop (v := .int .i64 (X.length : Int)) (by kernel_rfl) (by kernel_rfl) (vop_sLenL rfl rfl rfl rfl Tryd.underlying9 rfl) (by kernel_rfl) ?_
 refine RW.v ?_
 refine RW.vop (v := .int .i64 1) (by kernel_rfl) (by kernel_rfl) (vop_sLenL (a := ([10] : List UInt8)) rfl rfl rfl rfl Tryd.underlying9 rfl) (by kernel_rfl) ?_
 refine RW.valE (v' := .bool true) (by kernel_rfl) (by kernel_rfl) rfl (congrArg Value.bool (decide_eq_true (by omega))) (by kernel_rfl) ?_
 refine RW.v ?_
 iterate 2 refine RW.w ?_
 refine RW.vop (v := .int .i64 (X.length : Int)) (by rfl) (by kernel_rfl) (vop_sLenL rfl rfl rfl rfl Tryd.underlying9 rfl) (by kernel_rfl) ?_
 refine RW.w ?_
 refine RW.vop (v := .int .i64 1) (by rfl) (by kernel_rfl) (vop_sLenL (a := ([10] : List UInt8)) rfl rfl rfl rfl Tryd.underlying9 rfl) (by kernel_rfl) ?_
 refine RW.valE (v' := .int .i64 (((X.length - 1) : Nat) : Int)) (by rfl) (by kernel_rfl) rfl (congrArg (Value.int .i64) ((wrap_in (by omega) (by omega)).trans (by omega))) (by kernel_rfl) ?_
 refine RW.vop (v := .string ⟨(X.drop (X.length - 1)).toArray⟩) (by rfl) (by kernel_rfl) (vop_sTailL (a := X) (j := (X.length - 1)) rfl rfl rfl Tryd.underlying9 (by omega)) (by kernel_rfl) ?_
 refine RW.w ?_
 refine RW.vop (v := .bool false) (by rfl) (by kernel_rfl) (vop_sEq rfl rfl rfl (beq_eq_false_iff_ne.2 (trim_no hX))) (by kernel_rfl) ?_
 iterate 2 refine RW.v ?_
 refine RW.nil ?_
 refine W.ret ?_
 refine endG (by rfl) (by exact resL_tmp rfl) ?_
 refine RW.nil ?_
 refine W.c0 ?_
 refine W.skip ?_
 refine W.seq (W.region ?_)
 iterate 2 refine RW.v ?_
 refine RW.nil ?_
 refine W.ret ?_
 refine endG (by rfl) (by exact resL_tmp rfl) ?_
 refine RW.v ?_
 refine RW.nil ?_
 refine W.ret ?_
 refine endG (by rfl) (by exact resL_tmp rfl) ?_
 exact ⟨rfl, H⟩
end Go.Proofs.YthemeeiedlbhkaaDoor
