/-
 RegexReplaced in the second memory. Conditions: none.
-/
import Derived.Test.YtmlmnbcnfalaaaaDoorRvc
import Derived.Test.YtmlmnbcnfalaaaaDoorN3
import Derived.Test.YtmlmnbcnfalaaaaDoorR2
import Derived.Test.YtmlmnbcnfalaaaaDoorL6
import Derived.Test.YtmlmnbcnfalaaaaDoorL3
namespace Go.Proofs.YtmlmnbcnfalaaaaDoor
open Go.Lib
set_option maxRecDepth 100000
open Go.RowKit
section
variable {G : Nat} {σ : Mem}
theorem s_rvalidX {bs : List UInt8} (hs : bs.length ≤ 1000000) : SCall G Tryd.prog 12 #[.string ⟨bs.toArray⟩] σ (.bool (validD bs)) σ :=
 below_call rfl rfl fun w => by
  have := ref_valid ⟨bs.toArray⟩ w (by show bs.length ≤ _; omega)
  rw [show (⟨bs.toArray⟩ : ByteArray).data.toList = bs by simp] at this
  exact this
theorem s_rvalidE {bs : List UInt8} {v : Bool} (hv : validD bs = v) (hs : bs.length ≤ 1000000) : SCall G Tryd.prog 12 #[.string ⟨bs.toArray⟩] σ (.bool v) σ := hv ▸ s_rvalidX hs
theorem s_rlen {bs : List UInt8} (hv : validD bs = true) (hs : bs.length ≤ 1000000) : SCall G Tryd.prog 15 #[.string ⟨bs.toArray⟩] σ (.int .i64 (((runes bs).length : Nat) : Int)) σ :=
 below_call rfl rfl fun w => by
  have := ref_len ⟨bs.toArray⟩ w (by show bs.length ≤ _; omega)
  rw [show (⟨bs.toArray⟩ : ByteArray).data.toList = bs by simp, lenOf_yes hv] at this
  exact this
theorem s_rcut {bs : List UInt8} {x y : Nat} (hv : validD bs = true) (hs : bs.length ≤ 100000) (h1 : x ≤ y) (h2 : y ≤ (runes bs).length) : SCall G Tryd.prog 26 #[.string ⟨bs.toArray⟩, .int .i64 ((x : Nat) : Int), .int .i64 ((y : Nat) : Int)] σ (.tuple #[.string ⟨(cutOf bs x y).toArray⟩, .int .i64 0]) σ :=
 below_call rfl rfl fun w => by
  have e0 : (⟨bs.toArray⟩ : ByteArray).data.toList = bs := by simp
  refine (ref_cut_yes ⟨bs.toArray⟩ x y w (by show bs.length ≤ _; omega) (by rw [e0]; exact hv) h1 (by rw [e0]; exact h2)).mono ?_
  rintro e w' ⟨t, rfl, ht, hb⟩
  rw [e0] at ht
  have e1 : t = ⟨(cutOf bs x y).toArray⟩ := by
   apply Go.WideShapes.bytes_inj
   rw [ht]
  rw [e1]
  exact ⟨rfl, hb⟩
theorem s_pickE {x n : Int} {k : Nat} (hk : pickOf x n = ((k : Nat) : Int)) (h1 : -9223372036854775808 ≤ x) (h2 : x ≤ 9223372036854775807) (h3 : 0 < n) (h4 : n ≤ 9223372036854775807) : SCall G Tryd.prog 13 #[.int .i64 x, .int .i64 n] σ (.int .i64 ((k : Nat) : Int)) σ :=
 hk ▸ below_call rfl rfl fun w => (pick_any x n w h1 h2 (by omega) h4).mono fun e w' ⟨k1, k2⟩ => ⟨k1, k2 ▸ Below.refl _ _⟩
end
theorem enc_len4 : ∀ l : List Int, (encA l).length ≤ 4 * l.length
 | [] => Nat.le_refl _
 | c :: l => by
  have := enc_len4 l
  have := (enc_len c).2
  rw [encA_cons, List.length_append, List.length_cons]
  omega
theorem cut_len4 (s : List UInt8) (x y : Nat) : (cutOf s x y).length ≤ 4 * (runes s).length := by
 have h := enc_len4 (((runes s).drop x).take (y - x))
 rw [List.length_take, List.length_drop] at h
 unfold cutOf
 omega
theorem repl_len {a s : List UInt8} {gs : List (Int × Int)} (ha : a.length ≤ 200) (hs : s.length ≤ 200) : (replM a s gs).1.length ≤ 1000000 := by
 unfold replM
 split
 ·cases hr : repM (runes s) gs (runes a) with
  | none => exact Nat.zero_le _
  | some o =>
   have h1 := (rep_ok hr).2
   have h2 := enc_len4 o
   have h3 := runes_le a
   have h4 := runes_le s
   have h5 : (runes a).length * ((runes s).length + 2) ≤ 200 * 202 := Nat.mul_le_mul (by omega) (by omega)
   show (encA o).length ≤ _
   generalize (runes a).length * ((runes s).length + 2) = m at h1 h5
   omega
 ·exact Nat.zero_le _
theorem pick_nat (x : Int) {n : Int} {m : Nat} (h : n = ((m : Nat) : Int) + 1) : ∃ k : Nat, pickOf x n = ((k : Nat) : Int) ∧ k ≤ m := by
 have := pick_range x n (by omega)
 exact ⟨(pickOf x n).toNat, by omega, by omega⟩
theorem no_bs {a : List UInt8} (hv : validD a = true) (h : (92 : UInt8) ∉ a) : (92 : Int) ∉ runes a := fun e => h (by
 have k := (encA_has (b := 92) (by decide) (valid_ch hv)).2 e
 rw [valid_eq hv] at k
 exact k)
theorem pl_snoc {a s : List UInt8} {i : Nat} (hi : i < a.length) (h : validD a = true ∧ validD s = true ∧ (92 : UInt8) ∉ a.take i) (hn : ((((a.getD i 0).toNat : Nat) : Int) != 92) = true) : validD a = true ∧ validD s = true ∧ (92 : UInt8) ∉ a.take (i + 1) := by
 refine ⟨h.1, h.2.1, ?_⟩
 rw [List.take_add_one, List.getElem?_eq_getElem hi]
 intro e
 rcases List.mem_append.1 e with e | e
 ·exact h.2.2 e
 ·rw [List.getD_eq_getElem?_getD, List.getElem?_eq_getElem hi] at hn
  have e2 : (92 : UInt8) = a[i] := List.mem_singleton.1 e
  rw [Option.getD_some, ← e2] at hn
  exact absurd hn (by decide)
set_option maxHeartbeats 16000000 in
theorem replaced_law {G : Nat} {σ0 : Mem} {gv : Value} {gs : List (Int × Int)} {a b s : List UInt8} (hG : G ≤ σ0.next) (hno : σ0.abs = Abs.no) (h16 : 16 ≤ G) (hU : U8F σ0.get) (CK : ∀ σ', (∀ b y, σ0.get b = some y → σ'.get b = some y) → SCall G Tryd.prog 11 #[] σ' (.bool true) σ') (hg : SlF σ0.get 2 gv gs.length (gC gs)) (hgb : ∀ g ∈ gs, (-9223372036854775808 ≤ g.1 ∧ g.1 ≤ 9223372036854775807) ∧ (-9223372036854775808 ≤ g.2 ∧ g.2 ≤ 9223372036854775807)) :
  WC G Tryd.prog 9 #[.string ⟨a.toArray⟩, .string ⟨b.toArray⟩, .string ⟨s.toArray⟩, gv] σ0 fun v _ => v = .bool true := by
 obtain ⟨XA, hXA⟩ : ∃ X, X = replM a s gs := ⟨_, rfl⟩
 obtain ⟨XB, hXB⟩ : ∃ X, X = replM b s gs := ⟨_, rfl⟩
 obtain ⟨XZ, hXZ⟩ : ∃ X, X = replM (a ++ b) s gs := ⟨_, rfl⟩
 have H := Lies.start hG hno
 generalize σ0.get = F0 at H hg hU CK
 obtain ⟨F, hF⟩ : ∃ F, F = F0 := ⟨_, rfl⟩
 have le0 : Le F0 F := fun b y h => hF ▸ h
 rw [← hF] at H
 clear hF
 refine WC.enter (fn := Tryd.f9) Tryd.func9 rfl ?_
 refine W.rg [(0, .string ⟨a.toArray⟩), (1, .string ⟨b.toArray⟩), (2, .string ⟨s.toArray⟩), (3, gv)] fun TA => ?_
 refine W.seq (W.region ?_)
 refine RW.v ?_
 refine RW.nil ?_
 refine W.rg [(0, .string ⟨a.toArray⟩), (1, .string ⟨b.toArray⟩), (2, .string ⟨s.toArray⟩), (3, gv)] fun TA => ?_
 refine W.seq ?_
 refine W.seq (W.region ?_)
 refine RW.cl ?_
 refine ⟨_, _, (CK _ fun b y h => H.old _ _ (le0 b y h)), ?_⟩
 refine RW.v ?_
 refine RW.nil ?_
 refine W.c0 ?_
 refine W.skip ?_
 refine W.seq ?_
 refine W.seq (W.region ?_)
 refine RW.v ?_
 refine RW.vop (v := .int .i64 (a.length : Int)) (by kernel_rfl) (by kernel_rfl) (vop_sLenL rfl rfl rfl rfl Tryd.underlying9 rfl) (by kernel_rfl) ?_
 iterate 2 refine RW.v ?_
 refine RW.both _ _ rfl rfl rfl (fun hc1 => ?_) (fun hc1 => ?_)
 ·have hc1b := hc1
  have hc1 := of_decide_eq_true hc1
  iterate 3 refine RW.s ?_
  iterate 2 refine RW.v ?_
  iterate 3 refine RW.s ?_
  iterate 2 refine RW.v ?_
  iterate 3 refine RW.s ?_
  refine RW.v ?_
  refine RW.nil ?_
  refine W.c1 ?_
  refine W.seq (W.region ?_)
  refine RW.v ?_
  refine RW.nil ?_
  refine W.ret ?_
  refine seqQ_ret ?_
  refine endG (by rfl) (by exact resL_tmp rfl) ?_
  exact rfl
 ·have hc1b := hc1
  have hc1 := of_decide_eq_false hc1
  refine RW.w ?_
  refine RW.vop (v := .int .i64 (b.length : Int)) (by rfl) (by kernel_rfl) (vop_sLenL rfl rfl rfl rfl Tryd.underlying9 rfl) (by kernel_rfl) ?_
  refine RW.w ?_
  iterate 2 refine RW.v ?_
  refine RW.both _ _ rfl rfl rfl (fun hc2 => ?_) (fun hc2 => ?_)
  ·have hc2b := hc2
   have hc2 := of_decide_eq_true hc2
   iterate 3 refine RW.s ?_
   iterate 2 refine RW.v ?_
   iterate 3 refine RW.s ?_
   refine RW.v ?_
   refine RW.nil ?_
   refine W.c1 ?_
   refine W.seq (W.region ?_)
   refine RW.v ?_
   refine RW.nil ?_
   refine W.ret ?_
   refine seqQ_ret ?_
   refine endG (by rfl) (by exact resL_tmp rfl) ?_
   exact rfl
  ·have hc2b := hc2
   have hc2 := of_decide_eq_false hc2
   refine RW.w ?_
   refine RW.vop (v := .int .i64 (s.length : Int)) (by rfl) (by kernel_rfl) (vop_sLenL rfl rfl rfl rfl Tryd.underlying9 rfl) (by kernel_rfl) ?_
   refine RW.w ?_
   iterate 2 refine RW.v ?_
   refine RW.both _ _ rfl rfl rfl (fun hc3 => ?_) (fun hc3 => ?_)
   ·have hc3b := hc3
    have hc3 := of_decide_eq_true hc3
    iterate 3 refine RW.s ?_
    refine RW.v ?_
    refine RW.nil ?_
    refine W.c1 ?_
    refine W.seq (W.region ?_)
    refine RW.v ?_
    refine RW.nil ?_
    refine W.ret ?_
    refine seqQ_ret ?_
    refine endG (by rfl) (by exact resL_tmp rfl) ?_
    exact rfl
   ·have hc3b := hc3
    have hc3 := of_decide_eq_false hc3
    have hs2 : s.length ≤ 200 := by omega
    have hrs : (runes s).length ≤ 200 := Nat.le_trans (runes_le s) hs2
    have hXAl : XA.1.length ≤ 1000000 := by rw [hXA]; exact repl_len (by omega) hs2
    have hXBl : XB.1.length ≤ 1000000 := by rw [hXB]; exact repl_len (by omega) hs2
    refine RW.w ?_
    refine RW.len (by rfl) (by kernel_rfl) rfl rfl rfl rfl ((hg.le le0).len (e := 35) (by kernel_rfl)) (by kernel_rfl) ?_
    refine RW.w ?_
    refine RW.v ?_
    refine RW.nil ?_
    refine W.rg [(0, .string ⟨a.toArray⟩), (1, .string ⟨b.toArray⟩), (2, .string ⟨s.toArray⟩), (3, gv), (45, .bool (decide ((gs.length : Int) > 12)))] fun TA => ?_
    refine W.cond rfl (fun hc4 => ?_) (fun hc4 => ?_)
    ·have hc4b := hc4
     have hc4 := of_decide_eq_true hc4
     refine W.seq (W.region ?_)
     refine RW.v ?_
     refine RW.nil ?_
     refine W.ret ?_
     refine seqQ_ret ?_
     refine endG (by rfl) (by exact resL_tmp rfl) ?_
     exact rfl
    ·have hc4b := hc4
     have hc4 := of_decide_eq_false hc4
     refine W.skip ?_
     refine W.seq (W.region ?_)
     iterate 3 refine RW.v ?_
     have hp := replace_wc (a := a) (s := s) (hU.le le0) h16 (hg.le le0) (by omega) hs2 H
     rw [← hXA] at hp
     refine RW.cl ?_
     refine ((hp).mono ?_)
     clear hp H
     rintro _ _ ⟨rfl, H⟩
     iterate 5 refine RW.v ?_
     refine RW.nil ?_
     refine W.rg [(0, .string ⟨a.toArray⟩), (1, .string ⟨b.toArray⟩), (2, .string ⟨s.toArray⟩), (3, gv), (9, .string ⟨XA.1.toArray⟩), (10, .int .i64 XA.2)] fun TA => ?_
     refine W.seq (W.region ?_)
     iterate 3 refine RW.v ?_
     have hp := replace_wc (a := b) (s := s) (hU.le le0) h16 (hg.le le0) (by omega) hs2 H
     rw [← hXB] at hp
     refine RW.cl ?_
     refine ((hp).mono ?_)
     clear hp H
     rintro _ _ ⟨rfl, H⟩
     iterate 5 refine RW.v ?_
     refine RW.nil ?_
     refine W.rg [(0, .string ⟨a.toArray⟩), (1, .string ⟨b.toArray⟩), (2, .string ⟨s.toArray⟩), (3, gv), (9, .string ⟨XA.1.toArray⟩), (10, .int .i64 XA.2), (11, .string ⟨XB.1.toArray⟩), (12, .int .i64 XB.2)] fun TA => ?_
     refine W.seq (W.region ?_)
     iterate 2 refine RW.v ?_
     refine RW.vop (v := .string ⟨(a ++ b).toArray⟩) (by kernel_rfl) (by kernel_rfl) (vop_sAddL (a := a) (b := b) rfl rfl rfl (by omega)) (by kernel_rfl) ?_
     iterate 2 refine RW.v ?_
     have hp := replace_wc (a := (a ++ b)) (s := s) (hU.le le0) h16 (hg.le le0) (by rw [List.length_append]; omega) hs2 H
     rw [← hXZ] at hp
     refine RW.cl ?_
     refine ((hp).mono ?_)
     clear hp H
     rintro _ _ ⟨rfl, H⟩
     iterate 5 refine RW.v ?_
     refine RW.nil ?_
     refine W.rg [(0, .string ⟨a.toArray⟩), (2, .string ⟨s.toArray⟩), (3, gv), (9, .string ⟨XA.1.toArray⟩), (10, .int .i64 XA.2), (11, .string ⟨XB.1.toArray⟩), (12, .int .i64 XB.2), (13, .string ⟨XZ.1.toArray⟩), (14, .int .i64 XZ.2)] fun TA => ?_
     refine W.join (fun ta σ => ∃ (z0 : Nat), (z0 = 0) ∧ Lies G Abs.no F σ (([])) ∧ ta 0 = .string ⟨a.toArray⟩ ∧ ta 2 = .string ⟨s.toArray⟩ ∧ ta 3 = gv ∧ ta 9 = .string ⟨XA.1.toArray⟩ ∧ ta 10 = .int .i64 XA.2) ?_ ?_
     ·refine W.seq (W.region ?_)
      iterate 3 refine RW.v ?_
      refine RW.both _ _ rfl rfl rfl (fun hc5 => ?_) (fun hc5 => ?_)
      ·have hc5b := hc5
       have hc5 := eq_of_beq hc5
       have hA0 : (replM a s gs).2 = 0 := by rw [← hXA]; exact hc5
       iterate 2 refine RW.w ?_
       iterate 2 refine RW.v ?_
       refine RW.both _ _ rfl rfl rfl (fun hc6 => ?_) (fun hc6 => ?_)
       ·have hc6b := hc6
        have hc6 := eq_of_beq hc6
        have hz : XZ = (XA.1 ++ XB.1, 0) := by rw [hXZ, hXA, hXB]; exact (repl_cat hA0).1 (by rw [← hXB]; exact hc6)
        refine RW.w ?_
        refine RW.valE (v' := .bool false) (by rfl) (by kernel_rfl) rfl (congrArg Value.bool (bne_eq_false_iff_eq.2 (by rw [hz]))) (by kernel_rfl) ?_
        iterate 4 refine RW.w ?_
        refine RW.vop (v := .string ⟨(XA.1 ++ XB.1).toArray⟩) (by rfl) (by kernel_rfl) (vop_sAddL (a := XA.1) (b := XB.1) rfl rfl rfl (by omega)) (by kernel_rfl) ?_
        refine RW.vop (v := .bool false) (by rfl) (by kernel_rfl) (vop_sNe rfl rfl rfl (by rw [hz]; simp)) (by kernel_rfl) ?_
        refine RW.w ?_
        iterate 2 refine RW.v ?_
        refine RW.w ?_
        refine RW.valE (v' := .bool true) (by rfl) (by kernel_rfl) rfl (congrArg Value.bool (beq_iff_eq.2 (by omega))) (by kernel_rfl) ?_
        iterate 2 refine RW.w ?_
        refine RW.valE (v' := .bool false) (by rfl) (by kernel_rfl) rfl (congrArg Value.bool (bne_eq_false_iff_eq.2 (by assumption))) (by kernel_rfl) ?_
        iterate 2 refine RW.w ?_
        iterate 2 refine RW.s ?_
        refine RW.w ?_
        refine RW.v ?_
        refine RW.nil ?_
        refine W.c0 ?_
        refine W.skip ?_
        exact ⟨rfl, rfl, 0, rfl, H, rfl, rfl, rfl, rfl, rfl⟩
       ·have hc6b := hc6
        have hc6 := ne_of_beq_false hc6
        have hz : XZ.2 ≠ 0 := by rw [hXZ]; exact (repl_cat hA0).2 (by rw [← hXB]; exact hc6)
        iterate 9 refine RW.s ?_
        iterate 2 refine RW.v ?_
        refine RW.w ?_
        refine RW.valE (v' := .bool true) (by rfl) (by kernel_rfl) rfl (congrArg Value.bool (beq_iff_eq.2 (by omega))) (by kernel_rfl) ?_
        iterate 2 refine RW.w ?_
        refine RW.valE (v' := .bool true) (by rfl) (by kernel_rfl) rfl (congrArg Value.bool (bne_iff_ne.2 (by assumption))) (by kernel_rfl) ?_
        iterate 3 refine RW.w ?_
        refine RW.valE (v' := .bool false) (by rfl) (by kernel_rfl) rfl (congrArg Value.bool (beq_eq_false_iff_ne.2 (by exact hz))) (by kernel_rfl) ?_
        refine RW.w ?_
        refine RW.v ?_
        refine RW.nil ?_
        refine W.c0 ?_
        refine W.skip ?_
        exact ⟨rfl, rfl, 0, rfl, H, rfl, rfl, rfl, rfl, rfl⟩
      ·have hc5b := hc5
       have hc5 := ne_of_beq_false hc5
       iterate 2 refine RW.s ?_
       iterate 2 refine RW.v ?_
       iterate 9 refine RW.s ?_
       iterate 2 refine RW.v ?_
       refine RW.w ?_
       refine RW.valE (v' := .bool false) (by rfl) (by kernel_rfl) rfl (congrArg Value.bool (beq_eq_false_iff_ne.2 (by omega))) (by kernel_rfl) ?_
       refine RW.w ?_
       iterate 2 refine RW.s ?_
       iterate 2 refine RW.w ?_
       iterate 2 refine RW.s ?_
       refine RW.w ?_
       refine RW.v ?_
       refine RW.nil ?_
       refine W.c0 ?_
       refine W.skip ?_
       exact ⟨rfl, rfl, 0, rfl, H, rfl, rfl, rfl, rfl, rfl⟩
     clear H
     rintro ta _ ⟨z0, hz0, H, e0, e2, e3, e9, e10⟩
     refine W.rst [(0, .string ⟨a.toArray⟩), (2, .string ⟨s.toArray⟩), (3, gv), (9, .string ⟨XA.1.toArray⟩), (10, .int .i64 XA.2)] ⟨e0, e2, e3, e9, e10, trivial⟩ fun TA => ?_
     clear e0 e2 e3 e9 e10
     refine W.seq (W.region ?_)
     refine RW.v ?_
     refine RW.cl ?_
     refine ⟨_, _, (s_rvalidX (bs := a) (by omega)), ?_⟩
     refine RW.v ?_
     refine RW.both _ _ rfl rfl rfl (fun hc7 => ?_) (fun hc7 => ?_)
     ·have hc7b := hc7
      refine RW.w ?_
      refine RW.cl (hw := by rfl) ?_
      refine ⟨_, _, (s_rvalidX (bs := s) (by omega)), ?_⟩
      iterate 2 refine RW.v ?_
      refine RW.nil ?_
      refine W.rg [(0, .string ⟨a.toArray⟩), (2, .string ⟨s.toArray⟩), (3, gv), (9, .string ⟨XA.1.toArray⟩), (10, .int .i64 XA.2), (15, .bool (validD s))] fun TA => ?_
      refine W.seq ?_
      refine W.seq (W.region ?_)
      refine RW.v ?_
      refine RW.nil ?_
      refine W.rg [(0, .string ⟨a.toArray⟩), (2, .string ⟨s.toArray⟩), (3, gv), (9, .string ⟨XA.1.toArray⟩), (10, .int .i64 XA.2), (15, .bool (validD s)), (16, .int .i64 0)] fun TA => ?_
      refine W.block ?_
      refine W.loop (fun mm ta σ => ∃ (i : Nat) (pl : Bool), (mm + i = a.length) ∧ (pl = true → validD a = true ∧ validD s = true ∧ (92 : UInt8) ∉ a.take i) ∧ Lies G Abs.no F σ (([])) ∧ ta 0 = .string ⟨a.toArray⟩ ∧ ta 2 = .string ⟨s.toArray⟩ ∧ ta 3 = gv ∧ ta 9 = .string ⟨XA.1.toArray⟩ ∧ ta 10 = .int .i64 XA.2 ∧ ta 15 = .bool pl ∧ ta 16 = .int .i64 ((i : Nat) : Int)) a.length ?_ ?_
      ·exact ⟨0, (validD s), (by omega), (fun e => ⟨hc7, e, (by rw [List.take_zero]; exact List.not_mem_nil)⟩), H, rfl, rfl, rfl, rfl, rfl, rfl, rfl⟩
      clear H
      rintro mm ta _ ⟨i, pl, hm, hpl, H, e0, e2, e3, e9, e10, e15, e16⟩
      refine W.rst [(0, .string ⟨a.toArray⟩), (2, .string ⟨s.toArray⟩), (3, gv), (9, .string ⟨XA.1.toArray⟩), (10, .int .i64 XA.2), (15, .bool pl), (16, .int .i64 ((i : Nat) : Int))] ⟨e0, e2, e3, e9, e10, e15, e16, trivial⟩ fun TA => ?_
      clear e0 e2 e3 e9 e10 e15 e16
      refine W.seq ?_
      refine W.seq (W.region ?_)
      iterate 2 refine RW.v ?_
      refine RW.vop (v := .int .i64 (a.length : Int)) (by kernel_rfl) (by kernel_rfl) (vop_sLenL rfl rfl rfl rfl Tryd.underlying9 rfl) (by kernel_rfl) ?_
      refine RW.v ?_
      refine RW.nil ?_
      refine W.rg [(0, .string ⟨a.toArray⟩), (2, .string ⟨s.toArray⟩), (3, gv), (9, .string ⟨XA.1.toArray⟩), (10, .int .i64 XA.2), (15, .bool pl), (16, .int .i64 ((i : Nat) : Int)), (107, .bool (decide (((i : Nat) : Int) < (a.length : Int))))] fun TA => ?_
      refine W.cond rfl (fun hc8 => ?_) (fun hc8 => ?_)
      ·have hc8b := hc8
       have hc8 := of_decide_eq_true hc8
       have hil : i < a.length := by omega
       refine W.skip ?_
       refine W.seq ?_
       refine W.block ?_
       refine W.region ?_
       iterate 2 refine RW.v ?_
       refine RW.both _ _ rfl rfl rfl (fun hc9 => ?_) (fun hc9 => ?_)
       ·have hc9b := hc9
        iterate 2 refine RW.w ?_
        refine RW.vop (v := .int .u8 ((a.getD i 0).toNat : Int)) (by rfl) (by kernel_rfl) (vop_sAtL (a := a) (j := i) rfl rfl rfl Tryd.underlying9 (by omega)) (by kernel_rfl) ?_
        refine RW.w ?_
        iterate 2 refine RW.v ?_
        refine RW.nil ?_
        refine blkQ_normal ?_
        refine W.rg [(0, .string ⟨a.toArray⟩), (2, .string ⟨s.toArray⟩), (3, gv), (9, .string ⟨XA.1.toArray⟩), (10, .int .i64 XA.2), (15, .bool (((a.getD i 0).toNat : Int) != 92)), (16, .int .i64 ((i : Nat) : Int))] fun TA => ?_
        refine W.region ?_
        refine RW.v ?_
        refine RW.valE (v' := .int .i64 (((i + 1) : Nat) : Int)) (by kernel_rfl) (by kernel_rfl) rfl (congrArg (Value.int .i64) ((wrap_in (by omega) (by omega)).trans (by omega))) (by kernel_rfl) ?_
        refine RW.v ?_
        refine RW.nil ?_
        exact ⟨rfl, mm - 1, by omega, i + 1, ((a.getD i 0).toNat : Int) != 92, (by omega), (fun e => (pl_snoc hil (hpl hc9) e)), H, rfl, rfl, rfl, rfl, rfl, rfl, rfl⟩
       ·have hc9b := hc9
        iterate 4 refine RW.s ?_
        iterate 2 refine RW.v ?_
        refine RW.nil ?_
        refine blkQ_normal ?_
        refine W.rg [(0, .string ⟨a.toArray⟩), (2, .string ⟨s.toArray⟩), (3, gv), (9, .string ⟨XA.1.toArray⟩), (10, .int .i64 XA.2), (15, .bool false), (16, .int .i64 ((i : Nat) : Int))] fun TA => ?_
        refine W.region ?_
        refine RW.v ?_
        refine RW.valE (v' := .int .i64 (((i + 1) : Nat) : Int)) (by kernel_rfl) (by kernel_rfl) rfl (congrArg (Value.int .i64) ((wrap_in (by omega) (by omega)).trans (by omega))) (by kernel_rfl) ?_
        refine RW.v ?_
        refine RW.nil ?_
        exact ⟨rfl, mm - 1, by omega, i + 1, false, (by omega), (fun e => Bool.noConfusion e), H, rfl, rfl, rfl, rfl, rfl, rfl, rfl⟩
      ·have hc8b := hc8
       have hc8 := of_decide_eq_false hc8
       refine W.exit _ ?_
       refine seqQ_exit ?_
       refine rndQ_exit ?_
       obtain rfl : i = a.length := by omega
       rw [List.take_length] at hpl
       refine blkQ_here ?_
       refine W.seq ?_
       refine W.seq (W.region ?_)
       iterate 2 refine RW.v ?_
       refine RW.both _ _ rfl rfl rfl (fun hc10 => ?_) (fun hc10 => ?_)
       ·have hc10b := hc10
        obtain ⟨pva, pvs, pno⟩ := hpl hc10
        have hXp : XA = (a, 0) := by rw [hXA]; exact repl_plain pva pvs (no_bs pva pno)
        have hvs := pvs
        refine RW.w ?_
        refine RW.valE (v' := .bool false) (by rfl) (by kernel_rfl) rfl (congrArg Value.bool (bne_eq_false_iff_eq.2 (by rw [hXp]))) (by kernel_rfl) ?_
        iterate 3 refine RW.w ?_
        refine RW.vop (v := .bool false) (by rfl) (by kernel_rfl) (vop_sNe rfl rfl rfl (by rw [hXp]; simp)) (by kernel_rfl) ?_
        refine RW.w ?_
        iterate 2 refine RW.v ?_
        refine RW.w ?_
        refine RW.cl (hw := by rfl) ?_
        refine ⟨_, _, (s_rvalidE pvs (by omega)), ?_⟩
        iterate 2 refine RW.w ?_
        iterate 2 refine RW.s ?_
        refine RW.w ?_
        refine RW.v ?_
        refine RW.nil ?_
        refine W.c0 ?_
        refine W.skip ?_
        refine W.seq ?_
        refine W.seq (W.region ?_)
        refine RW.v ?_
        refine RW.len (by kernel_rfl) (by kernel_rfl) rfl rfl rfl rfl ((hg.le le0).len (e := 35) (by kernel_rfl)) (by kernel_rfl) ?_
        iterate 2 refine RW.v ?_
        refine RW.both _ _ rfl rfl rfl (fun hc11 => ?_) (fun hc11 => ?_)
        ·have hc11b := hc11
         have hc11 := eq_of_beq hc11
         iterate 3 refine RW.s ?_
         refine RW.v ?_
         refine RW.nil ?_
         refine W.c1 ?_
         refine W.seq (W.region ?_)
         refine RW.v ?_
         refine RW.nil ?_
         refine W.ret ?_
         refine seqQ_ret ?_
         refine endG (by rfl) (by exact resL_tmp rfl) ?_
         exact rfl
        ·have hc11b := hc11
         have hc11 := ne_of_beq_false hc11
         have h0g : 0 < gs.length := by omega
         refine RW.w ?_
         refine RW.cl (hw := by rfl) ?_
         refine ⟨_, _, (s_rvalidE pvs (by omega)), ?_⟩
         refine RW.w ?_
         refine RW.v ?_
         refine RW.nil ?_
         refine W.c0 ?_
         refine W.skip ?_
         refine W.seq (W.region ?_)
         refine RW.v ?_
         refine RW.cl ?_
         refine ⟨_, _, (s_rlen hvs (by omega)), ?_⟩
         refine RW.v ?_
         refine RW.nil ?_
         refine W.rg [(2, .string ⟨s.toArray⟩), (3, gv), (17, .int .i64 (((runes s).length : Nat) : Int))] fun TA => ?_
         refine W.seq (W.region ?_)
         refine RW.v ?_
         refine RW.idxF (hg.le le0) (by kernel_rfl) (by kernel_rfl) rfl Tryd.underlying32 (by kernel_rfl) rfl rfl ⟨by omega, by omega⟩ (by kernel_rfl) ?_
         intro b12 q13 r14 hF15 hE16
         rw [rng_at (l := gs) (j := 0) (i := 0) (by omega) (by omega)] at hE16
         refine RW.v ?_
         refine RW.loads 1 (by kernel_rfl) (by kernel_rfl) rfl rfl (H.old _ _ hF15) (sub_take hE16 0 1 (by decide)) rfl (by kernel_rfl) ?_
         refine RW.v ?_
         refine RW.valE (v' := .int .i64 ((((runes s).length + 1) : Nat) : Int)) (by kernel_rfl) (by kernel_rfl) rfl (congrArg (Value.int .i64) ((wrap_in (by omega) (by omega)).trans (by omega))) (by kernel_rfl) ?_
         obtain ⟨p, hp0, hpn⟩ := pick_nat ((gD gs 0).1) (n := ((((runes s).length + 1) : Nat) : Int)) (m := (runes s).length) (by omega)
         refine RW.cl ?_
         refine ⟨_, _, (s_pickE hp0 (hgb _ (g_mem h0g)).1.1 (hgb _ (g_mem h0g)).1.2 (by omega) (by omega)), ?_⟩
         refine RW.v ?_
         refine RW.nil ?_
         refine W.rg [(2, .string ⟨s.toArray⟩), (3, gv), (17, .int .i64 (((runes s).length : Nat) : Int)), (18, .int .i64 ((p : Nat) : Int))] fun TA => ?_
         refine W.seq (W.region ?_)
         iterate 2 refine RW.v ?_
         refine RW.idxF (hg.le le0) (by kernel_rfl) (by kernel_rfl) rfl Tryd.underlying32 (by kernel_rfl) rfl rfl ⟨by omega, by omega⟩ (by kernel_rfl) ?_
         intro b17 q18 r19 hF20 hE21
         rw [rng_at (l := gs) (j := 0) (i := 0) (by omega) (by omega)] at hE21
         refine RW.v ?_
         refine RW.loads 1 (by kernel_rfl) (by kernel_rfl) rfl rfl (H.old _ _ hF20) (sub_take hE21 1 1 (by decide)) rfl (by kernel_rfl) ?_
         refine RW.v ?_
         refine RW.valE (v' := .int .i64 ((((runes s).length + 1) : Nat) : Int)) (by kernel_rfl) (by kernel_rfl) rfl (congrArg (Value.int .i64) ((wrap_in (by omega) (by omega)).trans (by omega))) (by kernel_rfl) ?_
         refine RW.v ?_
         refine RW.valE (v' := .int .i64 (((((runes s).length + 1) - p) : Nat) : Int)) (by kernel_rfl) (by kernel_rfl) rfl (congrArg (Value.int .i64) ((wrap_in (by omega) (by omega)).trans (by omega))) (by kernel_rfl) ?_
         obtain ⟨d, hd0, hdn⟩ := pick_nat ((gD gs 0).2) (n := (((((runes s).length + 1) - p) : Nat) : Int)) (m := (runes s).length - p) (by omega)
         obtain ⟨q, hq0⟩ : ∃ q, q = p + d := ⟨_, rfl⟩
         have hpq : p ≤ q := by omega
         have hqn : q ≤ (runes s).length := by omega
         refine RW.cl ?_
         refine ⟨_, _, (s_pickE hd0 (hgb _ (g_mem h0g)).2.1 (hgb _ (g_mem h0g)).2.2 (by omega) (by omega)), ?_⟩
         refine RW.valE (v' := .int .i64 ((q : Nat) : Int)) (by kernel_rfl) (by kernel_rfl) rfl (congrArg (Value.int .i64) ((wrap_in (by omega) (by omega)).trans (by omega))) (by kernel_rfl) ?_
         refine RW.v ?_
         refine RW.nil ?_
         refine W.rg [(2, .string ⟨s.toArray⟩), (17, .int .i64 (((runes s).length : Nat) : Int)), (18, .int .i64 ((p : Nat) : Int)), (19, .int .i64 ((q : Nat) : Int))] fun TA => ?_
         refine W.seq (W.region ?_)
         iterate 2 refine RW.v ?_
         refine RW.cl ?_
         refine ⟨_, _, (s_rcut hvs (by omega) (Nat.zero_le p) (by omega)), ?_⟩
         iterate 5 refine RW.v ?_
         refine RW.nil ?_
         refine W.rg [(2, .string ⟨s.toArray⟩), (17, .int .i64 (((runes s).length : Nat) : Int)), (18, .int .i64 ((p : Nat) : Int)), (19, .int .i64 ((q : Nat) : Int)), (20, .string ⟨(cutOf s 0 p).toArray⟩)] fun TA => ?_
         refine W.seq (W.region ?_)
         iterate 3 refine RW.v ?_
         refine RW.cl ?_
         refine ⟨_, _, (s_rcut hvs (by omega) hqn (Nat.le_refl _)), ?_⟩
         iterate 5 refine RW.v ?_
         refine RW.nil ?_
         refine W.rg [(2, .string ⟨s.toArray⟩), (18, .int .i64 ((p : Nat) : Int)), (19, .int .i64 ((q : Nat) : Int)), (20, .string ⟨(cutOf s 0 p).toArray⟩), (22, .string ⟨(cutOf s q (runes s).length).toArray⟩)] fun TA => ?_
         refine W.seq (W.region ?_)
         iterate 3 refine RW.v ?_
         refine RW.val (v := .agg #[.int .i64 ((p : Nat) : Int), .int .i64 ((q : Nat) : Int)]) (by kernel_rfl) (by kernel_rfl) (by kernel_rfl) (by kernel_rfl) ?_
         refine RW.mkL H (x := .row ⟨[.int .i64 ((p : Nat) : Int), .int .i64 ((q : Nat) : Int)], 35, false⟩) (fm := fun b => .slice (some ⟨b, 0, none⟩) 1 1) (by kernel_rfl) (by kernel_rfl) (by kernel_rfl) (by kernel_rfl) ?_
         clear H; intro _ b22 _ H
         obtain ⟨F, le, hq, H⟩ := H.freeze 0 rfl
         dsimp only [setL, delL] at H
         replace le0 := fun b y h => le b y (le0 b y h)
         clear le
         have hq2 : SlF F 2 (.slice (some ⟨b22, 0, none⟩) 1 1) [((p : Int), (q : Int))].length (gC [((p : Int), (q : Int))]) := .some hq rfl rfl
         have hc1 := cut_len4 s 0 p
         have hc2 := cut_len4 s q (runes s).length
         have hc3 := cut_len4 s p q
         rw [show cutOf s p q = encA (((runes s).drop p).take (q - p)) from rfl] at hc3
         have hp := replace_wc (a := [92, 38]) (s := s) (hU.le le0) h16 hq2 (by decide) hs2 H
         rw [repl_all hvs hpq hqn] at hp
         dsimp only at hp
         refine RW.cl ?_
         refine ((hp).mono ?_)
         clear hp H
         rintro _ _ ⟨rfl, H⟩
         iterate 5 refine RW.v ?_
         refine RW.nil ?_
         refine W.rg [(2, .string ⟨s.toArray⟩), (20, .string ⟨(cutOf s 0 p).toArray⟩), (22, .string ⟨(cutOf s q (runes s).length).toArray⟩), (24, .string ⟨(encA (((runes s).drop p).take (q - p))).toArray⟩), (25, .int .i64 0)] fun TA => ?_
         refine W.seq (W.region ?_)
         iterate 3 refine RW.v ?_
         iterate 2 refine RW.w ?_
         refine RW.vop (v := .string ⟨((cutOf s 0 p) ++ (encA (((runes s).drop p).take (q - p)))).toArray⟩) (by rfl) (by kernel_rfl) (vop_sAddL (a := (cutOf s 0 p)) (b := (encA (((runes s).drop p).take (q - p)))) rfl rfl rfl (by first | omega | (simp only [List.length_append]; omega))) (by kernel_rfl) ?_
         refine RW.w ?_
         refine RW.vop (v := .string ⟨(((cutOf s 0 p) ++ (encA (((runes s).drop p).take (q - p)))) ++ (cutOf s q (runes s).length)).toArray⟩) (by rfl) (by kernel_rfl) (vop_sAddL (a := ((cutOf s 0 p) ++ (encA (((runes s).drop p).take (q - p))))) (b := (cutOf s q (runes s).length)) rfl rfl rfl (by first | omega | (simp only [List.length_append]; omega))) (by kernel_rfl) ?_
         refine RW.w ?_
         refine RW.vop (v := .bool true) (by rfl) (by kernel_rfl) (vop_sEq rfl rfl rfl (beq_iff_eq.2 (cut_join hvs p q _ hpq hqn rfl))) (by kernel_rfl) ?_
         iterate 2 refine RW.v ?_
         refine RW.nil ?_
         refine W.ret ?_
         refine endG (by rfl) (by exact resL_tmp rfl) ?_
         exact rfl
       ·have hc10b := hc10
        iterate 7 refine RW.s ?_
        iterate 2 refine RW.v ?_
        refine RW.w ?_
        refine RW.cl (hw := by rfl) ?_
        refine ⟨_, _, (s_rvalidX (bs := s) (by omega)), ?_⟩
        iterate 2 refine RW.w ?_
        refine RW.both _ _ rfl rfl rfl (fun hc23 => ?_) (fun hc23 => ?_)
        ·have hc23b := hc23
         have hvs : validD s = false := by simpa using hc23b
         have hXb : XA = ([], 5) := by rw [hXA]; exact repl_bad hvs
         refine RW.w ?_
         refine RW.valE (v' := .bool false) (by rfl) (by kernel_rfl) rfl (congrArg Value.bool (bne_eq_false_iff_eq.2 (by rw [hXb]))) (by kernel_rfl) ?_
         refine RW.w ?_
         refine RW.v ?_
         refine RW.nil ?_
         refine W.c0 ?_
         refine W.skip ?_
         refine W.seq ?_
         refine W.seq (W.region ?_)
         refine RW.v ?_
         refine RW.len (by kernel_rfl) (by kernel_rfl) rfl rfl rfl rfl ((hg.le le0).len (e := 35) (by kernel_rfl)) (by kernel_rfl) ?_
         iterate 2 refine RW.v ?_
         refine RW.both _ _ rfl rfl rfl (fun hc24 => ?_) (fun hc24 => ?_)
         ·have hc24b := hc24
          have hc24 := eq_of_beq hc24
          iterate 3 refine RW.s ?_
          refine RW.v ?_
          refine RW.nil ?_
          refine W.c1 ?_
          refine W.seq (W.region ?_)
          refine RW.v ?_
          refine RW.nil ?_
          refine W.ret ?_
          refine seqQ_ret ?_
          refine endG (by rfl) (by exact resL_tmp rfl) ?_
          exact rfl
         ·have hc24b := hc24
          have hc24 := ne_of_beq_false hc24
          have h0g : 0 < gs.length := by omega
          refine RW.w ?_
          refine RW.cl (hw := by rfl) ?_
          refine ⟨_, _, (s_rvalidE hvs (by omega)), ?_⟩
          refine RW.w ?_
          refine RW.v ?_
          refine RW.nil ?_
          refine W.c1 ?_
          refine W.seq (W.region ?_)
          refine RW.v ?_
          refine RW.nil ?_
          refine W.ret ?_
          refine seqQ_ret ?_
          refine endG (by rfl) (by exact resL_tmp rfl) ?_
          exact rfl
        ·have hc23b := hc23
         have hvs : validD s = true := by simpa using hc23b
         iterate 2 refine RW.s ?_
         refine RW.w ?_
         refine RW.v ?_
         refine RW.nil ?_
         refine W.c0 ?_
         refine W.skip ?_
         refine W.seq ?_
         refine W.seq (W.region ?_)
         refine RW.v ?_
         refine RW.len (by kernel_rfl) (by kernel_rfl) rfl rfl rfl rfl ((hg.le le0).len (e := 35) (by kernel_rfl)) (by kernel_rfl) ?_
         iterate 2 refine RW.v ?_
         refine RW.both _ _ rfl rfl rfl (fun hc25 => ?_) (fun hc25 => ?_)
         ·have hc25b := hc25
          have hc25 := eq_of_beq hc25
          iterate 3 refine RW.s ?_
          refine RW.v ?_
          refine RW.nil ?_
          refine W.c1 ?_
          refine W.seq (W.region ?_)
          refine RW.v ?_
          refine RW.nil ?_
          refine W.ret ?_
          refine seqQ_ret ?_
          refine endG (by rfl) (by exact resL_tmp rfl) ?_
          exact rfl
         ·have hc25b := hc25
          have hc25 := ne_of_beq_false hc25
          have h0g : 0 < gs.length := by omega
          refine RW.w ?_
          refine RW.cl (hw := by rfl) ?_
          refine ⟨_, _, (s_rvalidE hvs (by omega)), ?_⟩
          refine RW.w ?_
          refine RW.v ?_
          refine RW.nil ?_
          refine W.c0 ?_
          refine W.skip ?_
          refine W.seq (W.region ?_)
          refine RW.v ?_
          refine RW.cl ?_
          refine ⟨_, _, (s_rlen hvs (by omega)), ?_⟩
          refine RW.v ?_
          refine RW.nil ?_
          refine W.rg [(2, .string ⟨s.toArray⟩), (3, gv), (17, .int .i64 (((runes s).length : Nat) : Int))] fun TA => ?_
          refine W.seq (W.region ?_)
          refine RW.v ?_
          refine RW.idxF (hg.le le0) (by kernel_rfl) (by kernel_rfl) rfl Tryd.underlying32 (by kernel_rfl) rfl rfl ⟨by omega, by omega⟩ (by kernel_rfl) ?_
          intro b26 q27 r28 hF29 hE30
          rw [rng_at (l := gs) (j := 0) (i := 0) (by omega) (by omega)] at hE30
          refine RW.v ?_
          refine RW.loads 1 (by kernel_rfl) (by kernel_rfl) rfl rfl (H.old _ _ hF29) (sub_take hE30 0 1 (by decide)) rfl (by kernel_rfl) ?_
          refine RW.v ?_
          refine RW.valE (v' := .int .i64 ((((runes s).length + 1) : Nat) : Int)) (by kernel_rfl) (by kernel_rfl) rfl (congrArg (Value.int .i64) ((wrap_in (by omega) (by omega)).trans (by omega))) (by kernel_rfl) ?_
          obtain ⟨p, hp0, hpn⟩ := pick_nat ((gD gs 0).1) (n := ((((runes s).length + 1) : Nat) : Int)) (m := (runes s).length) (by omega)
          refine RW.cl ?_
          refine ⟨_, _, (s_pickE hp0 (hgb _ (g_mem h0g)).1.1 (hgb _ (g_mem h0g)).1.2 (by omega) (by omega)), ?_⟩
          refine RW.v ?_
          refine RW.nil ?_
          refine W.rg [(2, .string ⟨s.toArray⟩), (3, gv), (17, .int .i64 (((runes s).length : Nat) : Int)), (18, .int .i64 ((p : Nat) : Int))] fun TA => ?_
          refine W.seq (W.region ?_)
          iterate 2 refine RW.v ?_
          refine RW.idxF (hg.le le0) (by kernel_rfl) (by kernel_rfl) rfl Tryd.underlying32 (by kernel_rfl) rfl rfl ⟨by omega, by omega⟩ (by kernel_rfl) ?_
          intro b31 q32 r33 hF34 hE35
          rw [rng_at (l := gs) (j := 0) (i := 0) (by omega) (by omega)] at hE35
          refine RW.v ?_
          refine RW.loads 1 (by kernel_rfl) (by kernel_rfl) rfl rfl (H.old _ _ hF34) (sub_take hE35 1 1 (by decide)) rfl (by kernel_rfl) ?_
          refine RW.v ?_
          refine RW.valE (v' := .int .i64 ((((runes s).length + 1) : Nat) : Int)) (by kernel_rfl) (by kernel_rfl) rfl (congrArg (Value.int .i64) ((wrap_in (by omega) (by omega)).trans (by omega))) (by kernel_rfl) ?_
          refine RW.v ?_
          refine RW.valE (v' := .int .i64 (((((runes s).length + 1) - p) : Nat) : Int)) (by kernel_rfl) (by kernel_rfl) rfl (congrArg (Value.int .i64) ((wrap_in (by omega) (by omega)).trans (by omega))) (by kernel_rfl) ?_
          obtain ⟨d, hd0, hdn⟩ := pick_nat ((gD gs 0).2) (n := (((((runes s).length + 1) - p) : Nat) : Int)) (m := (runes s).length - p) (by omega)
          obtain ⟨q, hq0⟩ : ∃ q, q = p + d := ⟨_, rfl⟩
          have hpq : p ≤ q := by omega
          have hqn : q ≤ (runes s).length := by omega
          refine RW.cl ?_
          refine ⟨_, _, (s_pickE hd0 (hgb _ (g_mem h0g)).2.1 (hgb _ (g_mem h0g)).2.2 (by omega) (by omega)), ?_⟩
          refine RW.valE (v' := .int .i64 ((q : Nat) : Int)) (by kernel_rfl) (by kernel_rfl) rfl (congrArg (Value.int .i64) ((wrap_in (by omega) (by omega)).trans (by omega))) (by kernel_rfl) ?_
          refine RW.v ?_
          refine RW.nil ?_
          refine W.rg [(2, .string ⟨s.toArray⟩), (17, .int .i64 (((runes s).length : Nat) : Int)), (18, .int .i64 ((p : Nat) : Int)), (19, .int .i64 ((q : Nat) : Int))] fun TA => ?_
          refine W.seq (W.region ?_)
          iterate 2 refine RW.v ?_
          refine RW.cl ?_
          refine ⟨_, _, (s_rcut hvs (by omega) (Nat.zero_le p) (by omega)), ?_⟩
          iterate 5 refine RW.v ?_
          refine RW.nil ?_
          refine W.rg [(2, .string ⟨s.toArray⟩), (17, .int .i64 (((runes s).length : Nat) : Int)), (18, .int .i64 ((p : Nat) : Int)), (19, .int .i64 ((q : Nat) : Int)), (20, .string ⟨(cutOf s 0 p).toArray⟩)] fun TA => ?_
          refine W.seq (W.region ?_)
          iterate 3 refine RW.v ?_
          refine RW.cl ?_
          refine ⟨_, _, (s_rcut hvs (by omega) hqn (Nat.le_refl _)), ?_⟩
          iterate 5 refine RW.v ?_
          refine RW.nil ?_
          refine W.rg [(2, .string ⟨s.toArray⟩), (18, .int .i64 ((p : Nat) : Int)), (19, .int .i64 ((q : Nat) : Int)), (20, .string ⟨(cutOf s 0 p).toArray⟩), (22, .string ⟨(cutOf s q (runes s).length).toArray⟩)] fun TA => ?_
          refine W.seq (W.region ?_)
          iterate 3 refine RW.v ?_
          refine RW.val (v := .agg #[.int .i64 ((p : Nat) : Int), .int .i64 ((q : Nat) : Int)]) (by kernel_rfl) (by kernel_rfl) (by kernel_rfl) (by kernel_rfl) ?_
          refine RW.mkL H (x := .row ⟨[.int .i64 ((p : Nat) : Int), .int .i64 ((q : Nat) : Int)], 35, false⟩) (fm := fun b => .slice (some ⟨b, 0, none⟩) 1 1) (by kernel_rfl) (by kernel_rfl) (by kernel_rfl) (by kernel_rfl) ?_
          clear H; intro _ b36 _ H
          obtain ⟨F, le, hq, H⟩ := H.freeze 0 rfl
          dsimp only [setL, delL] at H
          replace le0 := fun b y h => le b y (le0 b y h)
          clear le
          have hq2 : SlF F 2 (.slice (some ⟨b36, 0, none⟩) 1 1) [((p : Int), (q : Int))].length (gC [((p : Int), (q : Int))]) := .some hq rfl rfl
          have hc1 := cut_len4 s 0 p
          have hc2 := cut_len4 s q (runes s).length
          have hc3 := cut_len4 s p q
          rw [show cutOf s p q = encA (((runes s).drop p).take (q - p)) from rfl] at hc3
          have hp := replace_wc (a := [92, 38]) (s := s) (hU.le le0) h16 hq2 (by decide) hs2 H
          rw [repl_all hvs hpq hqn] at hp
          dsimp only at hp
          refine RW.cl ?_
          refine ((hp).mono ?_)
          clear hp H
          rintro _ _ ⟨rfl, H⟩
          iterate 5 refine RW.v ?_
          refine RW.nil ?_
          refine W.rg [(2, .string ⟨s.toArray⟩), (20, .string ⟨(cutOf s 0 p).toArray⟩), (22, .string ⟨(cutOf s q (runes s).length).toArray⟩), (24, .string ⟨(encA (((runes s).drop p).take (q - p))).toArray⟩), (25, .int .i64 0)] fun TA => ?_
          refine W.seq (W.region ?_)
          iterate 3 refine RW.v ?_
          iterate 2 refine RW.w ?_
          refine RW.vop (v := .string ⟨((cutOf s 0 p) ++ (encA (((runes s).drop p).take (q - p)))).toArray⟩) (by rfl) (by kernel_rfl) (vop_sAddL (a := (cutOf s 0 p)) (b := (encA (((runes s).drop p).take (q - p)))) rfl rfl rfl (by first | omega | (simp only [List.length_append]; omega))) (by kernel_rfl) ?_
          refine RW.w ?_
          refine RW.vop (v := .string ⟨(((cutOf s 0 p) ++ (encA (((runes s).drop p).take (q - p)))) ++ (cutOf s q (runes s).length)).toArray⟩) (by rfl) (by kernel_rfl) (vop_sAddL (a := ((cutOf s 0 p) ++ (encA (((runes s).drop p).take (q - p))))) (b := (cutOf s q (runes s).length)) rfl rfl rfl (by first | omega | (simp only [List.length_append]; omega))) (by kernel_rfl) ?_
          refine RW.w ?_
          refine RW.vop (v := .bool true) (by rfl) (by kernel_rfl) (vop_sEq rfl rfl rfl (beq_iff_eq.2 (cut_join hvs p q _ hpq hqn rfl))) (by kernel_rfl) ?_
          iterate 2 refine RW.v ?_
          refine RW.nil ?_
          refine W.ret ?_
          refine endG (by rfl) (by exact resL_tmp rfl) ?_
          exact rfl
     ·have hc7b := hc7
      iterate 2 refine RW.s ?_
      iterate 2 refine RW.v ?_
      refine RW.nil ?_
      refine W.rg [(0, .string ⟨a.toArray⟩), (2, .string ⟨s.toArray⟩), (3, gv), (9, .string ⟨XA.1.toArray⟩), (10, .int .i64 XA.2), (15, .bool false)] fun TA => ?_
      refine W.seq ?_
      refine W.seq (W.region ?_)
      refine RW.v ?_
      refine RW.nil ?_
      refine W.rg [(0, .string ⟨a.toArray⟩), (2, .string ⟨s.toArray⟩), (3, gv), (9, .string ⟨XA.1.toArray⟩), (10, .int .i64 XA.2), (15, .bool false), (16, .int .i64 0)] fun TA => ?_
      refine W.block ?_
      refine W.loop (fun mm ta σ => ∃ (i : Nat) (pl : Bool), (mm + i = a.length) ∧ (pl = true → validD a = true ∧ validD s = true ∧ (92 : UInt8) ∉ a.take i) ∧ Lies G Abs.no F σ (([])) ∧ ta 0 = .string ⟨a.toArray⟩ ∧ ta 2 = .string ⟨s.toArray⟩ ∧ ta 3 = gv ∧ ta 9 = .string ⟨XA.1.toArray⟩ ∧ ta 10 = .int .i64 XA.2 ∧ ta 15 = .bool pl ∧ ta 16 = .int .i64 ((i : Nat) : Int)) a.length ?_ ?_
      ·exact ⟨0, false, (by omega), (fun e => Bool.noConfusion e), H, rfl, rfl, rfl, rfl, rfl, rfl, rfl⟩
      clear H
      rintro mm ta _ ⟨i, pl, hm, hpl, H, e0, e2, e3, e9, e10, e15, e16⟩
      refine W.rst [(0, .string ⟨a.toArray⟩), (2, .string ⟨s.toArray⟩), (3, gv), (9, .string ⟨XA.1.toArray⟩), (10, .int .i64 XA.2), (15, .bool pl), (16, .int .i64 ((i : Nat) : Int))] ⟨e0, e2, e3, e9, e10, e15, e16, trivial⟩ fun TA => ?_
      clear e0 e2 e3 e9 e10 e15 e16
      refine W.seq ?_
      refine W.seq (W.region ?_)
      iterate 2 refine RW.v ?_
      refine RW.vop (v := .int .i64 (a.length : Int)) (by kernel_rfl) (by kernel_rfl) (vop_sLenL rfl rfl rfl rfl Tryd.underlying9 rfl) (by kernel_rfl) ?_
      refine RW.v ?_
      refine RW.nil ?_
      refine W.rg [(0, .string ⟨a.toArray⟩), (2, .string ⟨s.toArray⟩), (3, gv), (9, .string ⟨XA.1.toArray⟩), (10, .int .i64 XA.2), (15, .bool pl), (16, .int .i64 ((i : Nat) : Int)), (107, .bool (decide (((i : Nat) : Int) < (a.length : Int))))] fun TA => ?_
      refine W.cond rfl (fun hc37 => ?_) (fun hc37 => ?_)
      ·have hc37b := hc37
       have hc37 := of_decide_eq_true hc37
       have hil : i < a.length := by omega
       refine W.skip ?_
       refine W.seq ?_
       refine W.block ?_
       refine W.region ?_
       iterate 2 refine RW.v ?_
       refine RW.both _ _ rfl rfl rfl (fun hc38 => ?_) (fun hc38 => ?_)
       ·have hc38b := hc38
        iterate 2 refine RW.w ?_
        refine RW.vop (v := .int .u8 ((a.getD i 0).toNat : Int)) (by rfl) (by kernel_rfl) (vop_sAtL (a := a) (j := i) rfl rfl rfl Tryd.underlying9 (by omega)) (by kernel_rfl) ?_
        refine RW.w ?_
        iterate 2 refine RW.v ?_
        refine RW.nil ?_
        refine blkQ_normal ?_
        refine W.rg [(0, .string ⟨a.toArray⟩), (2, .string ⟨s.toArray⟩), (3, gv), (9, .string ⟨XA.1.toArray⟩), (10, .int .i64 XA.2), (15, .bool (((a.getD i 0).toNat : Int) != 92)), (16, .int .i64 ((i : Nat) : Int))] fun TA => ?_
        refine W.region ?_
        refine RW.v ?_
        refine RW.valE (v' := .int .i64 (((i + 1) : Nat) : Int)) (by kernel_rfl) (by kernel_rfl) rfl (congrArg (Value.int .i64) ((wrap_in (by omega) (by omega)).trans (by omega))) (by kernel_rfl) ?_
        refine RW.v ?_
        refine RW.nil ?_
        exact ⟨rfl, mm - 1, by omega, i + 1, ((a.getD i 0).toNat : Int) != 92, (by omega), (fun e => (pl_snoc hil (hpl hc38) e)), H, rfl, rfl, rfl, rfl, rfl, rfl, rfl⟩
       ·have hc38b := hc38
        iterate 4 refine RW.s ?_
        iterate 2 refine RW.v ?_
        refine RW.nil ?_
        refine blkQ_normal ?_
        refine W.rg [(0, .string ⟨a.toArray⟩), (2, .string ⟨s.toArray⟩), (3, gv), (9, .string ⟨XA.1.toArray⟩), (10, .int .i64 XA.2), (15, .bool false), (16, .int .i64 ((i : Nat) : Int))] fun TA => ?_
        refine W.region ?_
        refine RW.v ?_
        refine RW.valE (v' := .int .i64 (((i + 1) : Nat) : Int)) (by kernel_rfl) (by kernel_rfl) rfl (congrArg (Value.int .i64) ((wrap_in (by omega) (by omega)).trans (by omega))) (by kernel_rfl) ?_
        refine RW.v ?_
        refine RW.nil ?_
        exact ⟨rfl, mm - 1, by omega, i + 1, false, (by omega), (fun e => Bool.noConfusion e), H, rfl, rfl, rfl, rfl, rfl, rfl, rfl⟩
      ·have hc37b := hc37
       have hc37 := of_decide_eq_false hc37
       refine W.exit _ ?_
       refine seqQ_exit ?_
       refine rndQ_exit ?_
       obtain rfl : i = a.length := by omega
       rw [List.take_length] at hpl
       refine blkQ_here ?_
       refine W.seq ?_
       refine W.seq (W.region ?_)
       iterate 2 refine RW.v ?_
       refine RW.both _ _ rfl rfl rfl (fun hc39 => ?_) (fun hc39 => ?_)
       ·have hc39b := hc39
        obtain ⟨pva, pvs, pno⟩ := hpl hc39
        have hXp : XA = (a, 0) := by rw [hXA]; exact repl_plain pva pvs (no_bs pva pno)
        have hvs := pvs
        refine RW.w ?_
        refine RW.valE (v' := .bool false) (by rfl) (by kernel_rfl) rfl (congrArg Value.bool (bne_eq_false_iff_eq.2 (by rw [hXp]))) (by kernel_rfl) ?_
        iterate 3 refine RW.w ?_
        refine RW.vop (v := .bool false) (by rfl) (by kernel_rfl) (vop_sNe rfl rfl rfl (by rw [hXp]; simp)) (by kernel_rfl) ?_
        refine RW.w ?_
        iterate 2 refine RW.v ?_
        refine RW.w ?_
        refine RW.cl (hw := by rfl) ?_
        refine ⟨_, _, (s_rvalidE pvs (by omega)), ?_⟩
        iterate 2 refine RW.w ?_
        iterate 2 refine RW.s ?_
        refine RW.w ?_
        refine RW.v ?_
        refine RW.nil ?_
        refine W.c0 ?_
        refine W.skip ?_
        refine W.seq ?_
        refine W.seq (W.region ?_)
        refine RW.v ?_
        refine RW.len (by kernel_rfl) (by kernel_rfl) rfl rfl rfl rfl ((hg.le le0).len (e := 35) (by kernel_rfl)) (by kernel_rfl) ?_
        iterate 2 refine RW.v ?_
        refine RW.both _ _ rfl rfl rfl (fun hc40 => ?_) (fun hc40 => ?_)
        ·have hc40b := hc40
         have hc40 := eq_of_beq hc40
         iterate 3 refine RW.s ?_
         refine RW.v ?_
         refine RW.nil ?_
         refine W.c1 ?_
         refine W.seq (W.region ?_)
         refine RW.v ?_
         refine RW.nil ?_
         refine W.ret ?_
         refine seqQ_ret ?_
         refine endG (by rfl) (by exact resL_tmp rfl) ?_
         exact rfl
        ·have hc40b := hc40
         have hc40 := ne_of_beq_false hc40
         have h0g : 0 < gs.length := by omega
         refine RW.w ?_
         refine RW.cl (hw := by rfl) ?_
         refine ⟨_, _, (s_rvalidE pvs (by omega)), ?_⟩
         refine RW.w ?_
         refine RW.v ?_
         refine RW.nil ?_
         refine W.c0 ?_
         refine W.skip ?_
         refine W.seq (W.region ?_)
         refine RW.v ?_
         refine RW.cl ?_
         refine ⟨_, _, (s_rlen hvs (by omega)), ?_⟩
         refine RW.v ?_
         refine RW.nil ?_
         refine W.rg [(2, .string ⟨s.toArray⟩), (3, gv), (17, .int .i64 (((runes s).length : Nat) : Int))] fun TA => ?_
         refine W.seq (W.region ?_)
         refine RW.v ?_
         refine RW.idxF (hg.le le0) (by kernel_rfl) (by kernel_rfl) rfl Tryd.underlying32 (by kernel_rfl) rfl rfl ⟨by omega, by omega⟩ (by kernel_rfl) ?_
         intro b41 q42 r43 hF44 hE45
         rw [rng_at (l := gs) (j := 0) (i := 0) (by omega) (by omega)] at hE45
         refine RW.v ?_
         refine RW.loads 1 (by kernel_rfl) (by kernel_rfl) rfl rfl (H.old _ _ hF44) (sub_take hE45 0 1 (by decide)) rfl (by kernel_rfl) ?_
         refine RW.v ?_
         refine RW.valE (v' := .int .i64 ((((runes s).length + 1) : Nat) : Int)) (by kernel_rfl) (by kernel_rfl) rfl (congrArg (Value.int .i64) ((wrap_in (by omega) (by omega)).trans (by omega))) (by kernel_rfl) ?_
         obtain ⟨p, hp0, hpn⟩ := pick_nat ((gD gs 0).1) (n := ((((runes s).length + 1) : Nat) : Int)) (m := (runes s).length) (by omega)
         refine RW.cl ?_
         refine ⟨_, _, (s_pickE hp0 (hgb _ (g_mem h0g)).1.1 (hgb _ (g_mem h0g)).1.2 (by omega) (by omega)), ?_⟩
         refine RW.v ?_
         refine RW.nil ?_
         refine W.rg [(2, .string ⟨s.toArray⟩), (3, gv), (17, .int .i64 (((runes s).length : Nat) : Int)), (18, .int .i64 ((p : Nat) : Int))] fun TA => ?_
         refine W.seq (W.region ?_)
         iterate 2 refine RW.v ?_
         refine RW.idxF (hg.le le0) (by kernel_rfl) (by kernel_rfl) rfl Tryd.underlying32 (by kernel_rfl) rfl rfl ⟨by omega, by omega⟩ (by kernel_rfl) ?_
         intro b46 q47 r48 hF49 hE50
         rw [rng_at (l := gs) (j := 0) (i := 0) (by omega) (by omega)] at hE50
         refine RW.v ?_
         refine RW.loads 1 (by kernel_rfl) (by kernel_rfl) rfl rfl (H.old _ _ hF49) (sub_take hE50 1 1 (by decide)) rfl (by kernel_rfl) ?_
         refine RW.v ?_
         refine RW.valE (v' := .int .i64 ((((runes s).length + 1) : Nat) : Int)) (by kernel_rfl) (by kernel_rfl) rfl (congrArg (Value.int .i64) ((wrap_in (by omega) (by omega)).trans (by omega))) (by kernel_rfl) ?_
         refine RW.v ?_
         refine RW.valE (v' := .int .i64 (((((runes s).length + 1) - p) : Nat) : Int)) (by kernel_rfl) (by kernel_rfl) rfl (congrArg (Value.int .i64) ((wrap_in (by omega) (by omega)).trans (by omega))) (by kernel_rfl) ?_
         obtain ⟨d, hd0, hdn⟩ := pick_nat ((gD gs 0).2) (n := (((((runes s).length + 1) - p) : Nat) : Int)) (m := (runes s).length - p) (by omega)
         obtain ⟨q, hq0⟩ : ∃ q, q = p + d := ⟨_, rfl⟩
         have hpq : p ≤ q := by omega
         have hqn : q ≤ (runes s).length := by omega
         refine RW.cl ?_
         refine ⟨_, _, (s_pickE hd0 (hgb _ (g_mem h0g)).2.1 (hgb _ (g_mem h0g)).2.2 (by omega) (by omega)), ?_⟩
         refine RW.valE (v' := .int .i64 ((q : Nat) : Int)) (by kernel_rfl) (by kernel_rfl) rfl (congrArg (Value.int .i64) ((wrap_in (by omega) (by omega)).trans (by omega))) (by kernel_rfl) ?_
         refine RW.v ?_
         refine RW.nil ?_
         refine W.rg [(2, .string ⟨s.toArray⟩), (17, .int .i64 (((runes s).length : Nat) : Int)), (18, .int .i64 ((p : Nat) : Int)), (19, .int .i64 ((q : Nat) : Int))] fun TA => ?_
         refine W.seq (W.region ?_)
         iterate 2 refine RW.v ?_
         refine RW.cl ?_
         refine ⟨_, _, (s_rcut hvs (by omega) (Nat.zero_le p) (by omega)), ?_⟩
         iterate 5 refine RW.v ?_
         refine RW.nil ?_
         refine W.rg [(2, .string ⟨s.toArray⟩), (17, .int .i64 (((runes s).length : Nat) : Int)), (18, .int .i64 ((p : Nat) : Int)), (19, .int .i64 ((q : Nat) : Int)), (20, .string ⟨(cutOf s 0 p).toArray⟩)] fun TA => ?_
         refine W.seq (W.region ?_)
         iterate 3 refine RW.v ?_
         refine RW.cl ?_
         refine ⟨_, _, (s_rcut hvs (by omega) hqn (Nat.le_refl _)), ?_⟩
         iterate 5 refine RW.v ?_
         refine RW.nil ?_
         refine W.rg [(2, .string ⟨s.toArray⟩), (18, .int .i64 ((p : Nat) : Int)), (19, .int .i64 ((q : Nat) : Int)), (20, .string ⟨(cutOf s 0 p).toArray⟩), (22, .string ⟨(cutOf s q (runes s).length).toArray⟩)] fun TA => ?_
         refine W.seq (W.region ?_)
         iterate 3 refine RW.v ?_
         refine RW.val (v := .agg #[.int .i64 ((p : Nat) : Int), .int .i64 ((q : Nat) : Int)]) (by kernel_rfl) (by kernel_rfl) (by kernel_rfl) (by kernel_rfl) ?_
         refine RW.mkL H (x := .row ⟨[.int .i64 ((p : Nat) : Int), .int .i64 ((q : Nat) : Int)], 35, false⟩) (fm := fun b => .slice (some ⟨b, 0, none⟩) 1 1) (by kernel_rfl) (by kernel_rfl) (by kernel_rfl) (by kernel_rfl) ?_
         clear H; intro _ b51 _ H
         obtain ⟨F, le, hq, H⟩ := H.freeze 0 rfl
         dsimp only [setL, delL] at H
         replace le0 := fun b y h => le b y (le0 b y h)
         clear le
         have hq2 : SlF F 2 (.slice (some ⟨b51, 0, none⟩) 1 1) [((p : Int), (q : Int))].length (gC [((p : Int), (q : Int))]) := .some hq rfl rfl
         have hc1 := cut_len4 s 0 p
         have hc2 := cut_len4 s q (runes s).length
         have hc3 := cut_len4 s p q
         rw [show cutOf s p q = encA (((runes s).drop p).take (q - p)) from rfl] at hc3
         have hp := replace_wc (a := [92, 38]) (s := s) (hU.le le0) h16 hq2 (by decide) hs2 H
         rw [repl_all hvs hpq hqn] at hp
         dsimp only at hp
         refine RW.cl ?_
         refine ((hp).mono ?_)
         clear hp H
         rintro _ _ ⟨rfl, H⟩
         iterate 5 refine RW.v ?_
         refine RW.nil ?_
         refine W.rg [(2, .string ⟨s.toArray⟩), (20, .string ⟨(cutOf s 0 p).toArray⟩), (22, .string ⟨(cutOf s q (runes s).length).toArray⟩), (24, .string ⟨(encA (((runes s).drop p).take (q - p))).toArray⟩), (25, .int .i64 0)] fun TA => ?_
         refine W.seq (W.region ?_)
         iterate 3 refine RW.v ?_
         iterate 2 refine RW.w ?_
         refine RW.vop (v := .string ⟨((cutOf s 0 p) ++ (encA (((runes s).drop p).take (q - p)))).toArray⟩) (by rfl) (by kernel_rfl) (vop_sAddL (a := (cutOf s 0 p)) (b := (encA (((runes s).drop p).take (q - p)))) rfl rfl rfl (by first | omega | (simp only [List.length_append]; omega))) (by kernel_rfl) ?_
         refine RW.w ?_
         refine RW.vop (v := .string ⟨(((cutOf s 0 p) ++ (encA (((runes s).drop p).take (q - p)))) ++ (cutOf s q (runes s).length)).toArray⟩) (by rfl) (by kernel_rfl) (vop_sAddL (a := ((cutOf s 0 p) ++ (encA (((runes s).drop p).take (q - p))))) (b := (cutOf s q (runes s).length)) rfl rfl rfl (by first | omega | (simp only [List.length_append]; omega))) (by kernel_rfl) ?_
         refine RW.w ?_
         refine RW.vop (v := .bool true) (by rfl) (by kernel_rfl) (vop_sEq rfl rfl rfl (beq_iff_eq.2 (cut_join hvs p q _ hpq hqn rfl))) (by kernel_rfl) ?_
         iterate 2 refine RW.v ?_
         refine RW.nil ?_
         refine W.ret ?_
         refine endG (by rfl) (by exact resL_tmp rfl) ?_
         exact rfl
       ·have hc39b := hc39
        iterate 7 refine RW.s ?_
        iterate 2 refine RW.v ?_
        refine RW.w ?_
        refine RW.cl (hw := by rfl) ?_
        refine ⟨_, _, (s_rvalidX (bs := s) (by omega)), ?_⟩
        iterate 2 refine RW.w ?_
        refine RW.both _ _ rfl rfl rfl (fun hc52 => ?_) (fun hc52 => ?_)
        ·have hc52b := hc52
         have hvs : validD s = false := by simpa using hc52b
         have hXb : XA = ([], 5) := by rw [hXA]; exact repl_bad hvs
         refine RW.w ?_
         refine RW.valE (v' := .bool false) (by rfl) (by kernel_rfl) rfl (congrArg Value.bool (bne_eq_false_iff_eq.2 (by rw [hXb]))) (by kernel_rfl) ?_
         refine RW.w ?_
         refine RW.v ?_
         refine RW.nil ?_
         refine W.c0 ?_
         refine W.skip ?_
         refine W.seq ?_
         refine W.seq (W.region ?_)
         refine RW.v ?_
         refine RW.len (by kernel_rfl) (by kernel_rfl) rfl rfl rfl rfl ((hg.le le0).len (e := 35) (by kernel_rfl)) (by kernel_rfl) ?_
         iterate 2 refine RW.v ?_
         refine RW.both _ _ rfl rfl rfl (fun hc53 => ?_) (fun hc53 => ?_)
         ·have hc53b := hc53
          have hc53 := eq_of_beq hc53
          iterate 3 refine RW.s ?_
          refine RW.v ?_
          refine RW.nil ?_
          refine W.c1 ?_
          refine W.seq (W.region ?_)
          refine RW.v ?_
          refine RW.nil ?_
          refine W.ret ?_
          refine seqQ_ret ?_
          refine endG (by rfl) (by exact resL_tmp rfl) ?_
          exact rfl
         ·have hc53b := hc53
          have hc53 := ne_of_beq_false hc53
          have h0g : 0 < gs.length := by omega
          refine RW.w ?_
          refine RW.cl (hw := by rfl) ?_
          refine ⟨_, _, (s_rvalidE hvs (by omega)), ?_⟩
          refine RW.w ?_
          refine RW.v ?_
          refine RW.nil ?_
          refine W.c1 ?_
          refine W.seq (W.region ?_)
          refine RW.v ?_
          refine RW.nil ?_
          refine W.ret ?_
          refine seqQ_ret ?_
          refine endG (by rfl) (by exact resL_tmp rfl) ?_
          exact rfl
        ·have hc52b := hc52
         have hvs : validD s = true := by simpa using hc52b
         iterate 2 refine RW.s ?_
         refine RW.w ?_
         refine RW.v ?_
         refine RW.nil ?_
         refine W.c0 ?_
         refine W.skip ?_
         refine W.seq ?_
         refine W.seq (W.region ?_)
         refine RW.v ?_
         refine RW.len (by kernel_rfl) (by kernel_rfl) rfl rfl rfl rfl ((hg.le le0).len (e := 35) (by kernel_rfl)) (by kernel_rfl) ?_
         iterate 2 refine RW.v ?_
         refine RW.both _ _ rfl rfl rfl (fun hc54 => ?_) (fun hc54 => ?_)
         ·have hc54b := hc54
          have hc54 := eq_of_beq hc54
          iterate 3 refine RW.s ?_
          refine RW.v ?_
          refine RW.nil ?_
          refine W.c1 ?_
          refine W.seq (W.region ?_)
          refine RW.v ?_
          refine RW.nil ?_
          refine W.ret ?_
          refine seqQ_ret ?_
          refine endG (by rfl) (by exact resL_tmp rfl) ?_
          exact rfl
         ·have hc54b := hc54
          have hc54 := ne_of_beq_false hc54
          have h0g : 0 < gs.length := by omega
          refine RW.w ?_
          refine RW.cl (hw := by rfl) ?_
          refine ⟨_, _, (s_rvalidE hvs (by omega)), ?_⟩
          refine RW.w ?_
          refine RW.v ?_
          refine RW.nil ?_
          refine W.c0 ?_
          refine W.skip ?_
          refine W.seq (W.region ?_)
          refine RW.v ?_
          refine RW.cl ?_
          refine ⟨_, _, (s_rlen hvs (by omega)), ?_⟩
          refine RW.v ?_
          refine RW.nil ?_
          refine W.rg [(2, .string ⟨s.toArray⟩), (3, gv), (17, .int .i64 (((runes s).length : Nat) : Int))] fun TA => ?_
          refine W.seq (W.region ?_)
          refine RW.v ?_
          refine RW.idxF (hg.le le0) (by kernel_rfl) (by kernel_rfl) rfl Tryd.underlying32 (by kernel_rfl) rfl rfl ⟨by omega, by omega⟩ (by kernel_rfl) ?_
          intro b55 q56 r57 hF58 hE59
          rw [rng_at (l := gs) (j := 0) (i := 0) (by omega) (by omega)] at hE59
          refine RW.v ?_
          refine RW.loads 1 (by kernel_rfl) (by kernel_rfl) rfl rfl (H.old _ _ hF58) (sub_take hE59 0 1 (by decide)) rfl (by kernel_rfl) ?_
          refine RW.v ?_
          refine RW.valE (v' := .int .i64 ((((runes s).length + 1) : Nat) : Int)) (by kernel_rfl) (by kernel_rfl) rfl (congrArg (Value.int .i64) ((wrap_in (by omega) (by omega)).trans (by omega))) (by kernel_rfl) ?_
          obtain ⟨p, hp0, hpn⟩ := pick_nat ((gD gs 0).1) (n := ((((runes s).length + 1) : Nat) : Int)) (m := (runes s).length) (by omega)
          refine RW.cl ?_
          refine ⟨_, _, (s_pickE hp0 (hgb _ (g_mem h0g)).1.1 (hgb _ (g_mem h0g)).1.2 (by omega) (by omega)), ?_⟩
          refine RW.v ?_
          refine RW.nil ?_
          refine W.rg [(2, .string ⟨s.toArray⟩), (3, gv), (17, .int .i64 (((runes s).length : Nat) : Int)), (18, .int .i64 ((p : Nat) : Int))] fun TA => ?_
          refine W.seq (W.region ?_)
          iterate 2 refine RW.v ?_
          refine RW.idxF (hg.le le0) (by kernel_rfl) (by kernel_rfl) rfl Tryd.underlying32 (by kernel_rfl) rfl rfl ⟨by omega, by omega⟩ (by kernel_rfl) ?_
          intro b60 q61 r62 hF63 hE64
          rw [rng_at (l := gs) (j := 0) (i := 0) (by omega) (by omega)] at hE64
          refine RW.v ?_
          refine RW.loads 1 (by kernel_rfl) (by kernel_rfl) rfl rfl (H.old _ _ hF63) (sub_take hE64 1 1 (by decide)) rfl (by kernel_rfl) ?_
          refine RW.v ?_
          refine RW.valE (v' := .int .i64 ((((runes s).length + 1) : Nat) : Int)) (by kernel_rfl) (by kernel_rfl) rfl (congrArg (Value.int .i64) ((wrap_in (by omega) (by omega)).trans (by omega))) (by kernel_rfl) ?_
          refine RW.v ?_
          refine RW.valE (v' := .int .i64 (((((runes s).length + 1) - p) : Nat) : Int)) (by kernel_rfl) (by kernel_rfl) rfl (congrArg (Value.int .i64) ((wrap_in (by omega) (by omega)).trans (by omega))) (by kernel_rfl) ?_
          obtain ⟨d, hd0, hdn⟩ := pick_nat ((gD gs 0).2) (n := (((((runes s).length + 1) - p) : Nat) : Int)) (m := (runes s).length - p) (by omega)
          obtain ⟨q, hq0⟩ : ∃ q, q = p + d := ⟨_, rfl⟩
          have hpq : p ≤ q := by omega
          have hqn : q ≤ (runes s).length := by omega
          refine RW.cl ?_
          refine ⟨_, _, (s_pickE hd0 (hgb _ (g_mem h0g)).2.1 (hgb _ (g_mem h0g)).2.2 (by omega) (by omega)), ?_⟩
          refine RW.valE (v' := .int .i64 ((q : Nat) : Int)) (by kernel_rfl) (by kernel_rfl) rfl (congrArg (Value.int .i64) ((wrap_in (by omega) (by omega)).trans (by omega))) (by kernel_rfl) ?_
          refine RW.v ?_
          refine RW.nil ?_
          refine W.rg [(2, .string ⟨s.toArray⟩), (17, .int .i64 (((runes s).length : Nat) : Int)), (18, .int .i64 ((p : Nat) : Int)), (19, .int .i64 ((q : Nat) : Int))] fun TA => ?_
          refine W.seq (W.region ?_)
          iterate 2 refine RW.v ?_
          refine RW.cl ?_
          refine ⟨_, _, (s_rcut hvs (by omega) (Nat.zero_le p) (by omega)), ?_⟩
          iterate 5 refine RW.v ?_
          refine RW.nil ?_
          refine W.rg [(2, .string ⟨s.toArray⟩), (17, .int .i64 (((runes s).length : Nat) : Int)), (18, .int .i64 ((p : Nat) : Int)), (19, .int .i64 ((q : Nat) : Int)), (20, .string ⟨(cutOf s 0 p).toArray⟩)] fun TA => ?_
          refine W.seq (W.region ?_)
          iterate 3 refine RW.v ?_
          refine RW.cl ?_
          refine ⟨_, _, (s_rcut hvs (by omega) hqn (Nat.le_refl _)), ?_⟩
          iterate 5 refine RW.v ?_
          refine RW.nil ?_
          refine W.rg [(2, .string ⟨s.toArray⟩), (18, .int .i64 ((p : Nat) : Int)), (19, .int .i64 ((q : Nat) : Int)), (20, .string ⟨(cutOf s 0 p).toArray⟩), (22, .string ⟨(cutOf s q (runes s).length).toArray⟩)] fun TA => ?_
          refine W.seq (W.region ?_)
          iterate 3 refine RW.v ?_
          refine RW.val (v := .agg #[.int .i64 ((p : Nat) : Int), .int .i64 ((q : Nat) : Int)]) (by kernel_rfl) (by kernel_rfl) (by kernel_rfl) (by kernel_rfl) ?_
          refine RW.mkL H (x := .row ⟨[.int .i64 ((p : Nat) : Int), .int .i64 ((q : Nat) : Int)], 35, false⟩) (fm := fun b => .slice (some ⟨b, 0, none⟩) 1 1) (by kernel_rfl) (by kernel_rfl) (by kernel_rfl) (by kernel_rfl) ?_
          clear H; intro _ b65 _ H
          obtain ⟨F, le, hq, H⟩ := H.freeze 0 rfl
          dsimp only [setL, delL] at H
          replace le0 := fun b y h => le b y (le0 b y h)
          clear le
          have hq2 : SlF F 2 (.slice (some ⟨b65, 0, none⟩) 1 1) [((p : Int), (q : Int))].length (gC [((p : Int), (q : Int))]) := .some hq rfl rfl
          have hc1 := cut_len4 s 0 p
          have hc2 := cut_len4 s q (runes s).length
          have hc3 := cut_len4 s p q
          rw [show cutOf s p q = encA (((runes s).drop p).take (q - p)) from rfl] at hc3
          have hp := replace_wc (a := [92, 38]) (s := s) (hU.le le0) h16 hq2 (by decide) hs2 H
          rw [repl_all hvs hpq hqn] at hp
          dsimp only at hp
          refine RW.cl ?_
          refine ((hp).mono ?_)
          clear hp H
          rintro _ _ ⟨rfl, H⟩
          iterate 5 refine RW.v ?_
          refine RW.nil ?_
          refine W.rg [(2, .string ⟨s.toArray⟩), (20, .string ⟨(cutOf s 0 p).toArray⟩), (22, .string ⟨(cutOf s q (runes s).length).toArray⟩), (24, .string ⟨(encA (((runes s).drop p).take (q - p))).toArray⟩), (25, .int .i64 0)] fun TA => ?_
          refine W.seq (W.region ?_)
          iterate 3 refine RW.v ?_
          iterate 2 refine RW.w ?_
          refine RW.vop (v := .string ⟨((cutOf s 0 p) ++ (encA (((runes s).drop p).take (q - p)))).toArray⟩) (by rfl) (by kernel_rfl) (vop_sAddL (a := (cutOf s 0 p)) (b := (encA (((runes s).drop p).take (q - p)))) rfl rfl rfl (by first | omega | (simp only [List.length_append]; omega))) (by kernel_rfl) ?_
          refine RW.w ?_
          refine RW.vop (v := .string ⟨(((cutOf s 0 p) ++ (encA (((runes s).drop p).take (q - p)))) ++ (cutOf s q (runes s).length)).toArray⟩) (by rfl) (by kernel_rfl) (vop_sAddL (a := ((cutOf s 0 p) ++ (encA (((runes s).drop p).take (q - p))))) (b := (cutOf s q (runes s).length)) rfl rfl rfl (by first | omega | (simp only [List.length_append]; omega))) (by kernel_rfl) ?_
          refine RW.w ?_
          refine RW.vop (v := .bool true) (by rfl) (by kernel_rfl) (vop_sEq rfl rfl rfl (beq_iff_eq.2 (cut_join hvs p q _ hpq hqn rfl))) (by kernel_rfl) ?_
          iterate 2 refine RW.v ?_
          refine RW.nil ?_
          refine W.ret ?_
          refine endG (by rfl) (by exact resL_tmp rfl) ?_
          exact rfl
end Go.Proofs.YtmlmnbcnfalaaaaDoor
