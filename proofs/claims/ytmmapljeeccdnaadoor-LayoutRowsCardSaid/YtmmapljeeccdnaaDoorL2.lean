/-
 Rows of any arguments. Conditions: the tables of unicode/utf8 lie.
 Rows however many: rows of a number are the first ones of all; lines that fit are laid alike. Plain. Conditions: none.
 long, vast; what the law wants of rows, in plain words. Conditions: none.
-/
import Derived.Test.YtmmapljeeccdnaaDoorLyd
import Derived.Test.YtmmapljeeccdnaaDoorK1
import Derived.Test.YtmmapljeeccdnaaDoorK3
import Derived.Test.YtmmapljeeccdnaaDoorStr2
import Derived.Test.YtmmapljeeccdnaaDoorVmin
namespace Go.Proofs.YtmmapljeeccdnaaDoor
set_option maxRecDepth 100000
open Go.Lib
def errM (l : List Prt) (fr to_ wd tab most : Int) : Int := if checkM l fr to_ ≠ 0 then checkM l fr to_ else if wd < 4 ∨ 1000 < wd ∨ tab < 1 ∨ 64 < tab ∨ most < 0 ∨ 10000 < most then 3 else 0
def rowsA (l : List Prt) (fr to_ wd tab : Int) (wrap : Bool) (most : Int) : List RowV := if errM l fr to_ wd tab most = 0 then rowsM to_ wd.toNat wrap most.toNat (unitsM tab.toNat 0 (charsM l)) else []
theorem tosX_getD : ∀ {R : List RowV} {x : Int} (j : Nat), ((tosX R x).getD j default).C = (R.getD j default).C ∧ ((tosX R x).getD j default).P = (R.getD j default).P
 | [], _, _ => ⟨rfl, rfl⟩
 | [_], _, 0 => ⟨rfl, rfl⟩
 | [_], _, _ + 1 => ⟨rfl, rfl⟩
 | _ :: _ :: _, _, 0 => ⟨rfl, rfl⟩
 | _ :: q :: l, x, j + 1 => tosX_getD (R := q :: l) (x := x) j
theorem AllRow.tos {F : Nat → Option Blk2} {ds qs : List Value} {R : List RowV} {x : Int} (a : AllRow F ds qs R) : AllRow F ds qs (tosX R x) := by
 refine ⟨a.1.trans (tosX_len _ _).symm, a.2.1.trans (tosX_len _ _).symm, fun j hj => ?_⟩
 rw [tosX_len] at hj
 rw [(tosX_getD j).1, (tosX_getD j).2]
 exact a.2.2 j hj
def Wid (wd : Nat) (R : List RowV) : Prop := ∀ r ∈ R, r.C.length = wd ∧ r.P.length = wd
theorem RE_freeze {G : Nat} {A : Abs} {σ : Mem} {L : List Ent} {wd : Nat} : ∀ {B : List (Nat × Nat)} {R : List RowV} {F : Nat → Option Blk2}, B.length = R.length → Wid wd R → Lies G A F σ (REs B R ++ L) → ∃ F', Le F F' ∧ AllRow F' (csB wd B) (psB wd B) R ∧ Lies G A F' σ L
 | [], [], F, _, _, H => ⟨F, fun _ _ h => h, ⟨rfl, rfl, fun j hj => absurd hj (Nat.not_lt_zero _)⟩, H⟩
 | b :: B, r :: R, F, h, hw, H => by
  have hr := hw r (by simp)
  obtain ⟨F1, k1, hq1, H⟩ := H.freeze 0 rfl
  obtain ⟨F2, k2, hq2, H⟩ := H.freeze 0 rfl
  obtain ⟨F3, k3, a, H⟩ := RE_freeze (B := B) (R := R) (by simpa using h) (fun x hx => hw x (by simp [hx])) H
  refine ⟨F3, fun c y hc => k3 _ _ (k2 _ _ (k1 _ _ hc)), ⟨congrArg (· + 1) a.1, congrArg (· + 1) a.2.1, fun j hj => ?_⟩, H⟩
  match j with
  | 0 =>
   refine ⟨?_, ?_⟩
   ·show SlF F3 6 (.slice (some ⟨b.1, 0, none⟩) wd wd) r.C.length (cC r.C)
    rw [hr.1]
    exact .some (k3 _ _ (k2 _ _ hq1)) (by rw [cC_len, hr.1]) (List.take_of_length_le (by rw [List.drop_zero, cC_len, hr.1]; exact Nat.le_refl _))
   ·show SlF F3 1 (.slice (some ⟨b.2, 0, none⟩) wd wd) r.P.length (r.P.map (Value.int .i64))
    rw [hr.2]
    exact .some (k3 _ _ hq2) (by rw [List.length_map, hr.2, Nat.mul_one]) (List.take_of_length_le (by rw [List.drop_zero, List.length_map, hr.2, Nat.mul_one]; exact Nat.le_refl _))
  | j + 1 => exact a.2.2 j (by simpa using hj)
section
variable {to_ : Int} {wd : Nat} {wrap : Bool} {most : Nat}
def LOk (wd most : Nat) (s : LS) : Prop := s.f.Ok wd ∧ Wid wd s.R ∧ s.R.length ≤ most
theorem lok_emit {s : LS} {r : Fil} (h : LOk wd most s) (hr : r.Ok wd) : LOk wd most (emitS to_ most s r) := by
 unfold emitS
 split
 ·exact h
 ·rename_i k
  refine ⟨h.1, fun x hx => ?_, ?_⟩
  ·rcases List.mem_append.1 hx with hx | hx
   ·exact h.2.1 x hx
   ·obtain rfl := List.mem_singleton.1 hx
    exact ⟨hr.1, hr.2.1⟩
  ·have := h.2.2
   show (s.R ++ [rowOf r]).length ≤ most
   rw [List.length_append, List.length_singleton]
   omega
theorem lok_with {s : LS} {f : Fil} {ov : Bool} (h : LOk wd most s) (hf : f.Ok wd) : LOk wd most { s with f := f, ov := ov } := ⟨hf, h.2⟩
theorem lok_step {s : LS} {u : Un} (h1 : 1 ≤ wd) (h : LOk wd most s) : LOk wd most (uStep to_ wd wrap most s u) := by
 have hf : (if s.ov = true then s.f else endF s.f u.pos).Ok wd := by split; exact h.1; exact ok_end h.1
 unfold uStep
 generalize (if s.ov = true then s.f else endF s.f u.pos) = r at hf ⊢
 split
 ·split
  ·exact lok_emit h hf
  ·exact lok_with (lok_emit h hf) (ok_fil0 h1)
 ·split
  ·exact h
  ·split
   ·exact ⟨ok_put h.1, h.2⟩
   ·split
    ·split
     ·exact lok_emit h (ok_wrap h.1)
     ·exact ⟨ok_put (ok_fil0 h1), (lok_emit h (ok_wrap h.1)).2⟩
    ·exact lok_with h (ok_mark h.1)
theorem lok_run (h1 : 1 ≤ wd) : ∀ {l : List Un} {s : LS}, LOk wd most s → LOk wd most (runU to_ wd wrap most l s)
 | [], _, h => h
 | u :: l, s, h => by
  show LOk wd most (if s.dn = true then s else runU to_ wd wrap most l (uStep to_ wd wrap most s u))
  split
  ·exact h
  ·exact lok_run h1 (lok_step h1 h)
theorem lok_all (h1 : 1 ≤ wd) (l : List Un) : LOk wd most (allS to_ wd wrap most l) := by
 have h := lok_run (to_ := to_) (wrap := wrap) (most := most) h1 (l := l) (s := ⟨[], to_, fil0 wd, false, false⟩) ⟨ok_fil0 h1, fun r hr => by simp at hr, Nat.zero_le _⟩
 unfold allS finS
 split
 ·exact h
 ·refine lok_emit h ?_
  split
  ·exact h.1
  ·exact ok_end h.1
end
section
variable {G : Nat} {A : Abs} {σ : Mem} {F : Nat → Option Blk2} {L : List Ent} {l : List Prt} {v1 : Value} {fr to_ wd tab most : Int} {wrap : Bool}
set_option maxHeartbeats 8000000 in
theorem Rows_no (he : errM l fr to_ wd tab most ≠ 0) (hU : U8F F) (h16 : 16 ≤ G) (h1 : SlF F 9 v1 l.length (pC l)) (hl : l.length ≤ 1000000) (hsm : ∀ x ∈ l, x.s.length ≤ 1000000) (H : Lies G A F σ L) :
  WC G Tryd.prog 13 #[v1, .int .i64 fr, .int .i64 to_, .int .i64 wd, .int .i64 tab, .bool wrap, .int .i64 most] σ fun v σ' => v = .tuple #[.slice none 0 0, .int .i64 (errM l fr to_ wd tab most)] ∧ Lies G A F σ' L := by
 refine WC.enterD (fn := Tryd.f13) Tryd.func13 rfl ?_
 refine W.rg [(0, v1), (1, .int .i64 fr), (2, .int .i64 to_), (3, .int .i64 wd), (4, .int .i64 tab), (5, .bool wrap), (6, .int .i64 most)] fun TA => ?_
 refine W.seq (W.region ?_)
 refine RW.mk H (.row ⟨[.int .i64 to_], 3, false⟩) ?_
 clear H; intro _ b1 _ H
 refine RW.mk H (.row ⟨[.int .i64 most], 3, false⟩) ?_
 clear H; intro _ b2 _ H
 iterate 2 refine RW.v ?_
 refine RW.nil ?_
 refine W.rg [(0, v1), (1, .int .i64 fr), (3, .int .i64 wd), (4, .int .i64 tab), (5, .bool wrap), (9, .pointer (some ⟨b1, 0, none⟩)), (13, .pointer (some ⟨b2, 0, none⟩))] fun TA => ?_
 refine W.scope ?_
 refine W.seq ?_
 refine W.seq (W.region ?_)
 iterate 2 refine RW.v ?_
 refine RW.ld H 1 1 ?_
 refine RW.cl ?_
 refine ((Check_wc (l := l) (fr := fr) (to_ := to_) hU h16 h1 hl hsm H).mono ?_)
 clear H
 rintro _ _ ⟨rfl, H⟩
 refine RW.v ?_
 refine RW.nil ?_
 refine W.rg [(0, v1), (3, .int .i64 wd), (4, .int .i64 tab), (5, .bool wrap), (9, .pointer (some ⟨b1, 0, none⟩)), (13, .pointer (some ⟨b2, 0, none⟩)), (16, .int .i64 (checkM l fr to_))] fun TA => ?_
 refine W.seq (W.region ?_)
 iterate 2 refine RW.v ?_
 refine RW.nil ?_
 refine W.rg [(0, v1), (3, .int .i64 wd), (4, .int .i64 tab), (5, .bool wrap), (9, .pointer (some ⟨b1, 0, none⟩)), (13, .pointer (some ⟨b2, 0, none⟩)), (16, .int .i64 (checkM l fr to_)), (25, .bool ((checkM l fr to_) != 0))] fun TA => ?_
 refine W.cond rfl (fun hc3 => ?_) (fun hc3 => ?_)
 ·have hc3b := hc3
  have hc3 := bne_iff_ne.1 hc3
  refine W.seq (W.region ?_)
  iterate 3 refine RW.v ?_
  refine RW.nil ?_
  replace H := ((H.del 1).del 0)
  dsimp only [setL, delL] at H
  refine W.ret ?_
  refine seqQ_ret ?_
  refine ⟨rfl, ?_⟩
  refine endGD0 (by rfl) (by exact resL_tmp (by exact resL_tmp rfl)) ?_
  have ee : errM l fr to_ wd tab most = (checkM l fr to_) := by unfold errM; rw [if_pos (by omega)]
  rw [ee]
  exact ⟨rfl, H⟩
 ·have hc3b := hc3
  have hc3 := (bne_eq_false_iff_eq.1) hc3
  refine W.skip ?_
  refine W.seq ?_
  refine W.seq (W.region ?_)
  iterate 3 refine RW.v ?_
  refine RW.both _ _ rfl rfl rfl (fun hc4 => ?_) (fun hc4 => ?_)
  ·have hc4b := hc4
   have hc4 := of_decide_eq_true hc4
   iterate 2 refine RW.s ?_
   iterate 2 refine RW.v ?_
   iterate 2 refine RW.s ?_
   iterate 2 refine RW.v ?_
   iterate 2 refine RW.s ?_
   iterate 2 refine RW.v ?_
   iterate 2 refine RW.s ?_
   iterate 2 refine RW.v ?_
   iterate 2 refine RW.s ?_
   refine RW.v ?_
   refine RW.nil ?_
   refine W.c1 ?_
   refine W.seq (W.region ?_)
   iterate 2 refine RW.v ?_
   refine RW.nil ?_
   replace H := ((H.del 1).del 0)
   dsimp only [setL, delL] at H
   refine W.ret ?_
   refine seqQ_ret ?_
   refine ⟨rfl, ?_⟩
   refine endGD0 (by rfl) (by exact resL_tmp (by exact resL_tmp rfl)) ?_
   have ee : errM l fr to_ wd tab most = 3 := by unfold errM; rw [if_neg (by omega), if_pos (by omega)]
   rw [ee]
   exact ⟨rfl, H⟩
  ·have hc4b := hc4
   have hc4 := of_decide_eq_false hc4
   iterate 2 refine RW.w ?_
   iterate 2 refine RW.v ?_
   refine RW.both _ _ rfl rfl rfl (fun hc5 => ?_) (fun hc5 => ?_)
   ·have hc5b := hc5
    have hc5 := of_decide_eq_true hc5
    iterate 2 refine RW.s ?_
    iterate 2 refine RW.v ?_
    iterate 2 refine RW.s ?_
    iterate 2 refine RW.v ?_
    iterate 2 refine RW.s ?_
    iterate 2 refine RW.v ?_
    iterate 2 refine RW.s ?_
    refine RW.v ?_
    refine RW.nil ?_
    refine W.c1 ?_
    refine W.seq (W.region ?_)
    iterate 2 refine RW.v ?_
    refine RW.nil ?_
    replace H := ((H.del 1).del 0)
    dsimp only [setL, delL] at H
    refine W.ret ?_
    refine seqQ_ret ?_
    refine ⟨rfl, ?_⟩
    refine endGD0 (by rfl) (by exact resL_tmp (by exact resL_tmp rfl)) ?_
    have ee : errM l fr to_ wd tab most = 3 := by unfold errM; rw [if_neg (by omega), if_pos (by omega)]
    rw [ee]
    exact ⟨rfl, H⟩
   ·have hc5b := hc5
    have hc5 := of_decide_eq_false hc5
    iterate 2 refine RW.w ?_
    iterate 2 refine RW.v ?_
    refine RW.both _ _ rfl rfl rfl (fun hc6 => ?_) (fun hc6 => ?_)
    ·have hc6b := hc6
     have hc6 := of_decide_eq_true hc6
     iterate 2 refine RW.s ?_
     iterate 2 refine RW.v ?_
     iterate 2 refine RW.s ?_
     iterate 2 refine RW.v ?_
     iterate 2 refine RW.s ?_
     refine RW.v ?_
     refine RW.nil ?_
     refine W.c1 ?_
     refine W.seq (W.region ?_)
     iterate 2 refine RW.v ?_
     refine RW.nil ?_
     replace H := ((H.del 1).del 0)
     dsimp only [setL, delL] at H
     refine W.ret ?_
     refine seqQ_ret ?_
     refine ⟨rfl, ?_⟩
     refine endGD0 (by rfl) (by exact resL_tmp (by exact resL_tmp rfl)) ?_
     have ee : errM l fr to_ wd tab most = 3 := by unfold errM; rw [if_neg (by omega), if_pos (by omega)]
     rw [ee]
     exact ⟨rfl, H⟩
    ·have hc6b := hc6
     have hc6 := of_decide_eq_false hc6
     iterate 2 refine RW.w ?_
     iterate 2 refine RW.v ?_
     refine RW.both _ _ rfl rfl rfl (fun hc7 => ?_) (fun hc7 => ?_)
     ·have hc7b := hc7
      have hc7 := of_decide_eq_true hc7
      iterate 2 refine RW.s ?_
      iterate 2 refine RW.v ?_
      iterate 2 refine RW.s ?_
      refine RW.v ?_
      refine RW.nil ?_
      refine W.c1 ?_
      refine W.seq (W.region ?_)
      iterate 2 refine RW.v ?_
      refine RW.nil ?_
      replace H := ((H.del 1).del 0)
      dsimp only [setL, delL] at H
      refine W.ret ?_
      refine seqQ_ret ?_
      refine ⟨rfl, ?_⟩
      refine endGD0 (by rfl) (by exact resL_tmp (by exact resL_tmp rfl)) ?_
      have ee : errM l fr to_ wd tab most = 3 := by unfold errM; rw [if_neg (by omega), if_pos (by omega)]
      rw [ee]
      exact ⟨rfl, H⟩
     ·have hc7b := hc7
      have hc7 := of_decide_eq_false hc7
      refine RW.ldL H 0 1 (by rfl) (by kernel_rfl) rfl rfl rfl rfl rfl (by kernel_rfl) ?_
      refine RW.w ?_
      iterate 2 refine RW.v ?_
      refine RW.both _ _ rfl rfl rfl (fun hc8 => ?_) (fun hc8 => ?_)
      ·have hc8b := hc8
       have hc8 := of_decide_eq_true hc8
       iterate 2 refine RW.s ?_
       refine RW.v ?_
       refine RW.nil ?_
       refine W.c1 ?_
       refine W.seq (W.region ?_)
       iterate 2 refine RW.v ?_
       refine RW.nil ?_
       replace H := ((H.del 1).del 0)
       dsimp only [setL, delL] at H
       refine W.ret ?_
       refine seqQ_ret ?_
       refine ⟨rfl, ?_⟩
       refine endGD0 (by rfl) (by exact resL_tmp (by exact resL_tmp rfl)) ?_
       have ee : errM l fr to_ wd tab most = 3 := by unfold errM; rw [if_neg (by omega), if_pos (by omega)]
       rw [ee]
       exact ⟨rfl, H⟩
      ·have hc8b := hc8
       have hc8 := of_decide_eq_false hc8
       refine RW.ldL H 0 1 (by rfl) (by kernel_rfl) rfl rfl rfl rfl rfl (by kernel_rfl) ?_
       refine RW.w ?_
       refine RW.v ?_
       refine RW.nil ?_
       refine W.rg [(0, v1), (3, .int .i64 wd), (4, .int .i64 tab), (5, .bool wrap), (9, .pointer (some ⟨b1, 0, none⟩)), (13, .pointer (some ⟨b2, 0, none⟩)), (48, .bool (decide (most > 10000)))] fun TA => ?_
       refine W.cond rfl (fun hc9 => ?_) (fun hc9 => ?_)
       ·have hc9b := hc9
        have hc9 := of_decide_eq_true hc9
        refine W.seq (W.region ?_)
        iterate 2 refine RW.v ?_
        refine RW.nil ?_
        replace H := ((H.del 1).del 0)
        dsimp only [setL, delL] at H
        refine W.ret ?_
        refine seqQ_ret ?_
        refine ⟨rfl, ?_⟩
        refine endGD0 (by rfl) (by exact resL_tmp (by exact resL_tmp rfl)) ?_
        have ee : errM l fr to_ wd tab most = 3 := by unfold errM; rw [if_neg (by omega), if_pos (by omega)]
        rw [ee]
        exact ⟨rfl, H⟩
       ·have hc9b := hc9
        have hc9 := of_decide_eq_false hc9
        exact absurd (by unfold errM; rw [if_neg (by omega), if_neg (by omega)]) he
theorem Rows_fz (hU : U8F F) (h16 : 16 ≤ G) (h1 : SlF F 9 v1 l.length (pC l)) (hl : l.length ≤ 1000) (hsm : ∀ x ∈ l, x.s.length ≤ 1000) (H : Lies G A F σ L) :
  WC G Tryd.prog 13 #[v1, .int .i64 fr, .int .i64 to_, .int .i64 wd, .int .i64 tab, .bool wrap, .int .i64 most] σ fun v σ' => ∃ F' u ds qs, Le F F' ∧ v = .tuple #[u, .int .i64 (errM l fr to_ wd tab most)] ∧ SlK F' 5 u (rowsA l fr to_ wd tab wrap most).length (rowsV ds qs (rowsA l fr to_ wd tab wrap most)) ∧ AllRow F' ds qs (rowsA l fr to_ wd tab wrap most) ∧ Lies G A F' σ' L := by
 by_cases he : errM l fr to_ wd tab most = 0
 ·have eA : rowsA l fr to_ wd tab wrap most = rowsM to_ wd.toNat wrap most.toNat (unitsM tab.toNat 0 (charsM l)) := if_pos he
  rw [eA, he]
  have hck : checkM l fr to_ = 0 := by
   unfold errM at he
   split at he
   ·rename_i k
    exact absurd he k
   ·omega
  have hb : ¬(wd < 4 ∨ 1000 < wd ∨ tab < 1 ∨ 64 < tab ∨ most < 0 ∨ 10000 < most) := fun k => by
   unfold errM at he
   rw [if_neg (by omega), if_pos k] at he
   exact absurd he (by decide)
  obtain ⟨w, rfl⟩ : ∃ w : Nat, wd = (w : Int) := ⟨wd.toNat, by omega⟩
  obtain ⟨t, rfl⟩ : ∃ t : Nat, tab = (t : Int) := ⟨tab.toNat, by omega⟩
  obtain ⟨m, rfl⟩ : ∃ m : Nat, most = (m : Int) := ⟨most.toNat, by omega⟩
  simp only [Int.toNat_natCast]
  refine (Rows_go (by omega) (by omega) (by omega) (by omega) (by omega) hU h16 h1 hl hsm hck rfl H).mono ?_
  rintro v σ' ⟨F1, u, B, k1, rfl, hB, H⟩
  have hok := lok_all (to_ := to_) (wrap := wrap) (most := m) (show 1 ≤ w by omega) (unitsM t 0 (charsM l))
  obtain ⟨F2, k2, hv, H⟩ := H.freezeK 0 rfl
  obtain ⟨F3, k3, a, H⟩ := RE_freeze hB hok.2.1 H
  refine ⟨F3, u, _, _, fun b y h => k3 _ _ (k2 _ _ (k1 _ _ h)), rfl, ?_, a.tos, H⟩
  have := hv.le k3
  unfold rowsM
  rw [tosX_len]
  exact this
 ·have eA : rowsA l fr to_ wd tab wrap most = [] := if_neg he
  rw [eA]
  refine (Rows_no he hU h16 h1 (by omega) (fun x hx => Nat.le_trans (hsm x hx) (by decide)) H).mono ?_
  rintro v σ' ⟨rfl, H⟩
  exact ⟨F, _, [], [], fun _ _ h => h, rfl, .nil, ⟨rfl, rfl, fun j hj => absurd hj (Nat.not_lt_zero _)⟩, H⟩
end
end Go.Proofs.YtmmapljeeccdnaaDoor
namespace Go.Proofs.YtmmapljeeccdnaaDoor
set_option maxRecDepth 100000
structure LI where
 R : List RowV
 f : Fil
 ov : Bool
def endR (s : LI) (e : Int) : Fil := if s.ov = true then s.f else endF s.f e
def uI (wd : Nat) (wrap : Bool) (s : LI) (u : Un) : LI :=
 if u.fd = true then ⟨s.R ++ [rowOf (endR s u.pos)], fil0 wd, false⟩
 else if s.ov = true then s
 else if (putF wd s.f u.X u.pos).2 = true then ⟨s.R, (putF wd s.f u.X u.pos).1, s.ov⟩
 else if wrap = true then ⟨s.R ++ [rowOf (wrapF s.f)], (putF wd (fil0 wd) u.X u.pos).1, s.ov⟩
 else ⟨s.R, markF s.f 36, true⟩
def runI (wd : Nat) (wrap : Bool) : List Un → LI → LI
 | [], s => s
 | u :: l, s => runI wd wrap l (uI wd wrap s u)
def allI (to_ : Int) (wd : Nat) (wrap : Bool) (us : List Un) : List RowV :=
 (runI wd wrap us ⟨[], fil0 wd, false⟩).R ++ [rowOf (endR (runI wd wrap us ⟨[], fil0 wd, false⟩) to_)]
theorem uI_R (wd : Nat) (wrap : Bool) (s : LI) (u : Un) : ∃ Y, (uI wd wrap s u).R = s.R ++ Y := by
 unfold uI
 split
 ·exact ⟨_, rfl⟩
 ·split
  ·exact ⟨[], (List.append_nil _).symm⟩
  ·split
   ·exact ⟨[], (List.append_nil _).symm⟩
   ·split
    ·exact ⟨_, rfl⟩
    ·exact ⟨[], (List.append_nil _).symm⟩
theorem tosX_append : ∀ (A : List RowV) (r : RowV) (B : List RowV) (x : Int), tosX (A ++ r :: B) x = tosX A r.fr ++ tosX (r :: B) x
 | [], _, _, _ => rfl
 | [_], _, _, _ => rfl
 | a :: b :: l, r, B, x => by
  show _ :: tosX (b :: l ++ r :: B) x = _ :: (tosX (b :: l) r.fr ++ tosX (r :: B) x)
  rw [tosX_append (b :: l) r B x]
theorem split_at {α : Type} [Inhabited α] {R : List α} {n : Nat} (h : n < R.length) : R = R.take n ++ R.getD n default :: R.drop (n + 1) := by
 rw [← drop_get h, List.take_append_drop]
theorem tosX_take {R : List RowV} {n : Nat} {x : Int} (h : n < R.length) : (tosX R x).take n = tosX (R.take n) (R.getD n default).fr := by
 have e := split_at h
 have hl : (tosX (R.take n) (R.getD n default).fr).length = n := by rw [tosX_len, List.length_take]; omega
 conv => lhs; rw [e, tosX_append]
 exact List.take_left' hl
section
variable {to_ : Int} {wd : Nat} {wrap : Bool} {most : Nat}
def SimL (to_ : Int) (most : Nat) (s : LS) (t : LI) : Prop :=
 (s.dn = false ∧ s.R = t.R ∧ s.R.length ≤ most ∧ s.x = to_ ∧ s.f = t.f ∧ s.ov = t.ov) ∨ (s.dn = true ∧ most < t.R.length ∧ s.R = t.R.take most ∧ s.x = (t.R.getD most default).fr)
theorem getD_app {α : Type} [Inhabited α] {R Y : List α} {n : Nat} (h : n < R.length) : (R ++ Y).getD n default = R.getD n default := by
 rw [List.getD_eq_getElem?_getD, List.getD_eq_getElem?_getD, List.getElem?_append_left h]
theorem siml_done {s : LS} {t t' : LI} (hd : s.dn = true) (h : SimL to_ most s t) (hY : ∃ Y, t'.R = t.R ++ Y) : SimL to_ most s t' := by
 rcases h with h | ⟨_, h1, h2, h3⟩
 ·rw [hd] at h
  exact absurd h.1 (by decide)
 ·obtain ⟨Y, hY⟩ := hY
  refine .inr ⟨hd, ?_, ?_, ?_⟩
  ·rw [hY, List.length_append]
   omega
  ·rw [hY, List.take_append_of_le_length (by omega)]
   exact h2
  ·rw [hY, getD_app h1]
   exact h3
theorem siml_emit {R : List RowV} {s : Fil} {ov : Bool} {r f2 : Fil} {o2 : Bool} (h : R.length ≤ most) :
  (R.length = most ∧ SimL to_ most ⟨R, r.fr, s, ov, true⟩ ⟨R ++ [rowOf r], f2, o2⟩) ∨ (R.length ≠ most ∧ SimL to_ most ⟨R ++ [rowOf r], to_, f2, o2, false⟩ ⟨R ++ [rowOf r], f2, o2⟩) := by
 rcases Nat.lt_or_ge R.length most with hm | hm
 ·refine .inr ⟨by omega, .inl ⟨rfl, rfl, ?_, rfl, rfl, rfl⟩⟩
  show (R ++ [rowOf r]).length ≤ most
  rw [List.length_append, List.length_singleton]
  omega
 ·obtain rfl : R.length = most := by omega
  refine .inl ⟨rfl, .inr ⟨rfl, ?_, ?_, ?_⟩⟩
  ·show R.length < (R ++ [rowOf r]).length
   rw [List.length_append, List.length_singleton]
   omega
  ·show R = (R ++ [rowOf r]).take R.length
   rw [List.take_left' rfl]
  ·show r.fr = ((R ++ [rowOf r]).getD R.length default).fr
   rw [List.getD_eq_getElem?_getD, List.getElem?_append_right (Nat.le_refl _), Nat.sub_self]
   rfl
theorem siml_step {s : LS} {t : LI} {u : Un} (hd : s.dn = false) (h : SimL to_ most s t) : SimL to_ most (uStep to_ wd wrap most s u) (uI wd wrap t u) := by
 rcases h with ⟨_, h1, h2, h3, h4, h5⟩ | h
 ·obtain ⟨R, x, f, ov, dn⟩ := s
  obtain ⟨R', f', ov'⟩ := t
  dsimp only at h1 h2 h3 h4 h5 hd
  subst h1 h3 h4 h5 hd
  unfold uStep uI
  by_cases hf : u.fd = true
  ·rw [if_pos hf, if_pos hf]
   show SimL x most (if (emitS x most ⟨R, x, f, ov, false⟩ (if ov = true then f else endF f u.pos)).dn = true then _ else _) ⟨R ++ [rowOf (if ov = true then f else endF f u.pos)], fil0 wd, false⟩
   rcases siml_emit (to_ := x) (s := f) (ov := ov) (r := if ov = true then f else endF f u.pos) (f2 := fil0 wd) (o2 := false) h2 with ⟨k, h⟩ | ⟨k, h⟩
   ·rw [emit_stop k, if_pos rfl]
    exact h
   ·rw [emit_go k, if_neg Bool.false_ne_true]
    exact h
  ·rw [if_neg hf, if_neg hf]
   by_cases ho : ov = true
   ·subst ho
    rw [if_pos rfl, if_pos rfl]
    exact .inl ⟨rfl, rfl, h2, rfl, rfl, rfl⟩
   ·have ho : ov = false := by simpa using ho
    subst ho
    rw [if_neg Bool.false_ne_true, if_neg Bool.false_ne_true]
    by_cases hp : (putF wd f u.X u.pos).2 = true
    ·rw [if_pos hp, if_pos hp]
     exact .inl ⟨rfl, rfl, h2, rfl, rfl, rfl⟩
    ·rw [if_neg hp, if_neg hp]
     by_cases hw : wrap = true
     ·rw [if_pos hw, if_pos hw]
      rcases siml_emit (to_ := x) (s := f) (ov := false) (r := wrapF f) (f2 := (putF wd (fil0 wd) u.X u.pos).1) (o2 := false) h2 with ⟨k, h⟩ | ⟨k, h⟩
      ·rw [emit_stop k, if_pos rfl]
       exact h
      ·rw [emit_go k, if_neg Bool.false_ne_true]
       exact h
     ·rw [if_neg hw, if_neg hw]
      exact .inl ⟨rfl, rfl, h2, rfl, rfl, rfl⟩
 ·rw [hd] at h
  exact absurd h.1 (by decide)
theorem runI_R : ∀ (l : List Un) (t : LI), ∃ Y, (runI wd wrap l t).R = t.R ++ Y
 | [], t => ⟨[], (List.append_nil _).symm⟩
 | u :: l, t => by
  obtain ⟨Y, hY⟩ := runI_R l (uI wd wrap t u)
  obtain ⟨Z, hZ⟩ := uI_R wd wrap t u
  exact ⟨Z ++ Y, by rw [show runI wd wrap (u :: l) t = runI wd wrap l (uI wd wrap t u) from rfl, hY, hZ, List.append_assoc]⟩
theorem siml_run : ∀ (l : List Un) {s : LS} {t : LI}, SimL to_ most s t → SimL to_ most (runU to_ wd wrap most l s) (runI wd wrap l t)
 | [], _, _, h => h
 | u :: l, s, t, h => by
  cases hd : s.dn with
  | true =>
   rw [run_dn hd]
   exact siml_done hd h (runI_R (u :: l) t)
  | false =>
   show SimL to_ most (if s.dn = true then s else _) _
   rw [hd, if_neg Bool.false_ne_true]
   exact siml_run l (siml_step hd h)
theorem rows_take (us : List Un) : rowsM to_ wd wrap most us = (tosX (allI to_ wd wrap us) to_).take most := by
 have h := siml_run (to_ := to_) (wd := wd) (wrap := wrap) (most := most) us (s := ⟨[], to_, fil0 wd, false, false⟩) (t := ⟨[], fil0 wd, false⟩) (.inl ⟨rfl, rfl, Nat.zero_le _, rfl, rfl, rfl⟩)
 unfold rowsM allS allI
 generalize runU to_ wd wrap most us ⟨[], to_, fil0 wd, false, false⟩ = s at h ⊢
 generalize runI wd wrap us ⟨[], fil0 wd, false⟩ = t at h ⊢
 cases hd : s.dn with
 | true =>
  rcases h with h | ⟨_, h1, h2, h3⟩
  ·rw [hd] at h
   exact absurd h.1 (by decide)
  ·have e : finS to_ most s = s := if_pos hd
   rw [e, h2, h3, tosX_take (by rw [List.length_append]; omega), List.take_append_of_le_length (by omega), getD_app h1]
 | false =>
  rcases h with ⟨_, h1, h2, h3, h4, h5⟩ | h
  ·obtain ⟨R, x, f, ov, dn⟩ := s
   obtain ⟨R', f', ov'⟩ := t
   dsimp only at h1 h2 h3 h4 h5 hd
   subst h1 h3 h4 h5 hd
   have hf : finS x most ⟨R, x, f, ov, false⟩ = emitS x most ⟨R, x, f, ov, false⟩ (endR ⟨R, f, ov⟩ x) := rfl
   rw [hf]
   by_cases k : R.length = most
   ·rw [emit_stop k, tosX_take (by rw [List.length_append, List.length_singleton]; show most < R.length + 1; omega)]
    show tosX R _ = tosX ((R ++ _).take most) ((R ++ _).getD most default).fr
    rw [← k, List.take_left' rfl, List.getD_eq_getElem?_getD, List.getElem?_append_right (Nat.le_refl _), Nat.sub_self]
    rfl
   ·rw [emit_go k, List.take_of_length_le]
    rw [tosX_len, List.length_append, List.length_singleton]
    show R.length + 1 ≤ most
    omega
  ·rw [hd] at h
   exact absurd h.1 (by decide)
end
end Go.Proofs.YtmmapljeeccdnaaDoor
namespace Go.Proofs.YtmmapljeeccdnaaDoor
set_option maxRecDepth 100000
open Go.Lib
theorem rowsA_err {l : List Prt} {fr to_ wd tab most : Int} {wrap : Bool} (h : errM l fr to_ wd tab most ≠ 0) : rowsA l fr to_ wd tab wrap most = [] := if_neg h
theorem rowsA_ok {l : List Prt} {fr to_ wd tab most : Int} {wrap : Bool} (h : errM l fr to_ wd tab most = 0) : rowsA l fr to_ wd tab wrap most = rowsM to_ wd.toNat wrap most.toNat (unitsM tab.toNat 0 (charsM l)) := if_pos h
theorem errM_zero {l : List Prt} {fr to_ wd tab most : Int} : errM l fr to_ wd tab most = 0 ↔ checkM l fr to_ = 0 ∧ 4 ≤ wd ∧ wd ≤ 1000 ∧ 1 ≤ tab ∧ tab ≤ 64 ∧ 0 ≤ most ∧ most ≤ 10000 := by
 unfold errM
 constructor
 ·intro h
  split at h
  ·rename_i k
   exact absurd h k
  ·split at h
   ·exact absurd h (by decide)
   ·exact ⟨by omega, by omega, by omega, by omega, by omega, by omega, by omega⟩
 ·rintro ⟨h1, h2, h3, h4, h5, h6, h7⟩
  rw [if_neg (by omega), if_neg (by omega)]
theorem rowsM_mem {to_ : Int} {wd : Nat} {wrap : Bool} {most : Nat} {us : List Un} (h1 : 1 ≤ wd) : ∀ r ∈ rowsM to_ wd wrap most us, r.C.length = wd ∧ r.P.length = wd := by
 have hok := lok_all (to_ := to_) (wrap := wrap) (most := most) h1 us
 refine rowD_all fun j hj => ?_
 unfold rowsM at hj ⊢
 rw [tosX_len] at hj
 rw [(tosX_getD j).1, (tosX_getD j).2]
 exact hok.2.1 _ (get_mem hj)
theorem rowsM_len {to_ : Int} {wd : Nat} {wrap : Bool} {most : Nat} {us : List Un} : (rowsM to_ wd wrap most us).length ≤ most := by
 rw [rows_take, List.length_take]
 exact Nat.min_le_left _ _
theorem rowsA_len {l : List Prt} {fr to_ wd tab most : Int} {wrap : Bool} : (rowsA l fr to_ wd tab wrap most).length ≤ 10000 := by
 by_cases h : errM l fr to_ wd tab most = 0
 ·rw [rowsA_ok h]
  have h2 := rowsM_len (to_ := to_) (wd := wd.toNat) (wrap := wrap) (most := most.toNat) (us := unitsM tab.toNat 0 (charsM l))
  obtain ⟨_, _, _, _, _, g1, g2⟩ := errM_zero.1 h
  omega
 ·rw [rowsA_err h]
  exact Nat.zero_le _
theorem rowsA_wid {l : List Prt} {fr to_ wd tab most : Int} {wrap : Bool} : ∀ r ∈ rowsA l fr to_ wd tab wrap most, r.C.length ≤ 1000 ∧ r.P.length ≤ 1000 := by
 by_cases h : errM l fr to_ wd tab most = 0
 ·rw [rowsA_ok h]
  obtain ⟨_, h1, h2, _⟩ := errM_zero.1 h
  intro r hr
  have := rowsM_mem (by omega) r hr
  omega
 ·rw [rowsA_err h]
  intro r hr
  simp at hr
theorem rowsV_take : ∀ {ds qs : List Value} {R : List RowV} {k : Nat}, ds.length = R.length → qs.length = R.length → (rowsV ds qs R).take (k * 5) = rowsV (ds.take k) (qs.take k) (R.take k)
 | [], [], [], k, _, _ => by simp [rowsV]
 | _ :: _, _ :: _, _ :: _, 0, _, _ => rfl
 | d :: ds, q :: qs, r :: R, k + 1, h1, h2 => by
  have e := rowsV_take (ds := ds) (qs := qs) (R := R) (k := k) (by simpa using h1) (by simpa using h2)
  rw [show (k + 1) * 5 = k * 5 + 1 + 1 + 1 + 1 + 1 by omega]
  show d :: q :: _ :: _ :: _ :: (rowsV ds qs R).take (k * 5) = _
  rw [e]
  rfl
 | [], _ :: _, l, _, h1, h2 => by cases l <;> simp at h1 h2
 | _ :: _, [], l, _, h1, h2 => by cases l <;> simp at h1 h2
theorem getD_take {α : Type} {l : List α} {j k : Nat} {d : α} (h : j < k) : (l.take k).getD j d = l.getD j d := by
 rw [List.getD_eq_getElem?_getD, List.getD_eq_getElem?_getD, List.getElem?_take, if_pos h]
theorem AllRow.take {F : Nat → Option Blk2} {ds qs : List Value} {R : List RowV} (a : AllRow F ds qs R) (k : Nat) : AllRow F (ds.take k) (qs.take k) (R.take k) := by
 refine ⟨by rw [List.length_take, List.length_take, a.1], by rw [List.length_take, List.length_take, a.2.1], fun j hj => ?_⟩
 rw [List.length_take] at hj
 rw [getD_take (by omega), getD_take (by omega), getD_take (by omega)]
 exact a.2.2 j (by omega)
theorem prts_all {l : List Prt} {Q : Prt → Prop} (h : ∀ j, j < l.length → Q (l.getD j default)) : ∀ r ∈ l, Q r := fun r hr => by
 obtain ⟨j, hj⟩ := List.getElem?_of_mem hr
 have := h j (List.getElem?_eq_some_iff.1 hj).1
 rwa [List.getD_eq_getElem?_getD, hj] at this
section
variable {G : Nat} {A : Abs} {σ : Mem} {F : Nat → Option Blk2} {L : List Ent} {l : List Prt} {v1 : Value}
set_option maxHeartbeats 4000000 in
theorem long_wc (h1 : SlF F 9 v1 l.length (pC l)) (H : Lies G A F σ L) : WC G Tryd.prog 9 #[v1] σ fun v σ' => ∃ b, v = .bool b ∧ (b = false → l.length ≤ 30 ∧ ∀ j, j < l.length → (l.getD j default).s.length ≤ 200) ∧ Lies G A F σ' L := by
 refine WC.enter (fn := Tryd.f9) Tryd.func9 rfl ?_
 refine W.rg [(0, v1)] fun TA => ?_
 refine W.seq (W.region ?_)
 refine RW.v ?_
 refine RW.nil ?_
 refine W.rg [(0, v1)] fun TA => ?_
 refine W.seq ?_
 refine W.seq (W.region ?_)
 refine RW.v ?_
 refine RW.nil ?_
 refine W.rg [(0, v1), (3, .int .i64 0)] fun TA => ?_
 refine W.block ?_
 refine W.loop (fun mm ta σ => ∃ (i : Nat), (mm + i = l.length) ∧ (∀ j, j < i → (l.getD j default).s.length ≤ 200) ∧ Lies G A F σ ((L)) ∧ ta 0 = v1 ∧ ta 3 = .int .i64 ((i : Nat) : Int)) l.length ?_ ?_
 ·exact ⟨0, (by omega), (fun j hj => absurd hj (Nat.not_lt_zero _)), H, rfl, rfl⟩
 clear H
 rintro mm ta _ ⟨i, hm, hsz, H, e0, e3⟩
 refine W.rst [(0, v1), (3, .int .i64 ((i : Nat) : Int))] ⟨e0, e3, trivial⟩ fun TA => ?_
 clear e0 e3
 refine W.seq ?_
 refine W.seq (W.region ?_)
 iterate 2 refine RW.v ?_
 refine RW.len (by kernel_rfl) (by kernel_rfl) rfl rfl rfl rfl (h1.len (e := 52) (by kernel_rfl)) (by kernel_rfl) ?_
 iterate 2 refine RW.v ?_
 refine RW.both _ _ rfl rfl rfl (fun hc1 => ?_) (fun hc1 => ?_)
 ·have hc1b := hc1
  have hc1 := of_decide_eq_true hc1
  have hil : i < l.length := by omega
  iterate 2 refine RW.w ?_
  refine RW.v ?_
  refine RW.nil ?_
  refine W.rg [(0, v1), (3, .int .i64 ((i : Nat) : Int)), (11, .bool (decide (((i : Nat) : Int) < 31)))] fun TA => ?_
  refine W.cond rfl (fun hc2 => ?_) (fun hc2 => ?_)
  ·have hc2b := hc2
   have hc2 := of_decide_eq_true hc2
   refine W.skip ?_
   refine W.seq ?_
   refine W.block ?_
   refine W.seq (W.region ?_)
   iterate 2 refine RW.v ?_
   refine RW.idxF h1 (by kernel_rfl) (by kernel_rfl) rfl Tryd.underlying22 (by kernel_rfl) rfl rfl ⟨by omega, by omega⟩ (by kernel_rfl) ?_
   intro b3 q4 r5 hF6 hE7
   rw [pC_ati (l := l) (j := i) (by omega)] at hE7
   refine RW.v ?_
   refine RW.loads 1 (by kernel_rfl) (by kernel_rfl) rfl rfl (H.old _ _ hF6) (sub_take hE7 3 1 (by decide)) rfl (by kernel_rfl) ?_
   refine RW.vop (v := .int .i64 (((l.getD i default).s).length : Int)) (by kernel_rfl) (by kernel_rfl) (vop_sLenL rfl rfl rfl rfl Tryd.underlying9 rfl) (by kernel_rfl) ?_
   refine RW.v ?_
   refine RW.nil ?_
   refine W.rg [(0, v1), (3, .int .i64 ((i : Nat) : Int)), (20, .bool (decide ((((l.getD i default).s).length : Int) > 200)))] fun TA => ?_
   refine W.cond rfl (fun hc8 => ?_) (fun hc8 => ?_)
   ·have hc8b := hc8
    have hc8 := of_decide_eq_true hc8
    refine W.seq (W.region ?_)
    refine RW.v ?_
    refine RW.nil ?_
    refine W.ret ?_
    refine blkQ_ret ?_
    refine seqQ_ret ?_
    refine rndQ_ret ?_
    refine blkQ_ret ?_
    refine seqQ_ret ?_
    refine endG (by rfl) (by exact resL_tmp rfl) ?_
    exact ⟨_, rfl, (fun h => by cases h), H⟩
   ·have hc8b := hc8
    have hc8 := of_decide_eq_false hc8
    refine W.skip ?_
    refine blkQ_normal ?_
    refine W.region ?_
    refine RW.v ?_
    refine RW.valE (v' := .int .i64 (((i : Nat) : Int) + 1)) (by kernel_rfl) (by kernel_rfl) rfl (congrArg (Value.int .i64) (wrap_in (by omega) (by omega))) (by kernel_rfl) ?_
    refine RW.v ?_
    refine RW.nil ?_
    exact ⟨rfl, mm - 1, by omega, i + 1, (by omega), (fun j hj => (Nat.lt_or_ge j i).elim (fun h => hsz j h) fun h => (show i = j by omega) ▸ (by omega)), H, rfl, rfl⟩
  ·have hc2b := hc2
   have hc2 := of_decide_eq_false hc2
   refine W.exit _ ?_
   refine seqQ_exit ?_
   refine rndQ_exit ?_
   refine blkQ_here ?_
   refine W.seq (W.region ?_)
   refine RW.v ?_
   refine RW.len (by kernel_rfl) (by kernel_rfl) rfl rfl rfl rfl (h1.len (e := 52) (by kernel_rfl)) (by kernel_rfl) ?_
   iterate 2 refine RW.v ?_
   refine RW.nil ?_
   refine W.ret ?_
   refine endG (by rfl) (by exact resL_tmp rfl) ?_
   exact ⟨_, rfl, (fun h => ⟨by have := of_decide_eq_false h; omega, fun j hj => hsz j (by have := of_decide_eq_false h; omega)⟩), H⟩
 ·have hc1b := hc1
  have hc1 := of_decide_eq_false hc1
  iterate 2 refine RW.s ?_
  refine RW.v ?_
  refine RW.nil ?_
  refine W.c0 ?_
  refine W.exit _ ?_
  refine seqQ_exit ?_
  refine rndQ_exit ?_
  refine blkQ_here ?_
  refine W.seq (W.region ?_)
  refine RW.v ?_
  refine RW.len (by kernel_rfl) (by kernel_rfl) rfl rfl rfl rfl (h1.len (e := 52) (by kernel_rfl)) (by kernel_rfl) ?_
  iterate 2 refine RW.v ?_
  refine RW.nil ?_
  refine W.ret ?_
  refine endG (by rfl) (by exact resL_tmp rfl) ?_
  exact ⟨_, rfl, (fun h => ⟨by have := of_decide_eq_false h; omega, fun j hj => hsz j (by have := of_decide_eq_false h; omega)⟩), H⟩
set_option maxHeartbeats 4000000 in
theorem vast_wc {wd tab cl : Int} (hl : l.length ≤ 1000) (h1 : SlF F 9 v1 l.length (pC l)) (H : Lies G A F σ L) : WC G Tryd.prog 10 #[v1, .int .i64 wd, .int .i64 tab, .int .i64 cl] σ fun v σ' => ∃ b, v = .bool b ∧ Lies G A F σ' L := by
 refine WC.enter (fn := Tryd.f10) Tryd.func10 rfl ?_
 refine W.rg [(0, v1), (1, .int .i64 wd), (2, .int .i64 tab), (3, .int .i64 cl)] fun TA => ?_
 refine W.seq (W.region ?_)
 refine RW.v ?_
 refine RW.nil ?_
 refine W.rg [(0, v1), (1, .int .i64 wd), (2, .int .i64 tab), (3, .int .i64 cl)] fun TA => ?_
 refine W.seq (W.region ?_)
 refine RW.v ?_
 refine RW.nil ?_
 refine W.rg [(0, v1), (1, .int .i64 wd), (2, .int .i64 tab), (3, .int .i64 cl), (9, .int .i64 0)] fun TA => ?_
 refine W.seq ?_
 refine W.seq (W.region ?_)
 refine RW.v ?_
 refine RW.nil ?_
 refine W.rg [(0, v1), (1, .int .i64 wd), (2, .int .i64 tab), (3, .int .i64 cl), (9, .int .i64 0), (10, .int .i64 0)] fun TA => ?_
 refine W.block ?_
 refine W.loop (fun mm ta σ => ∃ (i : Nat) (n : Int), (mm + i = l.length) ∧ Lies G A F σ ((L)) ∧ ta 0 = v1 ∧ ta 1 = .int .i64 wd ∧ ta 2 = .int .i64 tab ∧ ta 3 = .int .i64 cl ∧ ta 9 = .int .i64 n ∧ ta 10 = .int .i64 ((i : Nat) : Int)) l.length ?_ ?_
 ·exact ⟨0, 0, (by omega), H, rfl, rfl, rfl, rfl, rfl, rfl⟩
 clear H
 rintro mm ta _ ⟨i, n, hm, H, e0, e1, e2, e3, e9, e10⟩
 refine W.rst [(0, v1), (1, .int .i64 wd), (2, .int .i64 tab), (3, .int .i64 cl), (9, .int .i64 n), (10, .int .i64 ((i : Nat) : Int))] ⟨e0, e1, e2, e3, e9, e10, trivial⟩ fun TA => ?_
 clear e0 e1 e2 e3 e9 e10
 refine W.seq ?_
 refine W.seq (W.region ?_)
 iterate 2 refine RW.v ?_
 refine RW.len (by kernel_rfl) (by kernel_rfl) rfl rfl rfl rfl (h1.len (e := 52) (by kernel_rfl)) (by kernel_rfl) ?_
 refine RW.v ?_
 refine RW.nil ?_
 refine W.rg [(0, v1), (1, .int .i64 wd), (2, .int .i64 tab), (3, .int .i64 cl), (9, .int .i64 n), (10, .int .i64 ((i : Nat) : Int)), (14, .bool (decide (((i : Nat) : Int) < (l.length : Int))))] fun TA => ?_
 refine W.cond rfl (fun hc1 => ?_) (fun hc1 => ?_)
 ·have hc1b := hc1
  have hc1 := of_decide_eq_true hc1
  have hil : i < l.length := by omega
  refine W.skip ?_
  refine W.seq ?_
  refine W.block ?_
  refine W.region ?_
  iterate 3 refine RW.v ?_
  refine RW.idxF h1 (by kernel_rfl) (by kernel_rfl) rfl Tryd.underlying22 (by kernel_rfl) rfl rfl ⟨by omega, by omega⟩ (by kernel_rfl) ?_
  intro b2 q3 r4 hF5 hE6
  rw [pC_ati (l := l) (j := i) (by omega)] at hE6
  refine RW.v ?_
  refine RW.loads 1 (by kernel_rfl) (by kernel_rfl) rfl rfl (H.old _ _ hF5) (sub_take hE6 3 1 (by decide)) rfl (by kernel_rfl) ?_
  refine RW.vop (v := .int .i64 (((l.getD i default).s).length : Int)) (by kernel_rfl) (by kernel_rfl) (vop_sLenL rfl rfl rfl rfl Tryd.underlying9 rfl) (by kernel_rfl) ?_
  iterate 2 refine RW.v ?_
  refine RW.nil ?_
  refine blkQ_normal ?_
  refine W.rg [(0, v1), (1, .int .i64 wd), (2, .int .i64 tab), (3, .int .i64 cl), (9, .int .i64 (IntKind.i64.wrap (n + (((l.getD i default).s).length : Int)))), (10, .int .i64 ((i : Nat) : Int))] fun TA => ?_
  refine W.region ?_
  refine RW.v ?_
  refine RW.valE (v' := .int .i64 (((i : Nat) : Int) + 1)) (by kernel_rfl) (by kernel_rfl) rfl (congrArg (Value.int .i64) (wrap_in (by omega) (by omega))) (by kernel_rfl) ?_
  refine RW.v ?_
  refine RW.nil ?_
  exact ⟨rfl, mm - 1, by omega, i + 1, (IntKind.i64.wrap (n + (((l.getD i default).s).length : Int))), (by omega), H, rfl, rfl, rfl, rfl, rfl, rfl⟩
 ·have hc1b := hc1
  have hc1 := of_decide_eq_false hc1
  refine W.exit _ ?_
  refine seqQ_exit ?_
  refine rndQ_exit ?_
  refine blkQ_here ?_
  refine W.seq ?_
  refine W.seq (W.region ?_)
  iterate 3 refine RW.v ?_
  refine RW.both _ _ rfl rfl rfl (fun hc7 => ?_) (fun hc7 => ?_)
  ·have hc7b := hc7
   have hc7 := of_decide_eq_true hc7
   iterate 2 refine RW.s ?_
   iterate 2 refine RW.v ?_
   iterate 2 refine RW.s ?_
   iterate 2 refine RW.v ?_
   iterate 2 refine RW.s ?_
   refine RW.v ?_
   refine RW.nil ?_
   refine W.c1 ?_
   refine W.seq (W.region ?_)
   refine RW.v ?_
   refine RW.nil ?_
   refine W.ret ?_
   refine seqQ_ret ?_
   refine endG (by rfl) (by exact resL_tmp rfl) ?_
   exact ⟨_, rfl, H⟩
  ·have hc7b := hc7
   have hc7 := of_decide_eq_false hc7
   iterate 2 refine RW.w ?_
   iterate 2 refine RW.v ?_
   refine RW.both _ _ rfl rfl rfl (fun hc8 => ?_) (fun hc8 => ?_)
   ·have hc8b := hc8
    have hc8 := of_decide_eq_true hc8
    iterate 2 refine RW.s ?_
    iterate 2 refine RW.v ?_
    iterate 2 refine RW.s ?_
    refine RW.v ?_
    refine RW.nil ?_
    refine W.c1 ?_
    refine W.seq (W.region ?_)
    refine RW.v ?_
    refine RW.nil ?_
    refine W.ret ?_
    refine seqQ_ret ?_
    refine endG (by rfl) (by exact resL_tmp rfl) ?_
    exact ⟨_, rfl, H⟩
   ·have hc8b := hc8
    have hc8 := of_decide_eq_false hc8
    iterate 2 refine RW.w ?_
    iterate 2 refine RW.v ?_
    refine RW.both _ _ rfl rfl rfl (fun hc9 => ?_) (fun hc9 => ?_)
    ·have hc9b := hc9
     have hc9 := of_decide_eq_true hc9
     iterate 2 refine RW.s ?_
     refine RW.v ?_
     refine RW.nil ?_
     refine W.c1 ?_
     refine W.seq (W.region ?_)
     refine RW.v ?_
     refine RW.nil ?_
     refine W.ret ?_
     refine seqQ_ret ?_
     refine endG (by rfl) (by exact resL_tmp rfl) ?_
     exact ⟨_, rfl, H⟩
    ·have hc9b := hc9
     have hc9 := of_decide_eq_false hc9
     iterate 2 refine RW.w ?_
     refine RW.v ?_
     refine RW.nil ?_
     refine W.rg [(1, .int .i64 wd), (2, .int .i64 tab), (3, .int .i64 cl), (9, .int .i64 n), (38, .bool (decide (tab > 64)))] fun TA => ?_
     refine W.cond rfl (fun hc10 => ?_) (fun hc10 => ?_)
     ·have hc10b := hc10
      have hc10 := of_decide_eq_true hc10
      refine W.seq (W.region ?_)
      refine RW.v ?_
      refine RW.nil ?_
      refine W.ret ?_
      refine seqQ_ret ?_
      refine endG (by rfl) (by exact resL_tmp rfl) ?_
      exact ⟨_, rfl, H⟩
     ·have hc10b := hc10
      have hc10 := of_decide_eq_false hc10
      refine W.skip ?_
      refine W.seq (W.region ?_)
      iterate 12 refine RW.v ?_
      refine RW.nil ?_
      refine W.ret ?_
      refine endG (by rfl) (by exact resL_tmp rfl) ?_
      exact ⟨_, rfl, H⟩
end
end Go.Proofs.YtmmapljeeccdnaaDoor
