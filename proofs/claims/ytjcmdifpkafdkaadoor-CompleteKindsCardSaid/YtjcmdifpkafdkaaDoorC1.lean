/-
 Characters of strings and strings of characters by conversion; maps whose keys are open strings. Over any program. Conditions: none.
 Completion by prefixes in plain words. Plain. Conditions: none.
 Characters compared. Conditions: none.
-/
import Derived.Test.YtjcmdifpkafdkaaDoorL3
import Derived.Test.YtjcmdifpkafdkaaDoorK1
import Derived.Test.YtjcmdifpkafdkaaDoorL4
import Derived.Test.YtjcmdifpkafdkaaDoorS4
namespace Go.Proofs.YtjcmdifpkafdkaaDoor
open Go.Lib
set_option maxRecDepth 100000
def runeV (c : Int) : Value := .int .i32 c
theorem from_runes (bs : List UInt8) : ∀ (n i : Nat) (acc : Array Value), (bs.drop i).length ≤ n → (Conv.runesFrom ⟨bs.toArray⟩ n i acc).toList = acc.toList ++ (runes (bs.drop i)).map runeV
 | 0, i, acc, h => by
  rw [List.eq_nil_of_length_eq_zero (Nat.le_zero.1 h)]
  show acc.toList = acc.toList ++ []
  rw [List.append_nil]
 | n + 1, i, acc, h => by
  unfold Conv.runesFrom
  rw [List.length_drop] at h
  by_cases hi : i < bs.length
  ·rw [if_pos (show i < (⟨bs.toArray⟩ : ByteArray).size from hi), dec_list]
   have hw := decodeL_width (bs.drop i)
   show (Conv.runesFrom ⟨bs.toArray⟩ n (i + (decodeL (bs.drop i)).2) (acc.push (.int .i32 (Int.ofNat (decodeL (bs.drop i)).1)))).toList = _
   rw [from_runes bs n _ _ (by rw [List.length_drop]; omega), runes_dr hi, Array.toList_push, List.append_assoc]
   rfl
  ·rw [if_neg (show ¬ i < (⟨bs.toArray⟩ : ByteArray).size from hi), runes_end (by omega), List.map_nil, List.append_nil]
theorem convF_runes {P : Program} {src dst e : TypeId} (hs : uT P src = some .string) (hd : uT P dst = some (.slice e)) (he : uT P e = some (.int .i32)) {bs : List UInt8} (hl : bs.length ≤ 1000000) : convF P src dst ⟨bs.toArray⟩ = some (e, (runes bs).map runeV) := by
 have h := from_runes bs bs.length 0 #[] (by rw [List.drop_zero]; exact Nat.le_refl _)
 rw [List.drop_zero] at h
 have h : (Conv.runesFrom ⟨bs.toArray⟩ bs.length 0 #[]).toList = (runes bs).map runeV := h
 have hz : (Conv.runesFrom ⟨bs.toArray⟩ (⟨bs.toArray⟩ : ByteArray).size 0 #[]).size ≤ 1000000 := by
  show (Conv.runesFrom ⟨bs.toArray⟩ bs.length 0 #[]).size ≤ 1000000
  rw [← Array.length_toList, h, List.length_map]
  exact Nat.le_trans (runes_le bs) hl
 unfold convF
 rw [hs, hd]
 simp only [he]
 rw [if_pos hz]
 show some (e, (Conv.runesFrom ⟨bs.toArray⟩ bs.length 0 #[]).toList) = _
 rw [h]
section
variable {P : Program} {G nt : Nat} {ops : Array Oper} {l : List Oper} {o : Oper} {ta : Nat → Value} {σ : Mem} {rs : List (Rec × Mem)} {A : Abs} {F : Nat → Option Blk2} {L : List Ent} {K : List (Rec × Mem) → (Nat → Value) → Mem → Prop}
theorem RW.convR (H : Lies G A F σ L) {src dst e : TypeId} {x : Operand} {bs : List UInt8} (hl : bs.length ≤ 1000000) (hw : wantedT ops ta o = true) (hk : opndOk G o = true) (ho : o.op = .convert src dst x) (hx : oper2 ta x = .string ⟨bs.toArray⟩) (hs : uT P src = some .string) (hdt : uT P dst = some (.slice e)) (he : uT P e = some (.int .i32)) (hd : dstOk nt o.dst = true)
  (h : ∀ σ' v', Lies G A F σ' (.sl e 1 v' (runes bs).length ((runes bs).map runeV) :: L) → RW G P nt ops l (putO ta o.dst v') σ' ((.eff v', σ) :: rs) K) : RW G P nt ops (o :: l) ta σ rs K :=
 RW.conv H hw hk ho hx (convF_runes hs hdt he hl) hd fun σ' v' H' => h σ' v' (by rw [List.length_map] at H'; exact H')
end
def seenE (l : List (List UInt8)) : List (Value × Value) := l.map fun s => (.string ⟨s.toArray⟩, .bool true)
theorem ba_beq (a b : List UInt8) : ((⟨a.toArray⟩ : ByteArray) == ⟨b.toArray⟩) = (a == b) := by
 show (a.toArray == b.toArray) = (a == b)
 simp
theorem find_seen (k : List UInt8) : ∀ (l : List (List UInt8)) (i : Nat), (k ∈ l → ∃ j, findE .string (.string ⟨k.toArray⟩) (seenE l) i = some (some (j, .bool true))) ∧ (k ∉ l → findE .string (.string ⟨k.toArray⟩) (seenE l) i = some none)
 | [], i => ⟨fun h => absurd h (List.not_mem_nil), fun _ => rfl⟩
 | s :: l, i => by
  have ih := find_seen k l (i + 1)
  have e : findE .string (.string ⟨k.toArray⟩) (seenE (s :: l)) i = (match Instr.sameNow .string (.string ⟨k.toArray⟩) (.string ⟨s.toArray⟩) with | some true => some (some (i, .bool true)) | some false => findE .string (.string ⟨k.toArray⟩) (seenE l) (i + 1) | none => none) := rfl
  have e2 : Instr.sameNow .string (.string ⟨k.toArray⟩) (.string ⟨s.toArray⟩) = some (k == s) := by
   show some ((⟨k.toArray⟩ : ByteArray) == ⟨s.toArray⟩) = _
   rw [ba_beq]
  rw [e, e2]
  by_cases h : k = s
  ·subst h
   rw [beq_self_eq_true]
   exact ⟨fun _ => ⟨i, rfl⟩, fun h => absurd (List.mem_cons_self ..) h⟩
  ·rw [beq_eq_false_iff_ne.2 h]
   exact ⟨fun hm => ih.1 ((List.mem_cons.1 hm).resolve_left h), fun hm => ih.2 fun hx => hm (List.mem_cons_of_mem _ hx)⟩
section
variable {P : Program} {t kt et : TypeId} {k : List UInt8} {l : List (List UInt8)}
theorem look_seen (ht : uT P t = some (.map kt et)) (hk : uT P kt = some .string) (hz : zeroT P et = some (.bool false)) : lookE P (seenE l) t (.string ⟨k.toArray⟩) false = some (.bool (decide (k ∈ l))) := by
 unfold lookE
 rw [ht]
 simp only [hk, hz]
 rw [if_pos ⟨rfl, rfl, rfl⟩, findX_plain rfl]
 by_cases h : k ∈ l
 ·obtain ⟨j, hj⟩ := (find_seen k l 0).1 h
  rw [hj, decide_eq_true h]
  rfl
 ·rw [(find_seen k l 0).2 h, decide_eq_false h]
  rfl
theorem upd_seen (ht : uT P t = some (.map kt et)) (hk : uT P kt = some .string) (h : k ∉ l) : updE P (seenE l) l.length t (.string ⟨k.toArray⟩) (.bool true) = some (seenE (l ++ [k]), l.length + 1) := by
 unfold updE
 rw [ht]
 simp only [hk]
 rw [if_pos ⟨rfl, rfl, by unfold seenE; rw [List.length_map]⟩, findX_plain rfl, (find_seen k l 0).2 h]
 simp only [seenE, List.map_append]
 rfl
end
end Go.Proofs.YtjcmdifpkafdkaaDoor
namespace Go.Proofs.YtjcmdifpkafdkaaDoor
open Go.Lib
set_option maxRecDepth 100000
def foldC (fold : Bool) (c : Int) : Int := if fold = true then foldOf c else c
def keyC (fold : Bool) (l : List Int) : List Int := l.map (foldC fold)
def begC (fold : Bool) (c s : List Int) : Bool := decide (s.length ≤ c.length) && (keyC fold (c.take s.length) == keyC fold s)
def eqC (fold : Bool) (c s : List Int) : Bool := decide (c.length = s.length) && (keyC fold c == keyC fold s)
def distG : List (List UInt8) → List (List UInt8) → List (List UInt8)
 | _, [] => []
 | seen, s :: l => if s ∈ seen ∨ validD s = false then distG seen l else s :: distG (seen ++ [s]) l
def distM (l : List (List UInt8)) : List (List UInt8) := distG [] l
def allC (fold : Bool) (l : List (List UInt8)) (s : List UInt8) : List (List UInt8) := if validD s = true then (distM l).filter (fun c => begC fold (runes c) (runes s)) else []
def delC (c : Int) : Bool := decide (c = 32 ∨ c = 45 ∨ c = 46 ∨ c = 47 ∨ c = 58 ∨ c = 95)
theorem distG_valid : ∀ {l seen : List (List UInt8)}, ∀ x ∈ distG seen l, validD x = true ∧ x ∉ seen ∧ x ∈ l
 | [], _, x, h => by simp [distG] at h
 | s :: l, seen, x, h => by
  unfold distG at h
  split at h
  ·have := distG_valid x h
   exact ⟨this.1, this.2.1, List.mem_cons_of_mem _ this.2.2⟩
  ·rename_i k
   rcases List.mem_cons.1 h with rfl | h
   ·exact ⟨by cases hv : validD x with | true => rfl | false => exact absurd (.inr hv) k, fun hm => k (.inl hm), List.mem_cons_self ..⟩
   ·have := distG_valid x h
    exact ⟨this.1, fun hm => this.2.1 (List.mem_append.2 (.inl hm)), List.mem_cons_of_mem _ this.2.2⟩
theorem distG_mem : ∀ {l seen : List (List UInt8)} {x : List UInt8}, x ∈ l → validD x = true → x ∉ seen → x ∈ distG seen l
 | s :: l, seen, x, h, hv, hs => by
  unfold distG
  by_cases e : x = s
  ·subst e
   rw [if_neg (fun k => k.elim hs fun h => by rw [hv] at h; cases h)]
   exact List.mem_cons_self ..
  ·have hl := (List.mem_cons.1 h).resolve_left e
   split
   ·exact distG_mem hl hv hs
   ·exact List.mem_cons_of_mem _ (distG_mem hl hv fun k => (List.mem_append.1 k).elim hs fun k => e (List.mem_singleton.1 k))
theorem distG_nodup : ∀ (l seen : List (List UInt8)), (distG seen l).Nodup
 | [], _ => List.nodup_nil
 | s :: l, seen => by
  unfold distG
  split
  ·exact distG_nodup l seen
  ·refine List.nodup_cons.2 ⟨fun h => ?_, distG_nodup l _⟩
   exact (distG_valid s h).2.1 (List.mem_append.2 (.inr (List.mem_singleton.2 rfl)))
theorem distM_mem {l : List (List UInt8)} {x : List UInt8} : x ∈ distM l ↔ x ∈ l ∧ validD x = true :=
 ⟨fun h => ⟨(distG_valid x h).2.2, (distG_valid x h).1⟩, fun h => distG_mem h.1 h.2 (List.not_mem_nil)⟩
end Go.Proofs.YtjcmdifpkafdkaaDoor
namespace Go.Proofs.YtjcmdifpkafdkaaDoor
open Go.Lib
set_option maxRecDepth 100000
def strV (s : List UInt8) : Value := .string ⟨s.toArray⟩
theorem runs_at {l : List Int} {j : Nat} {i : Int} (hi : i = ((j : Nat) : Int)) (h : j < l.length) : ((l.map runeV).drop (i.toNat * 1)).take 1 = [.int .i32 (l.getD j 0)] := by
 subst hi
 rw [Int.toNat_natCast, Nat.mul_one, List.getD_eq_getElem?_getD, List.getElem?_eq_getElem h, List.drop_eq_getElem_cons (by simpa using h)]
 simp [runeV]
theorem strs_at {l : List (List UInt8)} {j : Nat} {i : Int} (hi : i = ((j : Nat) : Int)) (h : j < l.length) : ((l.map strV).drop (i.toNat * 1)).take 1 = [.string ⟨(l.getD j []).toArray⟩] := by
 subst hi
 rw [Int.toNat_natCast, Nat.mul_one, List.getD_eq_getElem?_getD, List.getElem?_eq_getElem h, List.drop_eq_getElem_cons (by simpa using h)]
 simp [strV]
theorem strs_ones (l : List (List UInt8)) : (l.map strV).all (·.oneCell') = true := by
 rw [List.all_map, List.all_eq_true]
 intro x _
 rfl
theorem wrap_i32 {n : Int} (h0 : -2147483648 ≤ n) (h1 : n ≤ 2147483647) : IntKind.i32.wrap n = n := by
 simp [IntKind.wrap, IntKind.bits, IntKind.signed]
 omega
theorem foldOf_in {a : Int} (h0 : 0 ≤ a) (h1 : a ≤ 1114111) : -2147483648 ≤ foldOf a ∧ foldOf a ≤ 2147483647 := by
 have hu : -1000 ≤ upOf a ∧ upOf a ≤ 1200000 := by unfold upOf; (repeat' split) <;> omega
 unfold foldOf downOf
 (repeat' split) <;> omega
theorem dropD {α : Type} {l : List α} {i : Nat} {d : α} (h : i < l.length) : l.drop i = l.getD i d :: l.drop (i + 1) := by
 rw [List.drop_eq_getElem_cons h, List.getD_eq_getElem?_getD, List.getElem?_eq_getElem h]
 rfl
theorem eq_go {fold : Bool} {xs ys : List Int} {i : Nat} (h1 : i < xs.length) (h2 : i < ys.length) (h : (foldC fold (xs.getD i 0) == foldC fold (ys.getD i 0)) = true) : (keyC fold (xs.drop i) == keyC fold (ys.drop i)) = (keyC fold (xs.drop (i + 1)) == keyC fold (ys.drop (i + 1))) := by
 rw [dropD (d := 0) h1, dropD (d := 0) h2]
 show ((_ :: _) == (_ :: _)) = _
 rw [List.cons_beq_cons, h, Bool.true_and]
 rfl
theorem eq_stop {fold : Bool} {xs ys : List Int} {i : Nat} (h1 : i < xs.length) (h2 : i < ys.length) (h : (foldC fold (xs.getD i 0) == foldC fold (ys.getD i 0)) = false) : (keyC fold (xs.drop i) == keyC fold (ys.drop i)) = false := by
 rw [dropD (d := 0) h1, dropD (d := 0) h2]
 show ((_ :: _) == (_ :: _)) = _
 rw [List.cons_beq_cons, h, Bool.false_and]
def cmpV (fold : Bool) : Value := .agg #[.func (.func (cond fold 84 86)) #[] #[]]
section
variable {G : Nat} {A : Abs} {σ : Mem} {F : Nat → Option Blk2} {L : List Ent} {fold : Bool} {a b : Int} {xs ys : List Int} {v1 v2 : Value}
theorem s_fold {c : Int} (h0 : -9223372036854775808 ≤ c) (h1 : c ≤ 9223372036854775807) : SCall G Tryd.prog 85 #[.int .i64 c] σ (.int .i64 (foldOf c)) σ :=
 below_call rfl rfl fun w => fold_any c w h0 h1
set_option maxHeartbeats 8000000 in
theorem by1_wc (h0 : 0 ≤ a) (h1 : a ≤ 1114111) (H : Lies G A F σ L) : WC G Tryd.prog 84 #[.int .i32 a] σ fun v σ' => v = .int .i32 (foldC true a) ∧ Lies G A F σ' L := by
 show WC G Tryd.prog 84 #[.int .i32 a] σ fun v σ' => v = .int .i32 (foldOf a) ∧ Lies G A F σ' L
 refine WC.enter (fn := Tryd.f84) Tryd.func84 rfl ?_
 refine W.rg [(0, .int .i32 a)] fun TA => ?_
 refine W.seq (W.region ?_)
 refine RW.v ?_
 refine RW.nil ?_
 refine W.rg [(0, .int .i32 a)] fun TA => ?_
 refine W.seq (W.region ?_)
 refine RW.v ?_
 refine RW.valE (v' := .int .i64 a) (by kernel_rfl) (by kernel_rfl) rfl (congrArg (Value.int .i64) (wrap_in (by omega) (by omega))) (by kernel_rfl) ?_
 refine RW.cl ?_
 refine ⟨_, _, (s_fold (by omega) (by omega)), ?_⟩
 have hf := foldOf_in h0 h1
 refine RW.valE (v' := .int .i32 (foldOf a)) (by kernel_rfl) (by kernel_rfl) rfl (congrArg (Value.int .i32) (wrap_i32 (by omega) (by omega))) (by kernel_rfl) ?_
 refine RW.v ?_
 refine RW.nil ?_
 refine W.ret ?_
 refine endG (by rfl) (by exact resL_tmp rfl) ?_
 exact ⟨rfl, H⟩
set_option maxHeartbeats 8000000 in
theorem by2_wc (h0 : 0 ≤ a) (h1 : a ≤ 1114111) (H : Lies G A F σ L) : WC G Tryd.prog 86 #[.int .i32 a] σ fun v σ' => v = .int .i32 (foldC false a) ∧ Lies G A F σ' L := by
 refine WC.enter (fn := Tryd.f86) Tryd.func86 rfl ?_
 refine W.rg [(0, .int .i32 a)] fun TA => ?_
 refine W.seq (W.region ?_)
 refine RW.v ?_
 refine RW.nil ?_
 refine W.rg [(0, .int .i32 a)] fun TA => ?_
 refine W.seq (W.region ?_)
 iterate 2 refine RW.v ?_
 refine RW.nil ?_
 refine W.ret ?_
 refine endG (by rfl) (by exact resL_tmp rfl) ?_
 exact ⟨rfl, H⟩
set_option maxHeartbeats 8000000 in
theorem by_wc (H : Lies G A F σ L) : WC G Tryd.prog 41 #[.bool fold] σ fun v σ' => v = cmpV fold ∧ Lies G A F σ' L := by
 cases fold with
 | true =>
  refine WC.enter (fn := Tryd.f41) Tryd.func41 rfl ?_
  refine W.rg [(0, .bool true)] fun TA => ?_
  refine W.seq (W.region ?_)
  refine RW.mk H (.row ⟨[.nilFunc], 47, false⟩) ?_
  clear H; intro _ b1 _ H
  refine RW.nil ?_
  refine W.rg [(0, .bool true), (2, .pointer (some ⟨b1, 0, none⟩))] fun TA => ?_
  refine W.seq ?_
  refine W.seq (W.region ?_)
  refine RW.v ?_
  refine RW.nil ?_
  refine W.c1 ?_
  refine W.seq (W.region ?_)
  refine RW.val (v := .agg #[.func (.func 84) #[] #[]]) (by kernel_rfl) (by kernel_rfl) (by kernel_rfl) (by kernel_rfl) ?_
  refine RW.st H 0 [.func (.func 84) #[] #[]] [.func (.func 84) #[] #[]] ?_
  clear H; intro _ _ H; dsimp only [setL, delL] at H
  refine RW.nil ?_
  refine W.ret ?_
  refine seqQ_ret ?_
  refine endG (by rfl) (by exact resL_cell rfl (H.get 0 rfl) (by rw [uT_eq]; exact Tryd.underlying47) (by kernel_rfl) rfl rfl rfl) ?_
  exact ⟨rfl, (H.del 0)⟩
 | false =>
  refine WC.enter (fn := Tryd.f41) Tryd.func41 rfl ?_
  refine W.rg [(0, .bool false)] fun TA => ?_
  refine W.seq (W.region ?_)
  refine RW.mk H (.row ⟨[.nilFunc], 47, false⟩) ?_
  clear H; intro _ b1 _ H
  refine RW.nil ?_
  refine W.rg [(0, .bool false), (2, .pointer (some ⟨b1, 0, none⟩))] fun TA => ?_
  refine W.seq ?_
  refine W.seq (W.region ?_)
  refine RW.v ?_
  refine RW.nil ?_
  refine W.c0 ?_
  refine W.skip ?_
  refine W.seq (W.region ?_)
  refine RW.val (v := .agg #[.func (.func 86) #[] #[]]) (by kernel_rfl) (by kernel_rfl) (by kernel_rfl) (by kernel_rfl) ?_
  refine RW.st H 0 [.func (.func 86) #[] #[]] [.func (.func 86) #[] #[]] ?_
  clear H; intro _ _ H; dsimp only [setL, delL] at H
  refine RW.nil ?_
  refine W.ret ?_
  refine endG (by rfl) (by exact resL_cell rfl (H.get 0 rfl) (by rw [uT_eq]; exact Tryd.underlying47) (by kernel_rfl) rfl rfl rfl) ?_
  exact ⟨rfl, (H.del 0)⟩
set_option maxHeartbeats 4000000 in
theorem same_wc (ha : 0 ≤ a ∧ a ≤ 1114111) (hb : 0 ≤ b ∧ b ≤ 1114111) (H : Lies G A F σ L) : WC G Tryd.prog 87 #[cmpV fold, .int .i32 a, .int .i32 b] σ fun v σ' => v = .bool (foldC fold a == foldC fold b) ∧ Lies G A F σ' L := by
 cases fold with
 | true =>
  refine WC.enter (fn := Tryd.f87) Tryd.func87 rfl ?_
  refine W.rg [(0, .agg #[.func (.func 84) #[] #[]]), (1, .int .i32 a), (2, .int .i32 b)] fun TA => ?_
  refine W.seq (W.region ?_)
  refine RW.mk H (.row ⟨[.func (.func 84) #[] #[]], 47, false⟩) ?_
  clear H; intro _ b1 _ H
  refine RW.v ?_
  refine RW.nil ?_
  refine W.rg [(1, .int .i32 a), (2, .int .i32 b), (3, .pointer (some ⟨b1, 0, none⟩))] fun TA => ?_
  refine W.seq ?_
  refine W.drawn (by kernel_rfl) (by kernel_rfl) H.gn ?_
  have H2 := H
  refine RW.v ?_
  refine RW.ld H2 0 1 ?_
  refine RW.v ?_
  refine RW.cl ?_
  refine ((by1_wc (a := a) ha.1 ha.2 H2).mono ?_)
  rintro _ _ ⟨rfl, H3⟩
  refine RW.v ?_
  refine RW.ld H3 0 1 ?_
  refine RW.v ?_
  refine RW.cl ?_
  refine ((by1_wc (a := b) hb.1 hb.2 H3).mono ?_)
  rintro _ _ ⟨rfl, H4⟩
  iterate 2 refine RW.v ?_
  refine RW.nil ?_
  refine ⟨⟨by kernel_rfl, ⟨trivial, dyn_row (H2.get 0 rfl) (H4.get 0 rfl) ⟨nB, nB, nB, fun _ => H2.get 0 rfl, nB, nB, nB, fun _ => H3.get 0 rfl, nB, nB, trivial⟩, trivial, trivial, trivial, dyn_row (H3.get 0 rfl) (H4.get 0 rfl) ⟨nB, nB, nB, fun _ => H2.get 0 rfl, nB, nB, nB, fun _ => H3.get 0 rfl, nB, nB, trivial⟩, trivial, trivial, trivial, trivial, trivial⟩⟩, ?_⟩
  replace H := H4
  clear H2 H3 H4
  replace H := (H.del 0)
  dsimp only [setL, delL] at H
  refine W.ret ?_
  refine endG (by rfl) (by exact resL_tmp rfl) ?_
  exact ⟨rfl, H⟩
 | false =>
  refine WC.enter (fn := Tryd.f87) Tryd.func87 rfl ?_
  refine W.rg [(0, .agg #[.func (.func 86) #[] #[]]), (1, .int .i32 a), (2, .int .i32 b)] fun TA => ?_
  refine W.seq (W.region ?_)
  refine RW.mk H (.row ⟨[.func (.func 86) #[] #[]], 47, false⟩) ?_
  clear H; intro _ b1 _ H
  refine RW.v ?_
  refine RW.nil ?_
  refine W.rg [(1, .int .i32 a), (2, .int .i32 b), (3, .pointer (some ⟨b1, 0, none⟩))] fun TA => ?_
  refine W.seq ?_
  refine W.drawn (by kernel_rfl) (by kernel_rfl) H.gn ?_
  have H2 := H
  refine RW.v ?_
  refine RW.ld H2 0 1 ?_
  refine RW.v ?_
  refine RW.cl ?_
  refine ((by2_wc (a := a) ha.1 ha.2 H2).mono ?_)
  rintro _ _ ⟨rfl, H3⟩
  refine RW.v ?_
  refine RW.ld H3 0 1 ?_
  refine RW.v ?_
  refine RW.cl ?_
  refine ((by2_wc (a := b) hb.1 hb.2 H3).mono ?_)
  rintro _ _ ⟨rfl, H4⟩
  iterate 2 refine RW.v ?_
  refine RW.nil ?_
  refine ⟨⟨by kernel_rfl, ⟨trivial, dyn_row (H2.get 0 rfl) (H4.get 0 rfl) ⟨nB, nB, nB, fun _ => H2.get 0 rfl, nB, nB, nB, fun _ => H3.get 0 rfl, nB, nB, trivial⟩, trivial, trivial, trivial, dyn_row (H3.get 0 rfl) (H4.get 0 rfl) ⟨nB, nB, nB, fun _ => H2.get 0 rfl, nB, nB, nB, fun _ => H3.get 0 rfl, nB, nB, trivial⟩, trivial, trivial, trivial, trivial, trivial⟩⟩, ?_⟩
  replace H := H4
  clear H2 H3 H4
  replace H := (H.del 0)
  dsimp only [setL, delL] at H
  refine W.ret ?_
  refine endG (by rfl) (by exact resL_tmp rfl) ?_
  exact ⟨rfl, H⟩
set_option maxHeartbeats 4000000 in
theorem eqf_wc (h1 : SlF F 1 v1 xs.length (xs.map runeV)) (h2 : SlF F 1 v2 ys.length (ys.map runeV)) (hl : xs.length ≤ 1000000) (hx : ∀ c ∈ xs, 0 ≤ c ∧ c ≤ 1114111) (hy : ∀ c ∈ ys, 0 ≤ c ∧ c ≤ 1114111) (H : Lies G A F σ L) : WC G Tryd.prog 96 #[v1, v2, .func (.func 87) #[cmpV fold] #[]] σ fun v σ' => v = .bool (eqC fold xs ys) ∧ Lies G A F σ' L := by
 cases fold with
 | true =>
  refine WC.enter (fn := Tryd.f96) Tryd.func96 rfl ?_
  refine W.rg [(0, v1), (1, v2), (2, .func (.func 87) #[.agg #[.func (.func 84) #[] #[]]] #[])] fun TA => ?_
  refine W.seq (W.region ?_)
  refine RW.v ?_
  refine RW.nil ?_
  refine W.rg [(0, v1), (1, v2), (2, .func (.func 87) #[.agg #[.func (.func 84) #[] #[]]] #[])] fun TA => ?_
  refine W.seq ?_
  refine W.seq (W.region ?_)
  refine RW.v ?_
  refine RW.len (by kernel_rfl) (by kernel_rfl) rfl rfl rfl rfl (h1.len (e := 21) (by kernel_rfl)) (by kernel_rfl) ?_
  refine RW.v ?_
  refine RW.len (by kernel_rfl) (by kernel_rfl) rfl rfl rfl rfl (h2.len (e := 21) (by kernel_rfl)) (by kernel_rfl) ?_
  refine RW.v ?_
  refine RW.nil ?_
  refine W.rg [(0, v1), (1, v2), (2, .func (.func 87) #[.agg #[.func (.func 84) #[] #[]]] #[]), (14, .bool ((xs.length : Int) != (ys.length : Int)))] fun TA => ?_
  refine W.cond rfl (fun hc1 => ?_) (fun hc1 => ?_)
  ·have hc1b := hc1
   have hc1 := bne_iff_ne.1 hc1
   refine W.seq (W.region ?_)
   refine RW.v ?_
   refine RW.nil ?_
   refine W.ret ?_
   refine seqQ_ret ?_
   refine endG (by rfl) (by exact resL_tmp rfl) ?_
   have ee : eqC true xs ys = false := by unfold eqC; rw [decide_eq_false (show ¬ xs.length = ys.length by omega)]; rfl
   rw [ee]
   exact ⟨rfl, H⟩
  ·have hc1b := hc1
   have hc1 := (bne_eq_false_iff_eq.1) hc1
   refine W.skip ?_
   refine W.seq ?_
   refine W.seq (W.region ?_)
   refine RW.v ?_
   refine RW.len (by kernel_rfl) (by kernel_rfl) rfl rfl rfl rfl (h1.len (e := 21) (by kernel_rfl)) (by kernel_rfl) ?_
   refine RW.v ?_
   refine RW.nil ?_
   refine W.rg [(1, v2), (2, .func (.func 87) #[.agg #[.func (.func 84) #[] #[]]] #[]), (15, v1), (16, .int .i64 (xs.length : Int)), (17, .int .i64 0)] fun TA => ?_
   refine W.block ?_
   refine W.loop (fun mm ta σ => ∃ (i : Nat), (mm + i = xs.length) ∧ ((keyC true xs == keyC true ys) = (keyC true (xs.drop i) == keyC true (ys.drop i))) ∧ Lies G A F σ ((L)) ∧ ta 1 = v2 ∧ ta 2 = .func (.func 87) #[.agg #[.func (.func 84) #[] #[]]] #[] ∧ ta 15 = v1 ∧ ta 16 = .int .i64 (xs.length : Int) ∧ ta 17 = .int .i64 ((i : Nat) : Int)) xs.length ?_ ?_
   ·exact ⟨0, (by omega), rfl, H, rfl, rfl, rfl, rfl, rfl⟩
   clear H
   rintro mm ta _ ⟨i, hm, hT, H, e1, e2, e15, e16, e17⟩
   refine W.rst [(1, v2), (2, .func (.func 87) #[.agg #[.func (.func 84) #[] #[]]] #[]), (15, v1), (16, .int .i64 (xs.length : Int)), (17, .int .i64 ((i : Nat) : Int))] ⟨e1, e2, e15, e16, e17, trivial⟩ fun TA => ?_
   clear e1 e2 e15 e16 e17
   refine W.seq (W.region ?_)
   refine RW.v ?_
   refine RW.nil ?_
   refine W.rg [(1, v2), (2, .func (.func 87) #[.agg #[.func (.func 84) #[] #[]]] #[]), (15, v1), (16, .int .i64 (xs.length : Int)), (17, .int .i64 ((i : Nat) : Int)), (18, .bool (decide (((i : Nat) : Int) < (xs.length : Int))))] fun TA => ?_
   refine W.seq ?_
   refine W.cond rfl (fun hc2 => ?_) (fun hc2 => ?_)
   ·have hc2b := hc2
    have hc2 := of_decide_eq_true hc2
    refine W.skip ?_
    refine W.seq ?_
    refine W.block ?_
    refine W.seq (W.region ?_)
    refine RW.v ?_
    refine RW.idxF h1 (by kernel_rfl) (by kernel_rfl) rfl Tryd.underlying50 (by kernel_rfl) rfl rfl ⟨by omega, by omega⟩ (by kernel_rfl) ?_
    intro b3 q4 r5 hF6 hE7
    rw [runs_at (l := xs) (j := i) (i := ((i : Nat) : Int)) (by omega) (by omega)] at hE7
    refine RW.loads 1 (by kernel_rfl) (by kernel_rfl) rfl rfl (H.old _ _ hF6) hE7 rfl (by kernel_rfl) ?_
    iterate 2 refine RW.v ?_
    refine RW.nil ?_
    refine W.rg [(1, v2), (2, .func (.func 87) #[.agg #[.func (.func 84) #[] #[]]] #[]), (7, .int .i64 ((i : Nat) : Int)), (8, .int .i32 (xs.getD i 0)), (15, v1), (16, .int .i64 (xs.length : Int)), (17, .int .i64 ((i : Nat) : Int))] fun TA => ?_
    refine W.seq (W.region ?_)
    iterate 2 refine RW.v ?_
    refine RW.idxF h2 (by kernel_rfl) (by kernel_rfl) rfl Tryd.underlying50 (by kernel_rfl) rfl rfl ⟨by omega, by omega⟩ (by kernel_rfl) ?_
    intro b8 q9 r10 hF11 hE12
    rw [runs_at (l := ys) (j := i) (i := ((i : Nat) : Int)) (by omega) (by omega)] at hE12
    refine RW.loads 1 (by kernel_rfl) (by kernel_rfl) rfl rfl (H.old _ _ hF11) hE12 rfl (by kernel_rfl) ?_
    refine RW.v ?_
    refine RW.nil ?_
    refine W.rg [(1, v2), (2, .func (.func 87) #[.agg #[.func (.func 84) #[] #[]]] #[]), (8, .int .i32 (xs.getD i 0)), (9, .int .i32 (ys.getD i 0)), (15, v1), (16, .int .i64 (xs.length : Int)), (17, .int .i64 ((i : Nat) : Int))] fun TA => ?_
    refine W.seq (W.region ?_)
    iterate 3 refine RW.v ?_
    refine RW.cl ?_
    refine ((same_wc (fold := true) (a := (xs.getD i 0)) (b := (ys.getD i 0)) (hx _ (getD_mem (by omega))) (hy _ (getD_mem (by omega))) H).mono ?_)
    clear H
    rintro _ _ ⟨rfl, H⟩
    refine RW.v ?_
    refine RW.nil ?_
    refine W.rg [(1, v2), (2, .func (.func 87) #[.agg #[.func (.func 84) #[] #[]]] #[]), (15, v1), (16, .int .i64 (xs.length : Int)), (17, .int .i64 ((i : Nat) : Int)), (30, .bool (!(foldC true (xs.getD i 0) == foldC true (ys.getD i 0))))] fun TA => ?_
    refine W.cond rfl (fun hc13 => ?_) (fun hc13 => ?_)
    ·have hc13b := hc13
     have hc13e : (foldC true (xs.getD i 0) == foldC true (ys.getD i 0)) = false := by simpa using hc13b
     refine W.seq (W.region ?_)
     refine RW.v ?_
     refine RW.nil ?_
     refine W.ret ?_
     refine blkQ_ret ?_
     refine seqQ_ret ?_
     refine rndQ_ret ?_
     refine blkQ_ret ?_
     refine seqQ_ret ?_
     refine endG (by rfl) (by exact resL_tmp rfl) ?_
     have ee : eqC true xs ys = false := by unfold eqC; rw [hT, eq_stop (by omega) (by omega) hc13e, Bool.and_false]
     rw [ee]
     exact ⟨rfl, H⟩
    ·have hc13b := hc13
     have hc13e : (foldC true (xs.getD i 0) == foldC true (ys.getD i 0)) = true := by simpa using hc13b
     refine W.skip ?_
     refine bQn ?_
     refine W.region ?_
     refine RW.valE (v' := .int .i64 (((i : Nat) : Int) + 1)) (by kernel_rfl) (by kernel_rfl) rfl (congrArg (Value.int .i64) (wrap_in (by omega) (by omega))) (by kernel_rfl) ?_
     refine RW.v ?_
     refine RW.nil ?_
     exact ⟨rfl, mm - 1, by omega, i + 1, (by omega), (by rw [hT, eq_go (by omega) (by omega) hc13e]), H, rfl, rfl, rfl, rfl, rfl⟩
   ·have hc2b := hc2
    have hc2 := of_decide_eq_false hc2
    refine W.exit _ ?_
    refine seqQ_exit ?_
    refine rndQ_exit ?_
    refine blkQ_here ?_
    refine W.seq (W.region ?_)
    refine RW.v ?_
    refine RW.nil ?_
    refine W.ret ?_
    refine endG (by rfl) (by exact resL_tmp rfl) ?_
    have ee : eqC true xs ys = true := by unfold eqC; rw [decide_eq_true (show xs.length = ys.length by omega), hT, List.drop_eq_nil_of_le (by omega), List.drop_eq_nil_of_le (by omega)]; rfl
    rw [ee]
    exact ⟨rfl, H⟩
 | false =>
  refine WC.enter (fn := Tryd.f96) Tryd.func96 rfl ?_
  refine W.rg [(0, v1), (1, v2), (2, .func (.func 87) #[.agg #[.func (.func 86) #[] #[]]] #[])] fun TA => ?_
  refine W.seq (W.region ?_)
  refine RW.v ?_
  refine RW.nil ?_
  refine W.rg [(0, v1), (1, v2), (2, .func (.func 87) #[.agg #[.func (.func 86) #[] #[]]] #[])] fun TA => ?_
  refine W.seq ?_
  refine W.seq (W.region ?_)
  refine RW.v ?_
  refine RW.len (by kernel_rfl) (by kernel_rfl) rfl rfl rfl rfl (h1.len (e := 21) (by kernel_rfl)) (by kernel_rfl) ?_
  refine RW.v ?_
  refine RW.len (by kernel_rfl) (by kernel_rfl) rfl rfl rfl rfl (h2.len (e := 21) (by kernel_rfl)) (by kernel_rfl) ?_
  refine RW.v ?_
  refine RW.nil ?_
  refine W.rg [(0, v1), (1, v2), (2, .func (.func 87) #[.agg #[.func (.func 86) #[] #[]]] #[]), (14, .bool ((xs.length : Int) != (ys.length : Int)))] fun TA => ?_
  refine W.cond rfl (fun hc1 => ?_) (fun hc1 => ?_)
  ·have hc1b := hc1
   have hc1 := bne_iff_ne.1 hc1
   refine W.seq (W.region ?_)
   refine RW.v ?_
   refine RW.nil ?_
   refine W.ret ?_
   refine seqQ_ret ?_
   refine endG (by rfl) (by exact resL_tmp rfl) ?_
   have ee : eqC false xs ys = false := by unfold eqC; rw [decide_eq_false (show ¬ xs.length = ys.length by omega)]; rfl
   rw [ee]
   exact ⟨rfl, H⟩
  ·have hc1b := hc1
   have hc1 := (bne_eq_false_iff_eq.1) hc1
   refine W.skip ?_
   refine W.seq ?_
   refine W.seq (W.region ?_)
   refine RW.v ?_
   refine RW.len (by kernel_rfl) (by kernel_rfl) rfl rfl rfl rfl (h1.len (e := 21) (by kernel_rfl)) (by kernel_rfl) ?_
   refine RW.v ?_
   refine RW.nil ?_
   refine W.rg [(1, v2), (2, .func (.func 87) #[.agg #[.func (.func 86) #[] #[]]] #[]), (15, v1), (16, .int .i64 (xs.length : Int)), (17, .int .i64 0)] fun TA => ?_
   refine W.block ?_
   refine W.loop (fun mm ta σ => ∃ (i : Nat), (mm + i = xs.length) ∧ ((keyC false xs == keyC false ys) = (keyC false (xs.drop i) == keyC false (ys.drop i))) ∧ Lies G A F σ ((L)) ∧ ta 1 = v2 ∧ ta 2 = .func (.func 87) #[.agg #[.func (.func 86) #[] #[]]] #[] ∧ ta 15 = v1 ∧ ta 16 = .int .i64 (xs.length : Int) ∧ ta 17 = .int .i64 ((i : Nat) : Int)) xs.length ?_ ?_
   ·exact ⟨0, (by omega), rfl, H, rfl, rfl, rfl, rfl, rfl⟩
   clear H
   rintro mm ta _ ⟨i, hm, hT, H, e1, e2, e15, e16, e17⟩
   refine W.rst [(1, v2), (2, .func (.func 87) #[.agg #[.func (.func 86) #[] #[]]] #[]), (15, v1), (16, .int .i64 (xs.length : Int)), (17, .int .i64 ((i : Nat) : Int))] ⟨e1, e2, e15, e16, e17, trivial⟩ fun TA => ?_
   clear e1 e2 e15 e16 e17
   refine W.seq (W.region ?_)
   refine RW.v ?_
   refine RW.nil ?_
   refine W.rg [(1, v2), (2, .func (.func 87) #[.agg #[.func (.func 86) #[] #[]]] #[]), (15, v1), (16, .int .i64 (xs.length : Int)), (17, .int .i64 ((i : Nat) : Int)), (18, .bool (decide (((i : Nat) : Int) < (xs.length : Int))))] fun TA => ?_
   refine W.seq ?_
   refine W.cond rfl (fun hc2 => ?_) (fun hc2 => ?_)
   ·have hc2b := hc2
    have hc2 := of_decide_eq_true hc2
    refine W.skip ?_
    refine W.seq ?_
    refine W.block ?_
    refine W.seq (W.region ?_)
    refine RW.v ?_
    refine RW.idxF h1 (by kernel_rfl) (by kernel_rfl) rfl Tryd.underlying50 (by kernel_rfl) rfl rfl ⟨by omega, by omega⟩ (by kernel_rfl) ?_
    intro b3 q4 r5 hF6 hE7
    rw [runs_at (l := xs) (j := i) (i := ((i : Nat) : Int)) (by omega) (by omega)] at hE7
    refine RW.loads 1 (by kernel_rfl) (by kernel_rfl) rfl rfl (H.old _ _ hF6) hE7 rfl (by kernel_rfl) ?_
    iterate 2 refine RW.v ?_
    refine RW.nil ?_
    refine W.rg [(1, v2), (2, .func (.func 87) #[.agg #[.func (.func 86) #[] #[]]] #[]), (7, .int .i64 ((i : Nat) : Int)), (8, .int .i32 (xs.getD i 0)), (15, v1), (16, .int .i64 (xs.length : Int)), (17, .int .i64 ((i : Nat) : Int))] fun TA => ?_
    refine W.seq (W.region ?_)
    iterate 2 refine RW.v ?_
    refine RW.idxF h2 (by kernel_rfl) (by kernel_rfl) rfl Tryd.underlying50 (by kernel_rfl) rfl rfl ⟨by omega, by omega⟩ (by kernel_rfl) ?_
    intro b8 q9 r10 hF11 hE12
    rw [runs_at (l := ys) (j := i) (i := ((i : Nat) : Int)) (by omega) (by omega)] at hE12
    refine RW.loads 1 (by kernel_rfl) (by kernel_rfl) rfl rfl (H.old _ _ hF11) hE12 rfl (by kernel_rfl) ?_
    refine RW.v ?_
    refine RW.nil ?_
    refine W.rg [(1, v2), (2, .func (.func 87) #[.agg #[.func (.func 86) #[] #[]]] #[]), (8, .int .i32 (xs.getD i 0)), (9, .int .i32 (ys.getD i 0)), (15, v1), (16, .int .i64 (xs.length : Int)), (17, .int .i64 ((i : Nat) : Int))] fun TA => ?_
    refine W.seq (W.region ?_)
    iterate 3 refine RW.v ?_
    refine RW.cl ?_
    refine ((same_wc (fold := false) (a := (xs.getD i 0)) (b := (ys.getD i 0)) (hx _ (getD_mem (by omega))) (hy _ (getD_mem (by omega))) H).mono ?_)
    clear H
    rintro _ _ ⟨rfl, H⟩
    refine RW.v ?_
    refine RW.nil ?_
    refine W.rg [(1, v2), (2, .func (.func 87) #[.agg #[.func (.func 86) #[] #[]]] #[]), (15, v1), (16, .int .i64 (xs.length : Int)), (17, .int .i64 ((i : Nat) : Int)), (30, .bool (!(foldC false (xs.getD i 0) == foldC false (ys.getD i 0))))] fun TA => ?_
    refine W.cond rfl (fun hc13 => ?_) (fun hc13 => ?_)
    ·have hc13b := hc13
     have hc13e : (foldC false (xs.getD i 0) == foldC false (ys.getD i 0)) = false := by simpa using hc13b
     refine W.seq (W.region ?_)
     refine RW.v ?_
     refine RW.nil ?_
     refine W.ret ?_
     refine blkQ_ret ?_
     refine seqQ_ret ?_
     refine rndQ_ret ?_
     refine blkQ_ret ?_
     refine seqQ_ret ?_
     refine endG (by rfl) (by exact resL_tmp rfl) ?_
     have ee : eqC false xs ys = false := by unfold eqC; rw [hT, eq_stop (by omega) (by omega) hc13e, Bool.and_false]
     rw [ee]
     exact ⟨rfl, H⟩
    ·have hc13b := hc13
     have hc13e : (foldC false (xs.getD i 0) == foldC false (ys.getD i 0)) = true := by simpa using hc13b
     refine W.skip ?_
     refine bQn ?_
     refine W.region ?_
     refine RW.valE (v' := .int .i64 (((i : Nat) : Int) + 1)) (by kernel_rfl) (by kernel_rfl) rfl (congrArg (Value.int .i64) (wrap_in (by omega) (by omega))) (by kernel_rfl) ?_
     refine RW.v ?_
     refine RW.nil ?_
     exact ⟨rfl, mm - 1, by omega, i + 1, (by omega), (by rw [hT, eq_go (by omega) (by omega) hc13e]), H, rfl, rfl, rfl, rfl, rfl⟩
   ·have hc2b := hc2
    have hc2 := of_decide_eq_false hc2
    refine W.exit _ ?_
    refine seqQ_exit ?_
    refine rndQ_exit ?_
    refine blkQ_here ?_
    refine W.seq (W.region ?_)
    refine RW.v ?_
    refine RW.nil ?_
    refine W.ret ?_
    refine endG (by rfl) (by exact resL_tmp rfl) ?_
    have ee : eqC false xs ys = true := by unfold eqC; rw [decide_eq_true (show xs.length = ys.length by omega), hT, List.drop_eq_nil_of_le (by omega), List.drop_eq_nil_of_le (by omega)]; rfl
    rw [ee]
    exact ⟨rfl, H⟩
set_option maxHeartbeats 4000000 in
theorem begins_wc (h1 : SlK F 1 v1 xs.length (xs.map runeV)) (h2 : SlF F 1 v2 ys.length (ys.map runeV)) (hl : xs.length ≤ 1000000) (hx : ∀ c ∈ xs, 0 ≤ c ∧ c ≤ 1114111) (hy : ∀ c ∈ ys, 0 ≤ c ∧ c ≤ 1114111) (H : Lies G A F σ L) : WC G Tryd.prog 63 #[cmpV fold, v1, v2] σ fun v σ' => v = .bool (begC fold xs ys) ∧ Lies G A F σ' L := by
 cases fold with
 | true =>
  refine WC.enter (fn := Tryd.f63) Tryd.func63 rfl ?_
  refine W.rg [(0, .agg #[.func (.func 84) #[] #[]]), (1, v1), (2, v2)] fun TA => ?_
  refine W.seq (W.region ?_)
  refine RW.mk H (.row ⟨[.func (.func 84) #[] #[]], 47, false⟩) ?_
  clear H; intro _ b1 _ H
  refine RW.v ?_
  refine RW.nil ?_
  refine W.rg [(1, v1), (2, v2), (3, .pointer (some ⟨b1, 0, none⟩))] fun TA => ?_
  refine W.seq ?_
  refine W.drawn (by kernel_rfl) (by kernel_rfl) H.gn ?_
  have H2 := H
  refine RW.v ?_
  refine RW.len (by kernel_rfl) (by kernel_rfl) rfl rfl rfl rfl (h1.slf.len (e := 21) (by kernel_rfl)) (by kernel_rfl) ?_
  refine RW.v ?_
  refine RW.len (by kernel_rfl) (by kernel_rfl) rfl rfl rfl rfl (h2.len (e := 21) (by kernel_rfl)) (by kernel_rfl) ?_
  iterate 2 refine RW.v ?_
  refine RW.both _ _ rfl rfl rfl (fun hc3 => ?_) (fun hc3 => ?_)
  ·have hc3b := hc3
   have hc3 := of_decide_eq_true hc3
   iterate 2 refine RW.w ?_
   refine RW.len (by rfl) (by kernel_rfl) rfl rfl rfl rfl (h2.len (e := 21) (by kernel_rfl)) (by kernel_rfl) ?_
   obtain ⟨sv, hsv, hks⟩ := slk_cut (P := Tryd.prog) (t := 50) (e := 21) (i := ys.length) h1 (by kernel_rfl) (by kernel_rfl) (by omega)
   have hks2 : SlF F 1 sv (xs.take ys.length).length ((xs.take ys.length).map runeV) := by rw [List.length_take, Nat.min_eq_left (by omega), List.map_take, ← Nat.mul_one ys.length]; rw [Nat.mul_one] at hks ⊢; exact hks.slf
   refine RW.vop (v := sv) (by rfl) (by kernel_rfl) (vop_slice rfl hsv) (by kernel_rfl) ?_
   refine RW.w ?_
   refine RW.ldL H2 0 1 (by rfl) (by kernel_rfl) rfl rfl rfl rfl rfl (by kernel_rfl) ?_
   refine RW.val (v := .func (.func 87) #[.agg #[.func (.func 84) #[] #[]]] #[]) (by rfl) (by kernel_rfl) (by kernel_rfl) (by kernel_rfl) ?_
   refine RW.cl (hw := by rfl) ?_
   refine ((eqf_wc (fold := true) hks2 h2 (by first | omega | (simp only [List.length_take]; omega)) (fun c h => hx c (List.mem_of_mem_take h)) hy H2).mono ?_)
   rintro _ _ ⟨rfl, H4⟩
   iterate 2 refine RW.v ?_
   refine RW.nil ?_
   refine ⟨⟨by kernel_rfl, ⟨trivial, trivial, trivial, trivial, trivial, trivial, trivial, trivial, trivial, trivial, trivial, dyn_row (H2.get 0 rfl) (H4.get 0 rfl) ⟨nB, nB, nB, nB, nB, nB, nB, nB, nB, nB, nB, nB, nB, fun _ => H2.get 0 rfl, nB, nB, trivial⟩, trivial, trivial, trivial, trivial, trivial⟩⟩, ?_⟩
   replace H := H4
   clear H2 H4
   replace H := (H.del 0)
   dsimp only [setL, delL] at H
   refine W.ret ?_
   refine endG (by rfl) (by exact resL_tmp rfl) ?_
   have eb : begC true xs ys = eqC true (xs.take ys.length) ys := by unfold begC eqC; rw [decide_eq_true (show ys.length ≤ xs.length by omega), decide_eq_true (show (xs.take ys.length).length = ys.length by rw [List.length_take]; omega)]
   rw [eb]
   exact ⟨rfl, H⟩
  ·have hc3b := hc3
   have hc3 := of_decide_eq_false hc3
   iterate 8 refine RW.s ?_
   iterate 2 refine RW.v ?_
   refine RW.nil ?_
   refine ⟨⟨by kernel_rfl, ⟨trivial, trivial, trivial, trivial, trivial, trivial, trivial, trivial, trivial, trivial, trivial, trivial, trivial, trivial, trivial, trivial, trivial⟩⟩, ?_⟩
   replace H := H2
   clear H2
   replace H := (H.del 0)
   dsimp only [setL, delL] at H
   refine W.ret ?_
   refine endG (by rfl) (by exact resL_tmp rfl) ?_
   have eb : begC true xs ys = false := by unfold begC; rw [decide_eq_false (show ¬ ys.length ≤ xs.length by omega)]; rfl
   rw [eb]
   exact ⟨rfl, H⟩
 | false =>
  refine WC.enter (fn := Tryd.f63) Tryd.func63 rfl ?_
  refine W.rg [(0, .agg #[.func (.func 86) #[] #[]]), (1, v1), (2, v2)] fun TA => ?_
  refine W.seq (W.region ?_)
  refine RW.mk H (.row ⟨[.func (.func 86) #[] #[]], 47, false⟩) ?_
  clear H; intro _ b1 _ H
  refine RW.v ?_
  refine RW.nil ?_
  refine W.rg [(1, v1), (2, v2), (3, .pointer (some ⟨b1, 0, none⟩))] fun TA => ?_
  refine W.seq ?_
  refine W.drawn (by kernel_rfl) (by kernel_rfl) H.gn ?_
  have H2 := H
  refine RW.v ?_
  refine RW.len (by kernel_rfl) (by kernel_rfl) rfl rfl rfl rfl (h1.slf.len (e := 21) (by kernel_rfl)) (by kernel_rfl) ?_
  refine RW.v ?_
  refine RW.len (by kernel_rfl) (by kernel_rfl) rfl rfl rfl rfl (h2.len (e := 21) (by kernel_rfl)) (by kernel_rfl) ?_
  iterate 2 refine RW.v ?_
  refine RW.both _ _ rfl rfl rfl (fun hc3 => ?_) (fun hc3 => ?_)
  ·have hc3b := hc3
   have hc3 := of_decide_eq_true hc3
   iterate 2 refine RW.w ?_
   refine RW.len (by rfl) (by kernel_rfl) rfl rfl rfl rfl (h2.len (e := 21) (by kernel_rfl)) (by kernel_rfl) ?_
   obtain ⟨sv, hsv, hks⟩ := slk_cut (P := Tryd.prog) (t := 50) (e := 21) (i := ys.length) h1 (by kernel_rfl) (by kernel_rfl) (by omega)
   have hks2 : SlF F 1 sv (xs.take ys.length).length ((xs.take ys.length).map runeV) := by rw [List.length_take, Nat.min_eq_left (by omega), List.map_take, ← Nat.mul_one ys.length]; rw [Nat.mul_one] at hks ⊢; exact hks.slf
   refine RW.vop (v := sv) (by rfl) (by kernel_rfl) (vop_slice rfl hsv) (by kernel_rfl) ?_
   refine RW.w ?_
   refine RW.ldL H2 0 1 (by rfl) (by kernel_rfl) rfl rfl rfl rfl rfl (by kernel_rfl) ?_
   refine RW.val (v := .func (.func 87) #[.agg #[.func (.func 86) #[] #[]]] #[]) (by rfl) (by kernel_rfl) (by kernel_rfl) (by kernel_rfl) ?_
   refine RW.cl (hw := by rfl) ?_
   refine ((eqf_wc (fold := false) hks2 h2 (by first | omega | (simp only [List.length_take]; omega)) (fun c h => hx c (List.mem_of_mem_take h)) hy H2).mono ?_)
   rintro _ _ ⟨rfl, H4⟩
   iterate 2 refine RW.v ?_
   refine RW.nil ?_
   refine ⟨⟨by kernel_rfl, ⟨trivial, trivial, trivial, trivial, trivial, trivial, trivial, trivial, trivial, trivial, trivial, dyn_row (H2.get 0 rfl) (H4.get 0 rfl) ⟨nB, nB, nB, nB, nB, nB, nB, nB, nB, nB, nB, nB, nB, fun _ => H2.get 0 rfl, nB, nB, trivial⟩, trivial, trivial, trivial, trivial, trivial⟩⟩, ?_⟩
   replace H := H4
   clear H2 H4
   replace H := (H.del 0)
   dsimp only [setL, delL] at H
   refine W.ret ?_
   refine endG (by rfl) (by exact resL_tmp rfl) ?_
   have eb : begC false xs ys = eqC false (xs.take ys.length) ys := by unfold begC eqC; rw [decide_eq_true (show ys.length ≤ xs.length by omega), decide_eq_true (show (xs.take ys.length).length = ys.length by rw [List.length_take]; omega)]
   rw [eb]
   exact ⟨rfl, H⟩
  ·have hc3b := hc3
   have hc3 := of_decide_eq_false hc3
   iterate 8 refine RW.s ?_
   iterate 2 refine RW.v ?_
   refine RW.nil ?_
   refine ⟨⟨by kernel_rfl, ⟨trivial, trivial, trivial, trivial, trivial, trivial, trivial, trivial, trivial, trivial, trivial, trivial, trivial, trivial, trivial, trivial, trivial⟩⟩, ?_⟩
   replace H := H2
   clear H2
   replace H := (H.del 0)
   dsimp only [setL, delL] at H
   refine W.ret ?_
   refine endG (by rfl) (by exact resL_tmp rfl) ?_
   have eb : begC false xs ys = false := by unfold begC; rw [decide_eq_false (show ¬ ys.length ≤ xs.length by omega)]; rfl
   rw [eb]
   exact ⟨rfl, H⟩
end
end Go.Proofs.YtjcmdifpkafdkaaDoor
