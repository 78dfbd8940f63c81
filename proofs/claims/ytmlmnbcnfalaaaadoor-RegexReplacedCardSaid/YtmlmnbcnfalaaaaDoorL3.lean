/-
  Ranges over open strings in the second memory. Over any program. Conditions: none.
  Strings in the second memory: joined, their length, their bytes in a row of their own. Over any program. Conditions: none.
  Open strings in the second memory: held against one another, cut, their bytes one by one; bytes made a string. Over any program. Conditions: none.
  min of two open numbers. Over any program. Conditions: none.
  A contract of a call that reads a slice and leaves all alone, as a call of the second memory. Over any program. Conditions: none.
  Calls that read a slice or plain arguments where the two tables of unicode/utf8 lie. Conditions: none.
  The two tables of unicode/utf8 among the frozen rows. Conditions: none.
  An element is appended to a slice that was built; bytes of a row that stands among the entries made a string. Over any program. Conditions: none.
  Grown slices: the rest of one is cleared, its beginning is kept. Conditions: none.
-/
import Derived.Test.YtmlmnbcnfalaaaaDoorS4
import Derived.Test.YtmlmnbcnfalaaaaDoorS2
import Derived.Test.YtmlmnbcnfalaaaaDoorUtf
import Derived.Lib.TrimUEq
import Derived.Lib.TrimU
import Derived.Test.YtmlmnbcnfalaaaaDoorK1
import Derived.Laws.Slices
import Derived.Laws.Strings
import Derived.WideShapes
import Derived.Test.YtmlmnbcnfalaaaaDoorRowsU
namespace Go.Proofs.YtmlmnbcnfalaaaaDoor
open Go.Lib
set_option maxRecDepth 100000
theorem runes_dr {bs : List UInt8} {pos : Nat} (h : pos < bs.length) : runes (bs.drop pos) = ((decodeL (bs.drop pos)).1 : Int) :: runes (bs.drop (pos + (decodeL (bs.drop pos)).2)) := by
 have hne : bs.drop pos ≠ [] := by
  intro e
  have := congrArg List.length e
  rw [List.length_drop, List.length_nil] at this
  omega
 have h1 := runes_step _ hne
 rw [List.drop_drop] at h1
 exact h1
theorem dec_list (bs : List UInt8) (pos : Nat) : Utf8.decode ⟨bs.toArray⟩ pos = decodeL (bs.drop pos) := (decodeL_drop ⟨bs.toArray⟩ pos).symm
section
variable {P : Program} {G : Nat} {A : Abs} {F : Nat → Option Blk2} {σ : Mem} {L : List Ent} {nt : Nat} {ops : Array Oper} {l : List Oper} {ta : Nat → Value} {rs : List (Rec × Mem)} {o : Oper} {K : (Nat → Value) → Mem → Prop} {bs : List UInt8} {pos b : Nat} {it : Operand}
set_option maxHeartbeats 8000000 in
theorem RW.nxtT (H : Lies G A F σ L) (k : Nat) (hp : pos < bs.length)
    (h : ∀ σ' rs' (c q : Nat), pos < q → c ≤ 1114111 → runes (bs.drop pos) = (c : Int) :: runes (bs.drop q) → Lies G A F σ' (setL L k (.at_ b (.iter ⟨bs.toArray⟩ q))) → RW G P nt ops l (putO ta o.dst (.tuple #[.bool true, .int .i64 ((pos : Nat) : Int), .int .i32 ((c : Nat) : Int)])) σ' rs' fun _ => K)
    (ho : o.op = .next it true := by exact rfl) (hi : oper2 ta it = .pointer (some ⟨b, 0, none⟩) := by exact rfl) (hk0 : lookL L k = some (.at_ b (.iter ⟨bs.toArray⟩ pos)) := by exact rfl) (hw : wantedT ops ta o = true := by kernel_rfl) (hk : opndOk G o = true := by kernel_rfl) (hd : dstOk nt o.dst = true := by kernel_rfl) :
    RW G P nt ops (o :: l) ta σ rs fun _ => K := by
  have he := eop_next (P := P) (G := G) (o := o) ho hi (H.low k hk0) (H.get k hk0)
  have e1 : nextF ⟨bs.toArray⟩ pos = (.tuple #[.bool true, .int .i64 pos, .int .i32 (decodeL (bs.drop pos)).1], pos + (decodeL (bs.drop pos)).2) := by
    unfold nextF
    rw [if_pos (by exact hp), dec_list]
  rw [e1] at he
  have hwd := decodeL_width (bs.drop pos)
  have hr : (decodeL (bs.drop pos)).1 ≤ 1114111 := by rw [← dec_list]; exact rune_le _ _
  exact RW.eff hw hk he hd (h _ _ _ _ (by omega) hr (runes_dr hp) (H.put k _ hk0))
set_option maxHeartbeats 8000000 in
theorem RW.nxtF (H : Lies G A F σ L) (k : Nat) (hp : bs.length ≤ pos)
    (h : ∀ σ' rs', Lies G A F σ' (setL L k (.at_ b (.iter ⟨bs.toArray⟩ pos))) → RW G P nt ops l (putO ta o.dst (.tuple #[.bool false])) σ' rs' fun _ => K)
    (ho : o.op = .next it true := by exact rfl) (hi : oper2 ta it = .pointer (some ⟨b, 0, none⟩) := by exact rfl) (hk0 : lookL L k = some (.at_ b (.iter ⟨bs.toArray⟩ pos)) := by exact rfl) (hw : wantedT ops ta o = true := by kernel_rfl) (hk : opndOk G o = true := by kernel_rfl) (hd : dstOk nt o.dst = true := by kernel_rfl) :
    RW G P nt ops (o :: l) ta σ rs fun _ => K := by
  have he := eop_next (P := P) (G := G) (o := o) ho hi (H.low k hk0) (H.get k hk0)
  have e1 : nextF ⟨bs.toArray⟩ pos = (.tuple #[.bool false], pos) := by
    unfold nextF
    rw [if_neg (by show ¬ pos < bs.length; omega)]
  rw [e1] at he
  exact RW.eff hw hk he hd (h _ _ (H.put k _ hk0))
end
end Go.Proofs.YtmlmnbcnfalaaaaDoor
namespace Go.Proofs.YtmlmnbcnfalaaaaDoor
set_option maxRecDepth 100000
section
variable {P : Program} {o : Oper} {ρ : Operand → Value}
theorem vop_strAdd {t t' : TypeId} {x y : Operand} {a b : ByteArray} (ho : o.op = .binOp .add t x y t') (hx : ρ x = .string a) (hy : ρ y = .string b) (hs : a.size + b.size ≤ 1000000000000) : VOp P o ρ (.string (a ++ b)) := fun μ ρc hor => by
 rw [ho] at hor
 have h1 := hor x (by simp [Op.operands])
 have h2 := hor y (by simp [Op.operands])
 rw [hx] at h1
 rw [hy] at h2
 have h1 := flatV_eq rfl h1
 have h2 := flatV_eq rfl h2
 have hn : ¬ (((a.size + b.size : Nat) : Int) > IntKind.i64.max) := by
  have : IntKind.i64.max = 9223372036854775807 := by decide
  omega
 refine ⟨_, .flat _ rfl, fun w => ?_⟩
 unfold execOp
 simp only [ho, h1, h2]
 simp only [eqGuard, binOp, Op.stringOp, if_neg hn]
 rfl
theorem vop_strLen {c : Call} {x : Operand} {t : TypeId} {a : ByteArray} (ho : o.op = .call c) (hc : c.callee = .builtin .len) (ha : c.args = #[x]) (ht : c.argTypes = #[t]) (hu : P.underlying t = some .string) (hx : ρ x = .string a) : VOp P o ρ (.int .i64 a.size) := fun μ ρc hor => by
 rw [ho] at hor
 have h1 := hor x (by simp [Op.operands, Call.operands, hc, ha])
 rw [hx] at h1
 have h1 := flatV_eq rfl h1
 refine ⟨_, .flat _ rfl, fun w => ?_⟩
 unfold execOp
 simp only [ho, Sem.run_bind, resolve, hc, ha, ht, Result.andThen_ok, Sem.run_pure]
 simp [invoke, builtin, Builtin.len_, run_underlying hu, h1, goInt]
end
section
variable {P : Program} {G nt : Nat} {ops : Array Oper} {l : List Oper} {o : Oper} {ta : Nat → Value} {σ : Mem} {rs : List (Rec × Mem)} {A : Abs} {F : Nat → Option Blk2} {L : List Ent} {K : List (Rec × Mem) → (Nat → Value) → Mem → Prop}
set_option maxHeartbeats 8000000 in
theorem RW.conv (H : Lies G A F σ L) {src dst e : TypeId} {x : Operand} {s : ByteArray} {cs : List Value} (hw : wantedT ops ta o = true) (hk : opndOk G o = true) (ho : o.op = .convert src dst x) (hx : oper2 ta x = .string s) (hc : convF P src dst s = some (e, cs)) (hd : dstOk nt o.dst = true)
    (h : ∀ σ' v', Lies G A F σ' (.sl e 1 v' cs.length cs :: L) → RW G P nt ops l (putO ta o.dst v') σ' ((.eff v', σ) :: rs) K) : RW G P nt ops (o :: l) ta σ rs K := by
  refine RW.eff hw hk (eop_conv ho hx hc) hd (h _ _ ?_)
  have g : Grow σ (σ.push (.row ⟨cs, e, true⟩)) := ⟨fun b y hy => get_push_old hy, Nat.le_succ _, rfl⟩
  exact H.addSl g (.row H.gn get_push rfl (by rw [Nat.mul_one]) (Nat.le_refl _) (List.take_of_length_le (by rw [Nat.mul_one]; exact Nat.le_refl _))) fun c hc => by cases hc; exact Nat.le_refl _
end
end Go.Proofs.YtmlmnbcnfalaaaaDoor
namespace Go.Proofs.YtmlmnbcnfalaaaaDoor
set_option maxRecDepth 100000
section
variable {P : Program} {o : Oper} {ρ : Operand → Value}
theorem vop_sEq {t t' : TypeId} {x y : Operand} {a b : ByteArray} {r : Bool} (ho : o.op = .binOp .eql t x y t') (hx : ρ x = .string a) (hy : ρ y = .string b) (hr : (a.data.toList == b.data.toList) = r) : VOp P o ρ (.bool r) := fun μ ρc hor => by
 rw [ho] at hor
 have h1 := hor x (by simp [Op.operands])
 have h2 := hor y (by simp [Op.operands])
 rw [hx] at h1
 rw [hy] at h2
 have h1 := flatV_eq rfl h1
 have h2 := flatV_eq rfl h2
 refine ⟨_, .flat _ rfl, fun w => ?_⟩
 unfold execOp
 simp only [ho, h1, h2]
 simp only [eqGuard, binOp, Op.stringOp, ByteArray.toList_eq, hr]
 rfl
theorem vop_sNe {t t' : TypeId} {x y : Operand} {a b : ByteArray} {r : Bool} (ho : o.op = .binOp .neq t x y t') (hx : ρ x = .string a) (hy : ρ y = .string b) (hr : (!(a.data.toList == b.data.toList)) = r) : VOp P o ρ (.bool r) := fun μ ρc hor => by
 rw [ho] at hor
 have h1 := hor x (by simp [Op.operands])
 have h2 := hor y (by simp [Op.operands])
 rw [hx] at h1
 rw [hy] at h2
 have h1 := flatV_eq rfl h1
 have h2 := flatV_eq rfl h2
 refine ⟨_, .flat _ rfl, fun w => ?_⟩
 unfold execOp
 simp only [ho, h1, h2]
 simp only [eqGuard, binOp, Op.stringOp, ByteArray.toList_eq, hr]
 rfl
theorem vop_sAt {t : TypeId} {x i : Operand} {k : IntKind} {s : ByteArray} {j : Nat} (ho : o.op = .index t x i) (hx : ρ x = .string s) (hi : ρ i = .int k ((j : Nat) : Int)) (hu : P.underlying t = some .string) (hj : j < s.size) : VOp P o ρ (.int .u8 ((s.data.toList.getD j 0).toNat : Int)) := fun μ ρc hor => by
 rw [ho] at hor
 have h1 := hor x (by simp [Op.operands])
 have h2 := hor i (by simp [Op.operands])
 rw [hx] at h1
 rw [hi] at h2
 have h1 := flatV_eq rfl h1
 have h2 := flatV_eq rfl h2
 refine ⟨_, .flat _ rfl, fun w => ?_⟩
 have hs : (s[j]'hj) = s.data.toList.getD j 0 := by
  have hz : j < s.data.toList.length := hj
  rw [List.getD_eq_getElem?_getD, List.getElem?_eq_getElem hz]
  rfl
 unfold execOp
 simp only [ho, h1, h2, Sem.run_bind]
 rw [run_index_string w t s k _ hu, dif_pos (by omega)]
 simp [hs]
theorem ba_append (a b : List UInt8) : (⟨a.toArray⟩ ++ ⟨b.toArray⟩ : ByteArray) = ⟨(a ++ b).toArray⟩ := by
 apply Go.WideShapes.bytes_inj
 rw [ByteArray.data_append, Array.toList_append]
theorem vop_sAddL {t t' : TypeId} {x y : Operand} {a b : List UInt8} (ho : o.op = .binOp .add t x y t') (hx : ρ x = .string ⟨a.toArray⟩) (hy : ρ y = .string ⟨b.toArray⟩) (hs : a.length + b.length ≤ 1000000000000) : VOp P o ρ (.string ⟨(a ++ b).toArray⟩) :=
 ba_append a b ▸ vop_strAdd ho hx hy hs
theorem vop_sAtL {t : TypeId} {x i : Operand} {k : IntKind} {a : List UInt8} {j : Nat} (ho : o.op = .index t x i) (hx : ρ x = .string ⟨a.toArray⟩) (hi : ρ i = .int k ((j : Nat) : Int)) (hu : P.underlying t = some .string) (hj : j < a.length) : VOp P o ρ (.int .u8 ((a.getD j 0).toNat : Int)) :=
 vop_sAt ho hx hi hu hj
theorem vop_sLenL {c : Call} {x : Operand} {t : TypeId} {a : List UInt8} (ho : o.op = .call c) (hc : c.callee = .builtin .len) (ha : c.args = #[x]) (ht : c.argTypes = #[t]) (hu : P.underlying t = some .string) (hx : ρ x = .string ⟨a.toArray⟩) : VOp P o ρ (.int .i64 (a.length : Int)) :=
 vop_strLen ho hc ha ht hu hx
end
section
variable {P : Program} {G nt : Nat} {ops : Array Oper} {l : List Oper} {o : Oper} {ta : Nat → Value} {σ : Mem} {rs : List (Rec × Mem)} {A : Abs} {F : Nat → Option Blk2} {L : List Ent} {K : List (Rec × Mem) → (Nat → Value) → Mem → Prop}
theorem numsF_bytes : ∀ bs : List UInt8, numsF .u8 (bs.map byteV) = some (bs.map fun b => ((b.toNat : Nat) : Int))
 | [] => rfl
 | b :: bs => by
  have h := numsF_bytes bs
  simp only [List.map_cons]
  unfold numsF
  simp only [byteV, h]
  rfl
theorem push_bytes : ∀ (bs : List UInt8) (r : ByteArray), ((bs.map fun b => ((b.toNat : Nat) : Int)).foldl (fun r n => r.push (UInt8.ofNat n.toNat)) r).data.toList = r.data.toList ++ bs
 | [], r => by simp
 | b :: bs, r => by
  rw [List.map_cons, List.foldl_cons, push_bytes bs, ByteArray.data_push, Array.toList_push, List.append_assoc]
  simp
theorem backF_bytes {src dst e : TypeId} (hs : uT P src = some (.slice e)) (he : uT P e = some (.int .u8)) (hd : uT P dst = some .string) (bs : List UInt8) : backF P src dst (bs.map byteV) = some ⟨bs.toArray⟩ := by
 unfold backF
 rw [hs, hd]
 simp only [he, numsF_bytes, Option.map_some]
 congr 1
 apply Go.WideShapes.bytes_inj
 rw [push_bytes]
 simp
set_option maxHeartbeats 8000000 in
theorem RW.back (H : Lies G A F σ L) {src dst e : TypeId} {x : Operand} {v : Value} {bs : List UInt8} (hv : SlF F 1 v bs.length (bs.map byteV)) (h0 : bs ≠ []) (hw : wantedT ops ta o = true) (hk : opndOk G o = true) (ho : o.op = .convert src dst x) (hx : oper2 ta x = v) (hs : uT P src = some (.slice e)) (he : uT P e = some (.int .u8)) (hdt : uT P dst = some .string) (hd : dstOk nt o.dst = true)
    (h : ∀ b p r, F b = some (.row r) → (r.cs.drop p).take bs.length = bs.map byteV → RW G P nt ops l (putO ta o.dst (.string ⟨bs.toArray⟩)) σ ((.load b p (bs.map byteV) (.string ⟨bs.toArray⟩), σ) :: rs) K) : RW G P nt ops (o :: l) ta σ rs K := by
  have hl : bs.length ≠ 0 := fun e => h0 (List.eq_nil_of_length_eq_zero e)
  generalize hn : bs.length = n at hv
  generalize hxs : bs.map byteV = xs at hv
  cases hv with
  | nil => exact absurd hn hl
  | void => exact absurd hn hl
  | some hr hlen hc =>
    rename_i b p c sp r
    obtain ⟨h1, h2⟩ := lop_back (P := P) (cs := xs) (s := ⟨bs.toArray⟩) ho hx (by omega) (by rw [hlen, Nat.mul_one]) (hxs ▸ backF_bytes hs he hdt bs)
    rw [Nat.mul_one] at hc
    refine RW.op (r := .load b p xs (.string ⟨bs.toArray⟩)) hw hk ⟨h1, rfl, h2, r, H.old _ _ hr, fun i y hy => ?_⟩ hd (hxs ▸ h b p r hr (by rw [hn, hxs]; exact hc))
    rw [← hc, List.getElem?_take] at hy
    split at hy
    · rw [List.getElem?_drop] at hy; exact hy
    · cases hy
end
theorem slk_mid {F : Nat → Option Blk2} {P : Program} {v : Value} {n i j t e : Nat} {xs : List Value} (h : SlK F 1 v n xs) (h0 : 0 < n) (ht : uT P t = some (.slice e)) (hz : sizeT P e = some 1) (hi : i ≤ j) (hj : j ≤ n) {a b : Int} (ha : a = (i : Int)) (hb : b = (j : Int)) :
    ∃ q p sp c, sliceF P t v (some (.int .i64 a)) (some (.int .i64 b)) none = some (.slice (some ⟨q, p, sp⟩) (j - i) c) ∧ SlK F 1 (.slice (some ⟨q, p, sp⟩) (j - i) c) (j - i) ((xs.drop i).take (j - i)) := by
  subst ha
  subst hb
  cases h with
  | nil => exact absurd h0 (Nat.lt_irrefl _)
  | some hr hx hc hle hsp =>
    rename_i b p c sp r
    have h1 : boundF (some (.int .i64 ((j : Nat) : Int))) n c = some j := by
      simp only [boundF]
      rw [if_pos (by omega), Int.toNat_natCast]
    have h2 : boundF (some (.int .i64 ((i : Nat) : Int))) 0 j = some i := by
      simp only [boundF]
      rw [if_pos (by omega), Int.toNat_natCast]
    rw [Nat.mul_one] at hx hc
    have hlen : ((xs.drop i).take (j - i)).length = (j - i) * 1 := by
      rw [List.length_take, List.length_drop]
      omega
    have hone : ((r.cs.drop (p + i * 1)).take ((j - i) * 1)) = (xs.drop i).take (j - i) := by
      have e1 : ((r.cs.drop p).take n).drop i = xs.drop i := by rw [hc]
      rw [List.drop_take, List.drop_drop] at e1
      rw [Nat.mul_one, Nat.mul_one, ← e1, List.take_take, Nat.min_eq_left (by omega)]
    by_cases hci : c = i
    · have e0 : j - i = 0 := by omega
      refine ⟨b, p, sp, c - i, ?_, ?_⟩
      · simp only [sliceF, ht, hz, h1, h2]
        rcases hsp with rfl | rfl
        · simp only []
          rw [if_pos hci]
        · simp only []
          rw [if_pos ⟨trivial, by omega⟩, if_pos hci]
      · rw [e0] at hlen ⊢
        exact .some hr hlen (by rw [Nat.zero_mul, List.take_zero, List.take_zero]) (Nat.zero_le _) hsp
    · refine ⟨b, p + i * 1, sp, c - i, ?_, ?_⟩
      · simp only [sliceF, ht, hz, h1, h2]
        rcases hsp with rfl | rfl
        · simp only []
          rw [if_neg hci]
        · simp only []
          rw [if_pos ⟨trivial, by omega⟩, if_neg hci]
      · exact .some hr hlen hone (by omega) hsp
end Go.Proofs.YtmlmnbcnfalaaaaDoor
namespace Go.Proofs.YtmlmnbcnfalaaaaDoor
section
variable {P : Program} {o : Oper}
end
end Go.Proofs.YtmlmnbcnfalaaaaDoor
namespace Go.Proofs.YtmlmnbcnfalaaaaDoor
open Go.RowKit
set_option maxRecDepth 100000
def ReadsV (w : World) (v : Value) (n : Nat) (xs : List Value) : Prop :=
 ∃ A c, v = .slice A n c ∧ (A = none → n = 0 ∧ c = 0) ∧ (n ≠ 0 → ∃ B off, A = some ⟨B, off, none⟩ ∧ ∀ j x, xs[j]? = some x → w.cell? ⟨B, off + j, none⟩ = some x)
theorem flat_same {μ : Mu} {v v' : Value} (hf : flatV v = true) (h : VRel μ v v') : v' = v := flatV_eq hf h
section
variable {P : Program} {G : Nat} {σ : Mem}
theorem slf_reads {μ : Mu} {w : World} (hs : Sim G μ σ w) {s n : Nat} {v v' : Value} {xs : List Value} (h : SlF σ.get s v n xs) (hf : ∀ x ∈ xs, flatV x = true) (hv : VRel μ v v') : ReadsV w v' n xs := by
 cases h with
 | nil _ h =>
  obtain rfl := flat_same rfl hv
  exact ⟨none, 0, rfl, fun _ => ⟨rfl, rfl⟩, fun h => absurd rfl h⟩
 | void c _ h =>
  obtain ⟨A, rfl⟩ := VRel.void_inv hv
  exact ⟨some A, c, rfl, fun h => by (cases h), fun h => absurd rfl h⟩
 | some hr hx hc =>
  obtain ⟨bi, q, c', hm, rfl, hle, hq⟩ := VRel.slice_inv hv
  refine ⟨_, c', rfl, fun h => by (cases h), fun hn => ⟨bi.blk, q, rfl, fun j x hj => ?_⟩⟩
  obtain rfl := hq hn
  obtain ⟨_, cc, fz, t', hh, _, hl⟩ := hs.blk _ _ bi hr hm
  rw [← hc] at hj
  rw [List.getElem?_take] at hj
  split at hj
  ·rw [List.getElem?_drop] at hj
   obtain ⟨x', h1, h2⟩ := hl _ _ hj
   have hfx : flatV x = true := hf x (by
    rw [← hc]
    refine List.mem_of_getElem? (i := j) ?_
    rw [List.getElem?_take, if_pos (by assumption), List.getElem?_drop]
    exact hj)
   obtain rfl := flat_same hfx h2
   unfold World.cell?
   simp only [hh]
   rw [Nat.add_assoc]
   simpa using h1
  ·cases hj
theorem read_callR {R : List (Nat × List Value)} (hR : RowsAt R σ) (hGR : ∀ g cs, (g, cs) ∈ R → g < G) (h64 : ∀ g cs, (g, cs) ∈ R → g < 64) (hfR : ∀ g cs, (g, cs) ∈ R → (∀ x ∈ cs, flatV x = true) ∧ cs ≠ []) {f : FuncId} {s n : Nat} {a : Value} {xs : List Value} {rest : List Value} {v : Value} (ha : SlF σ.get s a n xs) (hf : ∀ x ∈ xs, flatV x = true) (hl : rest.all (closedV 3) = true) (hv : closedV 3 v = true)
    (hc : ∀ w a', RowsLie w R → ReadsV w a' n xs → Calls P f (a' :: rest).toArray w fun e w' => e = .returned v ∧ Below w.heap.size w w') : SCall G P f (a :: rest).toArray σ v σ := by
  refine ⟨Nat.le_refl _, fun μ w cargs hs hGn _ har => ?_⟩
  obtain ⟨a', ca, hz⟩ : ∃ a', VRel μ a a' ∧ cargs = (a' :: rest).toArray := by
    have hsz : cargs.size = rest.length + 1 := by rw [← har.1]; simp
    refine ⟨cargs[0], har.2 0 a cargs[0] (by simp) (by simp [hsz]), ?_⟩
    apply Array.ext
    · simp [hsz]
    · intro i h1 h2
      match i, h1, h2 with
      | 0, h1, h2 => simp
      | i + 1, h1, h2 =>
        have hi : i < rest.length := by omega
        have := closedV_eq 3 _ _ (List.all_eq_true.1 hl rest[i] (by simp)) (har.2 (i + 1) rest[i] cargs[i + 1] (by simp [hi]) (by simp [h1]))
        simpa using this
  subst hz
  refine (hc w a' (rows_lie hs hGR h64 hfR hR) (slf_reads hs ha hf ca)).mono ?_
  rintro e w' ⟨rfl, hb⟩
  have own2 := OwnOk.same (G := G) (σ := σ) (μ := μ) (w := w) (w' := w') (σ' := σ) rfl (Ext.refl μ) rfl hb.size (fun B hB _ => hb.block B hB) fun c z ci hz hc => .inr ⟨c, z, ci, hz, hc, rfl⟩
  exact ⟨v, μ, rfl, ⟨Nat.le_refl _, fun b h1 h2 => absurd h1 (by omega), fun _ _ => rfl, ⟨hs.glob, fun b x bi hx hm => (hs.blk b x bi hx hm).keep (hb.block _ (hs.blk b x bi hx hm).lt) (Ext.refl _), hs.inj, hs.rw_, own2 hs.abs⟩, hb.size, hb.os, hb.tape, hb.output, fun b x bi hb' hx _ => absurd (Mem.lt hx) (by omega), fun _ x _ h => ⟨x, h⟩, hGn, own_id, fun B hB _ _ => hb.block B hB⟩, closedV_rel _ 3 v hv⟩
theorem read_call {f : FuncId} {s n : Nat} {a : Value} {xs : List Value} {rest : List Value} {v : Value} (ha : SlF σ.get s a n xs) (hf : ∀ x ∈ xs, flatV x = true) (hl : rest.all (closedV 3) = true) (hv : closedV 3 v = true)
    (hc : ∀ w a', ReadsV w a' n xs → Calls P f (a' :: rest).toArray w fun e w' => e = .returned v ∧ Below w.heap.size w w') : SCall G P f (a :: rest).toArray σ v σ :=
  read_callR (R := []) (fun _ _ h => by cases h) (fun _ _ h => by cases h) (fun _ _ h => by cases h) (fun _ _ h => by cases h) ha hf hl hv fun w a' _ h => hc w a' h
theorem below_callR {R : List (Nat × List Value)} (hR : RowsAt R σ) (hGR : ∀ g cs, (g, cs) ∈ R → g < G) (h64 : ∀ g cs, (g, cs) ∈ R → g < 64) (hfR : ∀ g cs, (g, cs) ∈ R → (∀ x ∈ cs, flatV x = true) ∧ cs ≠ []) {f : FuncId} {args : Array Value} {v : Value} (hl : args.toList.all (closedV 3) = true) (hv : closedV 3 v = true)
    (hc : ∀ w, RowsLie w R → Calls P f args w fun e w' => e = .returned v ∧ Below w.heap.size w w') : SCall G P f args σ v σ := by
  refine ⟨Nat.le_refl _, fun μ w cargs hs hGn _ har => ?_⟩
  have hz : cargs = args := by
    apply Array.ext
    · exact har.1.symm
    · intro i h1 h2
      exact closedV_eq 3 _ _ (List.all_eq_true.1 hl _ (by simp)) (har.2 i args[i] cargs[i] (by simp [h2]) (by simp [h1]))
  subst hz
  refine (hc w (rows_lie hs hGR h64 hfR hR)).mono ?_
  rintro e w' ⟨rfl, hb⟩
  have own2 := OwnOk.same (G := G) (σ := σ) (μ := μ) (w := w) (w' := w') (σ' := σ) rfl (Ext.refl μ) rfl hb.size (fun B hB _ => hb.block B hB) fun c z ci hz hc => .inr ⟨c, z, ci, hz, hc, rfl⟩
  exact ⟨v, μ, rfl, ⟨Nat.le_refl _, fun b h1 h2 => absurd h1 (by omega), fun _ _ => rfl, ⟨hs.glob, fun b x bi hx hm => (hs.blk b x bi hx hm).keep (hb.block _ (hs.blk b x bi hx hm).lt) (Ext.refl _), hs.inj, hs.rw_, own2 hs.abs⟩, hb.size, hb.os, hb.tape, hb.output, fun b x bi hb' hx _ => absurd (Mem.lt hx) (by omega), fun _ x _ h => ⟨x, h⟩, hGn, own_id, fun B hB _ _ => hb.block B hB⟩, closedV_rel _ 3 v hv⟩
end
end Go.Proofs.YtmlmnbcnfalaaaaDoor
namespace Go.Proofs.YtmlmnbcnfalaaaaDoor
open Go.RowKit
set_option maxRecDepth 100000
theorem tabs_of_rowsU {w : World} (hl : RowsLie w rowsU) : Lib.Utf8Tabs 0 1 w := by
 refine ⟨fun c hc => ?_, fun i hi => ⟨?_, ?_⟩⟩
 ·exact (hl _ firstL (by simp [rowsU])).2.2 c _ (by simp [firstL, hc])
 ·refine (hl _ accL (by simp [rowsU])).2.2 (2 * i) _ ?_
  unfold accL
  rw [List.getElem?_map, List.getElem?_range (by omega)]
  simp
 ·refine (hl _ accL (by simp [rowsU])).2.2 (2 * i + 1) _ ?_
  unfold accL
  rw [List.getElem?_map, List.getElem?_range (by omega)]
  simp only [Option.map_some, Option.some.injEq]
  rw [if_neg (by omega), show (2 * i + 1) / 2 = i by omega]
section
variable {P : Program} {G : Nat} {σ : Mem} (hR : RowsAt rowsU σ) (h16 : 16 ≤ G)
include hR h16
theorem below_callT {f : FuncId} {args : Array Value} {v : Value} (hl : args.toList.all (closedV 3) = true) (hv : closedV 3 v = true)
    (hc : ∀ w, Lib.Utf8Tabs 0 1 w → Calls P f args w fun e w' => e = .returned v ∧ Below w.heap.size w w') : SCall G P f args σ v σ :=
  below_callR hR (fun g cs hm => Nat.lt_of_lt_of_le (rowsU_low g cs hm) h16) (fun g cs hm => Nat.lt_of_lt_of_le (rowsU_low g cs hm) (by decide)) rowsU_flat hl hv fun w h1 => hc w (tabs_of_rowsU h1)
end
end Go.Proofs.YtmlmnbcnfalaaaaDoor
namespace Go.Proofs.YtmlmnbcnfalaaaaDoor
set_option maxRecDepth 100000
def U8F (F : Nat → Option Blk2) : Prop := (∃ t g, F 0 = some (.row ⟨firstL, t, g⟩)) ∧ ∃ t g, F 1 = some (.row ⟨accL, t, g⟩)
theorem u8f_of {σ : Mem} (h : RowsAt rowsU σ) : U8F σ.get := ⟨h _ _ (by simp [rowsU]), h _ _ (by simp [rowsU])⟩
theorem U8F.le {F F' : Nat → Option Blk2} (h : U8F F) (k : Le F F') : U8F F' := by
 obtain ⟨⟨t, g, h1⟩, u, f, h2⟩ := h
 exact ⟨⟨t, g, k _ _ h1⟩, u, f, k _ _ h2⟩
theorem U8F.rows {σ : Mem} (h : U8F σ.get) : RowsAt rowsU σ := fun g cs hm => by
 unfold rowsU at hm
 simp only [List.mem_cons, Prod.mk.injEq, List.mem_nil_iff, or_false] at hm
 rcases hm with ⟨rfl, rfl⟩ | ⟨rfl, rfl⟩
 ·exact h.1
 ·exact h.2
end Go.Proofs.YtmlmnbcnfalaaaaDoor
namespace Go.Proofs.YtmlmnbcnfalaaaaDoor
set_option maxRecDepth 100000
section
variable {P : Program} {G nt : Nat} {ops : Array Oper} {l : List Oper} {o : Oper} {ta : Nat → Value} {σ : Mem} {rs : List (Rec × Mem)} {A : Abs} {F : Nat → Option Blk2} {L : List Ent} {K : List (Rec × Mem) → (Nat → Value) → Mem → Prop}
end
end Go.Proofs.YtmlmnbcnfalaaaaDoor
namespace Go.Proofs.YtmlmnbcnfalaaaaDoor
set_option maxRecDepth 100000
section
variable {P : Program} {G nt : Nat} {ops : Array Oper} {l : List Oper} {o : Oper} {ta : Nat → Value} {σ : Mem} {rs : List (Rec × Mem)} {A : Abs} {F : Nat → Option Blk2} {L : List Ent} {K : List (Rec × Mem) → (Nat → Value) → Mem → Prop}
set_option maxHeartbeats 8000000 in
theorem W.join {rd : Option Nat} {x y : Code} {dm : List DItem} {Q : Exit → (Nat → Value) → List DItem → Mem → Prop} (I : (Nat → Value) → Mem → Prop) (hx : W G P rd nt x ta dm σ fun ex ta' dm' σ' => ex = .normal ∧ dm' = dm ∧ I ta' σ') (hy : ∀ ta' σ', I ta' σ' → W G P rd nt y ta' dm σ' Q) : W G P rd nt (.seq x y) ta dm σ Q := by
 refine W.seq ?_
 obtain ⟨ex, ta', dm', σ', h1, rfl, rfl, h2⟩ := hx
 exact ⟨.normal, ta', dm', σ', h1, hy ta' σ' h2⟩
end
end Go.Proofs.YtmlmnbcnfalaaaaDoor
