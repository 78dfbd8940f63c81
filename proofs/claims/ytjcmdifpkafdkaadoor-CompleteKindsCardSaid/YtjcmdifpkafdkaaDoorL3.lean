/-
  Ranges over open strings in the second memory. Over any program. Conditions: none.
  Strings in the second memory: joined, their length, their bytes in a row of their own. Over any program. Conditions: none.
  Open strings in the second memory: held against one another, cut, their bytes one by one; bytes made a string. Over any program. Conditions: none.
  More rules of a walk: make of a slice, copy, append of made elements. Over any program. Conditions: none.
  A row of so many elements of several cells: made, filled by copies. Over any program. Conditions: none.
  Cells set at a place that is open, in a row that stands alone. Over any program. Conditions: none.
  An element is appended to a slice that was built; bytes of a row that stands among the entries made a string. Over any program. Conditions: none.
  Grown slices: the rest of one is cleared, its beginning is kept. Conditions: none.
  min of two open numbers. Over any program. Conditions: none.
  A contract of a call that reads a slice and leaves all alone, as a call of the second memory. Over any program. Conditions: none.
  Calls that read a slice or plain arguments where the two tables of unicode/utf8 lie. Conditions: none.
  The two tables of unicode/utf8 among the frozen rows. Conditions: none.
-/
import Derived.Test.YtjcmdifpkafdkaaDoorS4
import Derived.Test.YtjcmdifpkafdkaaDoorS2
import Derived.Test.YtjcmdifpkafdkaaDoorUtf
import Derived.Lib.TrimUEq
import Derived.Lib.TrimU
import Derived.Test.YtjcmdifpkafdkaaDoorK1
import Derived.Laws.Slices
import Derived.Laws.Strings
import Derived.WideShapes
import Derived.Test.YtjcmdifpkafdkaaDoorRowsU
namespace Go.Proofs.YtjcmdifpkafdkaaDoor
open Go.Lib
set_option maxRecDepth 100000
theorem runes_dr {bs : List UInt8} {pos : Nat} (h : pos < bs.length) : runes (bs.drop pos) = ((decodeL (bs.drop pos)).1 : Int) :: runes (bs.drop (pos + (decodeL (bs.drop pos)).2)) := by
 have hne : bs.drop pos ≠ [] := by
  intro e
  have := congrArg List.length e
  rw [List.length_drop, List.length_nil] at this
  omega
 have h1 := runes_step _ hne
 rw [List.drop_drop] at h1
 exact h1
theorem runes_end {bs : List UInt8} {pos : Nat} (h : bs.length ≤ pos) : runes (bs.drop pos) = [] := by
 rw [List.drop_eq_nil_of_le h]
 rfl
theorem dec_list (bs : List UInt8) (pos : Nat) : Utf8.decode ⟨bs.toArray⟩ pos = decodeL (bs.drop pos) := (decodeL_drop ⟨bs.toArray⟩ pos).symm
section
variable {P : Program} {G : Nat} {A : Abs} {F : Nat → Option Blk2} {σ : Mem} {L : List Ent} {nt : Nat} {ops : Array Oper} {l : List Oper} {ta : Nat → Value} {rs : List (Rec × Mem)} {o : Oper} {K : (Nat → Value) → Mem → Prop} {bs : List UInt8} {pos b : Nat} {it : Operand}
end
end Go.Proofs.YtjcmdifpkafdkaaDoor
namespace Go.Proofs.YtjcmdifpkafdkaaDoor
set_option maxRecDepth 100000
section
variable {P : Program} {o : Oper} {ρ : Operand → Value}
theorem vop_strLen {c : Call} {x : Operand} {t : TypeId} {a : ByteArray} (ho : o.op = .call c) (hc : c.callee = .builtin .len) (ha : c.args = #[x]) (ht : c.argTypes = #[t]) (hu : P.underlying t = some .string) (hx : ρ x = .string a) : VOp P o ρ (.int .i64 a.size) := fun μ ρc hor => by
 rw [ho] at hor
 have h1 := hor x (by simp [Op.operands, Call.operands, hc, ha])
 rw [hx] at h1
 have h1 := flatV_eq rfl h1
 refine ⟨_, .flat _ rfl, fun w => ?_⟩
 unfold execOp
 simp only [ho, Sem.run_bind, resolve, hc, ha, ht, Result.andThen_ok, Sem.run_pure]
 simp [invoke, builtin, Builtin.len_, run_underlying hu, h1, goInt]
end
section
variable {P : Program} {G nt : Nat} {ops : Array Oper} {l : List Oper} {o : Oper} {ta : Nat → Value} {σ : Mem} {rs : List (Rec × Mem)} {A : Abs} {F : Nat → Option Blk2} {L : List Ent} {K : List (Rec × Mem) → (Nat → Value) → Mem → Prop}
theorem RW.conv (H : Lies G A F σ L) {src dst e : TypeId} {x : Operand} {s : ByteArray} {cs : List Value} (hw : wantedT ops ta o = true) (hk : opndOk G o = true) (ho : o.op = .convert src dst x) (hx : oper2 ta x = .string s) (hc : convF P src dst s = some (e, cs)) (hd : dstOk nt o.dst = true)
    (h : ∀ σ' v', Lies G A F σ' (.sl e 1 v' cs.length cs :: L) → RW G P nt ops l (putO ta o.dst v') σ' ((.eff v', σ) :: rs) K) : RW G P nt ops (o :: l) ta σ rs K := by
  refine RW.eff hw hk (eop_conv ho hx hc) hd (h _ _ ?_)
  have g : Grow σ (σ.push (.row ⟨cs, e, true⟩)) := ⟨fun b y hy => get_push_old hy, Nat.le_succ _, rfl⟩
  exact H.addSl g (.row H.gn get_push rfl (by rw [Nat.mul_one]) (Nat.le_refl _) (List.take_of_length_le (by rw [Nat.mul_one]; exact Nat.le_refl _))) fun c hc => by cases hc; exact Nat.le_refl _
end
end Go.Proofs.YtjcmdifpkafdkaaDoor
namespace Go.Proofs.YtjcmdifpkafdkaaDoor
set_option maxRecDepth 100000
section
variable {P : Program} {o : Oper} {ρ : Operand → Value}
theorem vop_sEq {t t' : TypeId} {x y : Operand} {a b : ByteArray} {r : Bool} (ho : o.op = .binOp .eql t x y t') (hx : ρ x = .string a) (hy : ρ y = .string b) (hr : (a.data.toList == b.data.toList) = r) : VOp P o ρ (.bool r) := fun μ ρc hor => by
 rw [ho] at hor
 have h1 := hor x (by simp [Op.operands])
 have h2 := hor y (by simp [Op.operands])
 rw [hx] at h1
 rw [hy] at h2
 have h1 := flatV_eq rfl h1
 have h2 := flatV_eq rfl h2
 refine ⟨_, .flat _ rfl, fun w => ?_⟩
 unfold execOp
 simp only [ho, h1, h2]
 simp only [eqGuard, binOp, Op.stringOp, ByteArray.toList_eq, hr]
 rfl
theorem vop_sNe {t t' : TypeId} {x y : Operand} {a b : ByteArray} {r : Bool} (ho : o.op = .binOp .neq t x y t') (hx : ρ x = .string a) (hy : ρ y = .string b) (hr : (!(a.data.toList == b.data.toList)) = r) : VOp P o ρ (.bool r) := fun μ ρc hor => by
 rw [ho] at hor
 have h1 := hor x (by simp [Op.operands])
 have h2 := hor y (by simp [Op.operands])
 rw [hx] at h1
 rw [hy] at h2
 have h1 := flatV_eq rfl h1
 have h2 := flatV_eq rfl h2
 refine ⟨_, .flat _ rfl, fun w => ?_⟩
 unfold execOp
 simp only [ho, h1, h2]
 simp only [eqGuard, binOp, Op.stringOp, ByteArray.toList_eq, hr]
 rfl
theorem vop_sAt {t : TypeId} {x i : Operand} {k : IntKind} {s : ByteArray} {j : Nat} (ho : o.op = .index t x i) (hx : ρ x = .string s) (hi : ρ i = .int k ((j : Nat) : Int)) (hu : P.underlying t = some .string) (hj : j < s.size) : VOp P o ρ (.int .u8 ((s.data.toList.getD j 0).toNat : Int)) := fun μ ρc hor => by
 rw [ho] at hor
 have h1 := hor x (by simp [Op.operands])
 have h2 := hor i (by simp [Op.operands])
 rw [hx] at h1
 rw [hi] at h2
 have h1 := flatV_eq rfl h1
 have h2 := flatV_eq rfl h2
 refine ⟨_, .flat _ rfl, fun w => ?_⟩
 have hs : (s[j]'hj) = s.data.toList.getD j 0 := by
  have hz : j < s.data.toList.length := hj
  rw [List.getD_eq_getElem?_getD, List.getElem?_eq_getElem hz]
  rfl
 unfold execOp
 simp only [ho, h1, h2, Sem.run_bind]
 rw [run_index_string w t s k _ hu, dif_pos (by omega)]
 simp [hs]
theorem vop_sAtL {t : TypeId} {x i : Operand} {k : IntKind} {a : List UInt8} {j : Nat} (ho : o.op = .index t x i) (hx : ρ x = .string ⟨a.toArray⟩) (hi : ρ i = .int k ((j : Nat) : Int)) (hu : P.underlying t = some .string) (hj : j < a.length) : VOp P o ρ (.int .u8 ((a.getD j 0).toNat : Int)) :=
 vop_sAt ho hx hi hu hj
theorem vop_sLenL {c : Call} {x : Operand} {t : TypeId} {a : List UInt8} (ho : o.op = .call c) (hc : c.callee = .builtin .len) (ha : c.args = #[x]) (ht : c.argTypes = #[t]) (hu : P.underlying t = some .string) (hx : ρ x = .string ⟨a.toArray⟩) : VOp P o ρ (.int .i64 (a.length : Int)) :=
 vop_strLen ho hc ha ht hu hx
end
section
variable {P : Program} {G nt : Nat} {ops : Array Oper} {l : List Oper} {o : Oper} {ta : Nat → Value} {σ : Mem} {rs : List (Rec × Mem)} {A : Abs} {F : Nat → Option Blk2} {L : List Ent} {K : List (Rec × Mem) → (Nat → Value) → Mem → Prop}
theorem numsF_bytes : ∀ bs : List UInt8, numsF .u8 (bs.map byteV) = some (bs.map fun b => ((b.toNat : Nat) : Int))
 | [] => rfl
 | b :: bs => by
  have h := numsF_bytes bs
  simp only [List.map_cons]
  unfold numsF
  simp only [byteV, h]
  rfl
theorem push_bytes : ∀ (bs : List UInt8) (r : ByteArray), ((bs.map fun b => ((b.toNat : Nat) : Int)).foldl (fun r n => r.push (UInt8.ofNat n.toNat)) r).data.toList = r.data.toList ++ bs
 | [], r => by simp
 | b :: bs, r => by
  rw [List.map_cons, List.foldl_cons, push_bytes bs, ByteArray.data_push, Array.toList_push, List.append_assoc]
  simp
theorem backF_bytes {src dst e : TypeId} (hs : uT P src = some (.slice e)) (he : uT P e = some (.int .u8)) (hd : uT P dst = some .string) (bs : List UInt8) : backF P src dst (bs.map byteV) = some ⟨bs.toArray⟩ := by
 unfold backF
 rw [hs, hd]
 simp only [he, numsF_bytes, Option.map_some]
 congr 1
 apply Go.WideShapes.bytes_inj
 rw [push_bytes]
 simp
theorem RW.back (H : Lies G A F σ L) {src dst e : TypeId} {x : Operand} {v : Value} {bs : List UInt8} (hv : SlF F 1 v bs.length (bs.map byteV)) (h0 : bs ≠ []) (hw : wantedT ops ta o = true) (hk : opndOk G o = true) (ho : o.op = .convert src dst x) (hx : oper2 ta x = v) (hs : uT P src = some (.slice e)) (he : uT P e = some (.int .u8)) (hdt : uT P dst = some .string) (hd : dstOk nt o.dst = true)
    (h : ∀ b p r, F b = some (.row r) → (r.cs.drop p).take bs.length = bs.map byteV → RW G P nt ops l (putO ta o.dst (.string ⟨bs.toArray⟩)) σ ((.load b p (bs.map byteV) (.string ⟨bs.toArray⟩), σ) :: rs) K) : RW G P nt ops (o :: l) ta σ rs K := by
  have hl : bs.length ≠ 0 := fun e => h0 (List.eq_nil_of_length_eq_zero e)
  generalize hn : bs.length = n at hv
  generalize hxs : bs.map byteV = xs at hv
  cases hv with
  | nil => exact absurd hn hl
  | void => exact absurd hn hl
  | some hr hlen hc =>
    rename_i b p c sp r
    obtain ⟨h1, h2⟩ := lop_back (P := P) (cs := xs) (s := ⟨bs.toArray⟩) ho hx (by omega) (by rw [hlen, Nat.mul_one]) (hxs ▸ backF_bytes hs he hdt bs)
    rw [Nat.mul_one] at hc
    refine RW.op (r := .load b p xs (.string ⟨bs.toArray⟩)) hw hk ⟨h1, rfl, h2, r, H.old _ _ hr, fun i y hy => ?_⟩ hd (hxs ▸ h b p r hr (by rw [hn, hxs]; exact hc))
    rw [← hc, List.getElem?_take] at hy
    split at hy
    · rw [List.getElem?_drop] at hy; exact hy
    · cases hy
end
theorem slk_mid {F : Nat → Option Blk2} {P : Program} {v : Value} {n i j t e : Nat} {xs : List Value} (h : SlK F 1 v n xs) (h0 : 0 < n) (ht : uT P t = some (.slice e)) (hz : sizeT P e = some 1) (hi : i ≤ j) (hj : j ≤ n) {a b : Int} (ha : a = (i : Int)) (hb : b = (j : Int)) :
    ∃ q p sp c, sliceF P t v (some (.int .i64 a)) (some (.int .i64 b)) none = some (.slice (some ⟨q, p, sp⟩) (j - i) c) ∧ SlK F 1 (.slice (some ⟨q, p, sp⟩) (j - i) c) (j - i) ((xs.drop i).take (j - i)) := by
  subst ha
  subst hb
  cases h with
  | nil => exact absurd h0 (Nat.lt_irrefl _)
  | some hr hx hc hle hsp =>
    rename_i b p c sp r
    have h1 : boundF (some (.int .i64 ((j : Nat) : Int))) n c = some j := by
      simp only [boundF]
      rw [if_pos (by omega), Int.toNat_natCast]
    have h2 : boundF (some (.int .i64 ((i : Nat) : Int))) 0 j = some i := by
      simp only [boundF]
      rw [if_pos (by omega), Int.toNat_natCast]
    rw [Nat.mul_one] at hx hc
    have hlen : ((xs.drop i).take (j - i)).length = (j - i) * 1 := by
      rw [List.length_take, List.length_drop]
      omega
    have hone : ((r.cs.drop (p + i * 1)).take ((j - i) * 1)) = (xs.drop i).take (j - i) := by
      have e1 : ((r.cs.drop p).take n).drop i = xs.drop i := by rw [hc]
      rw [List.drop_take, List.drop_drop] at e1
      rw [Nat.mul_one, Nat.mul_one, ← e1, List.take_take, Nat.min_eq_left (by omega)]
    by_cases hci : c = i
    · have e0 : j - i = 0 := by omega
      refine ⟨b, p, sp, c - i, ?_, ?_⟩
      · simp only [sliceF, ht, hz, h1, h2]
        rcases hsp with rfl | rfl
        · simp only []
          rw [if_pos hci]
        · simp only []
          rw [if_pos ⟨trivial, by omega⟩, if_pos hci]
      · rw [e0] at hlen ⊢
        exact .some hr hlen (by rw [Nat.zero_mul, List.take_zero, List.take_zero]) (Nat.zero_le _) hsp
    · refine ⟨b, p + i * 1, sp, c - i, ?_, ?_⟩
      · simp only [sliceF, ht, hz, h1, h2]
        rcases hsp with rfl | rfl
        · simp only []
          rw [if_neg hci]
        · simp only []
          rw [if_pos ⟨trivial, by omega⟩, if_neg hci]
      · exact .some hr hlen hone (by omega) hsp
end Go.Proofs.YtjcmdifpkafdkaaDoor
namespace Go.Proofs.YtjcmdifpkafdkaaDoor
set_option maxRecDepth 100000
theorem wrap_u {n : Int} (h1 : 0 ≤ n) (h2 : n ≤ 18446744073709551615) : IntKind.u64.wrap n = n := by
 simp [IntKind.wrap, IntKind.bits, IntKind.signed]
 omega
section
variable {P : Program} {G nt : Nat} {ops : Array Oper} {l : List Oper} {o : Oper} {ta : Nat → Value} {σ : Mem} {rs : List (Rec × Mem)} {A : Abs} {F : Nat → Option Blk2} {L : List Ent} {K : List (Rec × Mem) → (Nat → Value) → Mem → Prop}
end
end Go.Proofs.YtjcmdifpkafdkaaDoor
namespace Go.Proofs.YtjcmdifpkafdkaaDoor
set_option maxRecDepth 100000
section
variable {vs zs : List Value} {s N : Nat} (h1 : vs.length = s) (h2 : zs.length = s)
include h1 h2
end
section
variable {P : Program} {G nt : Nat} {ops : Array Oper} {l : List Oper} {o : Oper} {ta : Nat → Value} {σ : Mem} {rs : List (Rec × Mem)} {A : Abs} {F : Nat → Option Blk2} {L : List Ent} {K : List (Rec × Mem) → (Nat → Value) → Mem → Prop}
end
end Go.Proofs.YtjcmdifpkafdkaaDoor
namespace Go.Proofs.YtjcmdifpkafdkaaDoor
set_option maxRecDepth 100000
section
variable {P : Program} {G nt : Nat} {ops : Array Oper} {l : List Oper} {o : Oper} {ta : Nat → Value} {σ : Mem} {rs : List (Rec × Mem)} {A : Abs} {F : Nat → Option Blk2} {L : List Ent} {K : List (Rec × Mem) → (Nat → Value) → Mem → Prop}
end
end Go.Proofs.YtjcmdifpkafdkaaDoor
namespace Go.Proofs.YtjcmdifpkafdkaaDoor
set_option maxRecDepth 100000
section
variable {P : Program} {G nt : Nat} {ops : Array Oper} {l : List Oper} {o : Oper} {ta : Nat → Value} {σ : Mem} {rs : List (Rec × Mem)} {A : Abs} {F : Nat → Option Blk2} {L : List Ent} {K : List (Rec × Mem) → (Nat → Value) → Mem → Prop}
end
end Go.Proofs.YtjcmdifpkafdkaaDoor
namespace Go.Proofs.YtjcmdifpkafdkaaDoor
set_option maxRecDepth 100000
section
variable {P : Program} {G nt : Nat} {ops : Array Oper} {l : List Oper} {o : Oper} {ta : Nat → Value} {σ : Mem} {rs : List (Rec × Mem)} {A : Abs} {F : Nat → Option Blk2} {L : List Ent} {K : List (Rec × Mem) → (Nat → Value) → Mem → Prop}
theorem W.join {rd : Option Nat} {x y : Code} {dm : List DItem} {Q : Exit → (Nat → Value) → List DItem → Mem → Prop} (I : (Nat → Value) → Mem → Prop) (hx : W G P rd nt x ta dm σ fun ex ta' dm' σ' => ex = .normal ∧ dm' = dm ∧ I ta' σ') (hy : ∀ ta' σ', I ta' σ' → W G P rd nt y ta' dm σ' Q) : W G P rd nt (.seq x y) ta dm σ Q := by
 refine W.seq ?_
 obtain ⟨ex, ta', dm', σ', h1, rfl, rfl, h2⟩ := hx
 exact ⟨.normal, ta', dm', σ', h1, hy ta' σ' h2⟩
theorem grow_rest {t e s n i : Nat} {v : Value} {xs : List Value} (h : GRow G σ e s v n xs) (hi : i ≤ n) (ht : uT P t = some (.slice e)) (hz : sizeT P e = some s) :
    (v = .slice none 0 0 ∧ n = 0 ∧ sliceF P t v (some (.int .i64 ((i : Nat) : Int))) none none = some (.slice none 0 0)) ∨
    ∃ q c, v = .slice (some ⟨q, 0, some s⟩) n c ∧ sliceF P t v (some (.int .i64 ((i : Nat) : Int))) none none = some (.slice (some (if c = i then ⟨q, 0, some s⟩ else ⟨q, 0 + i * s, some s⟩)) (n - i) (c - i)) := by
  cases h with
  | nil =>
    obtain rfl : i = 0 := by omega
    exact .inl ⟨rfl, rfl, by simp only [sliceF, ht, hz, boundF]; rfl⟩
  | @row q _ c r _ hq hr hte hc hl hx =>
    refine .inr ⟨q, c, rfl, ?_⟩
    have hb : boundF (some (.int .i64 ((i : Nat) : Int))) 0 n = some i := by
      simp only [boundF]
      rw [if_pos (by omega), Int.toNat_natCast]
    simp only [sliceF, ht, hz]
    rw [show boundF none n c = some n from rfl]
    simp only []
    rw [hb]
    simp only []
    rw [if_pos ⟨trivial, hl⟩]
theorem RW.clearG (H : Lies G A F σ L) (k : Nat) {c : Call} {x : Operand} {t e s n i : Nat} {v z vB : Value} {xs : List Value} (hs : lookL L k = some (.sl e s v n xs)) (hi : i ≤ n) (hut : uT P t = some (.slice e)) (hsz : sizeT P e = some s) (hzt : zeroT P e = some z) (hz1 : closedV 2 z = true) (hz2 : z.cells.size = s) (hz3 : z.cells.toList.all (·.oneCell') = true) (hs0 : 0 < s)
    (hv : sliceF P t v (some (.int .i64 ((i : Nat) : Int))) none none = some vB) (hw : wantedT ops ta o = true) (hk : opndOk G o = true) (ho : o.op = .call c) (hc : c.callee = .builtin .clear) (ha : c.args = #[x]) (ht : c.argTypes = #[t]) (hx : oper2 ta x = vB) (hd : dstOk nt o.dst = true)
    (h : ∀ σ' zs, zs.length = (n - i) * s → Lies G A F σ' (setL L k (.sl e s v n (xs.take (i * s) ++ zs))) → RW G P nt ops l (putO ta o.dst undef) σ' ((.eff undef, σ) :: rs) K) : RW G P nt ops (o :: l) ta σ rs K := by
  have hg := H.sl k hs
  have same : i = n → clearF G P σ t vB = some .same → RW G P nt ops (o :: l) ta σ rs K := fun e0 hcf => by
    rw [← hx] at hcf
    refine RW.eff hw hk (eop_clear ho hc ha ht hcf) hd (h _ [] (by rw [e0, Nat.sub_self, Nat.zero_mul]; rfl) ?_)
    have : xs.take (i * s) ++ [] = xs := by rw [List.append_nil, List.take_of_length_le (by rw [hg.length, e0]; exact Nat.le_refl _)]
    rw [this, setL_same hs]
    exact H
  rcases grow_rest hg hi hut hsz with ⟨rfl, rfl, e1⟩ | ⟨q, c2, rfl, e1⟩
  · rw [hv] at e1
    obtain rfl := Option.some.inj e1
    exact same (by omega) (by unfold clearF; rw [hut])
  · rw [hv] at e1
    obtain rfl := Option.some.inj e1
    rcases Nat.eq_or_lt_of_le hi with e0 | hlt
    · refine same e0 ?_
      have h0 : ∀ (a : Addr) (m : Nat), clearF G P σ t (.slice (some a) 0 m) = some .same := fun a m => by
        obtain ⟨b, p, sp⟩ := a
        unfold clearF
        rw [hut]
        rfl
      rw [show n - i = 0 by omega]
      exact h0 _ _
    · cases hg with
      | @row _ _ _ r _ hq hr hte hcl hl hxs =>
        have hci : ¬ c2 = i := by omega
        have hm : i * s + (n - i) * s = n * s := by rw [← Nat.add_mul]; congr 1; omega
        have hnc : n * s ≤ c2 * s := Nat.mul_le_mul_right _ hl
        obtain ⟨zs, hzs⟩ : ∃ zs, zs = (Builtin.zeroCells z.cells (n - i)).toList := ⟨_, rfl⟩
        have hzl : zs.length = (n - i) * s := by rw [hzs, zeroCells_eq, zerosN_len, Array.length_toList, hz2]
        have hall : zs.all (·.oneCell') = true := by
          rw [hzs]
          rw [List.all_eq_true] at hz3 ⊢
          intro y hy
          rw [Array.mem_toList_iff] at hy
          unfold Builtin.zeroCells at hy
          obtain ⟨j, hj, rfl⟩ := Array.mem_map.1 hy
          have hlt2 : j % z.cells.size < z.cells.size := Nat.mod_lt _ (by rw [hz2]; exact hs0)
          rw [getElem!_pos z.cells _ hlt2]
          exact hz3 _ (by rw [Array.mem_toList_iff]; exact Array.getElem_mem _)
        have hcf : clearF G P σ t (.slice (some (if c2 = i then ⟨q, 0, some s⟩ else ⟨q, 0 + i * s, some s⟩)) (n - i) (c2 - i)) = some (.put q (.row ⟨overL r.cs (i * s) zs, r.t, r.g⟩)) := by
          rw [if_neg hci]
          unfold clearF
          rw [hut]
          simp only [hzt, hr]
          rw [if_neg (show ¬ n - i = 0 by omega), if_pos ⟨hq, hz1, by rw [hz2]; exact hs0, by rw [hz2, hcl]; omega, by rw [← hzs]; exact hall⟩, ← hzs, Nat.zero_add]
        rw [← hx] at hcf
        refine RW.eff hw hk (eop_clear ho hc ha ht hcf) hd (h _ zs hzl (H.grown k hs (.row hq (get_put hr) hte ?_ hl ?_) (Nat.le_refl _) rfl (fun c y hy hne => get_put_ne hy (fun e => hne (by rw [e]; rfl))) fun c hc => .inl hc))
        · show (overL r.cs (i * s) zs).length = _
          rw [overL_len (by rw [hzl, hcl]; omega), hcl]
        · show (overL r.cs (i * s) zs).take (n * s) = _
          rw [overL_take (by rw [hzl]; omega) (by rw [hcl]; exact hnc), hxs]
          have hxl : xs.length = n * s := by rw [← hxs, List.length_take, hcl]; omega
          unfold overL
          rw [List.drop_of_length_le (by rw [hzl, hxl]; omega), List.append_nil]
theorem Lies.cutSl {t e s n i : Nat} {v : Value} {xs : List Value} (H : Lies G A F σ L) (k : Nat) (hs : lookL L k = some (.sl e s v n xs)) (hi : i ≤ n) (ht : uT P t = some (.slice e)) (hz : sizeT P e = some s) :
    ∃ v', sliceF P t v none (some (.int .i64 ((i : Nat) : Int))) none = some v' ∧ Lies G A F σ (setL L k (.sl e s v' i (xs.take (i * s)))) := by
  have hg := H.sl k hs
  cases hg with
  | nil =>
    obtain rfl : i = 0 := by omega
    refine ⟨.slice none 0 0, by simp only [sliceF, ht, hz, boundF]; rfl, ?_⟩
    rw [List.take_nil, setL_same hs]
    exact H
  | @row q _ c r _ hq hr hte hc hl hx =>
    have hb : boundF (some (.int .i64 ((i : Nat) : Int))) n c = some i := by
      simp only [boundF]
      rw [if_pos (by omega), Int.toNat_natCast]
    have hm : i * s ≤ n * s := Nat.mul_le_mul_right _ hi
    refine ⟨.slice (some ⟨q, 0, some s⟩) i c, ?_, H.grown k hs (.row hq hr hte hc (by omega) (by rw [← hx, List.take_take, Nat.min_eq_left hm])) (Nat.le_refl _) rfl (fun _ _ h _ => h) fun c hc => .inl hc⟩
    simp only [sliceF, ht, hz]
    rw [hb]
    simp only []
    rw [show boundF none 0 i = some 0 from rfl]
    simp only []
    rw [if_pos ⟨trivial, by omega⟩]
    simp
end
end Go.Proofs.YtjcmdifpkafdkaaDoor
namespace Go.Proofs.YtjcmdifpkafdkaaDoor
section
variable {P : Program} {o : Oper}
end
end Go.Proofs.YtjcmdifpkafdkaaDoor
namespace Go.Proofs.YtjcmdifpkafdkaaDoor
open Go.RowKit
set_option maxRecDepth 100000
section
variable {P : Program} {G : Nat} {σ : Mem}
theorem below_callR {R : List (Nat × List Value)} (hR : RowsAt R σ) (hGR : ∀ g cs, (g, cs) ∈ R → g < G) (h64 : ∀ g cs, (g, cs) ∈ R → g < 64) (hfR : ∀ g cs, (g, cs) ∈ R → (∀ x ∈ cs, flatV x = true) ∧ cs ≠ []) {f : FuncId} {args : Array Value} {v : Value} (hl : args.toList.all (closedV 3) = true) (hv : closedV 3 v = true)
    (hc : ∀ w, RowsLie w R → Calls P f args w fun e w' => e = .returned v ∧ Below w.heap.size w w') : SCall G P f args σ v σ := by
  refine ⟨Nat.le_refl _, fun μ w cargs hs hGn _ har => ?_⟩
  have hz : cargs = args := by
    apply Array.ext
    · exact har.1.symm
    · intro i h1 h2
      exact closedV_eq 3 _ _ (List.all_eq_true.1 hl _ (by simp)) (har.2 i args[i] cargs[i] (by simp [h2]) (by simp [h1]))
  subst hz
  refine (hc w (rows_lie hs hGR h64 hfR hR)).mono ?_
  rintro e w' ⟨rfl, hb⟩
  have own2 := OwnOk.same (G := G) (σ := σ) (μ := μ) (w := w) (w' := w') (σ' := σ) rfl (Ext.refl μ) rfl hb.size (fun B hB _ => hb.block B hB) fun c z ci hz hc => .inr ⟨c, z, ci, hz, hc, rfl⟩
  exact ⟨v, μ, rfl, ⟨Nat.le_refl _, fun b h1 h2 => absurd h1 (by omega), fun _ _ => rfl, ⟨hs.glob, fun b x bi hx hm => (hs.blk b x bi hx hm).keep (hb.block _ (hs.blk b x bi hx hm).lt) (Ext.refl _), hs.inj, hs.rw_, own2 hs.abs⟩, hb.size, hb.os, hb.tape, hb.output, fun b x bi hb' hx _ => absurd (Mem.lt hx) (by omega), fun _ x _ h => ⟨x, h⟩, hGn, own_id, fun B hB _ _ => hb.block B hB⟩, closedV_rel _ 3 v hv⟩
end
end Go.Proofs.YtjcmdifpkafdkaaDoor
namespace Go.Proofs.YtjcmdifpkafdkaaDoor
open Go.RowKit
set_option maxRecDepth 100000
theorem tabs_of_rowsU {w : World} (hl : RowsLie w rowsU) : Lib.Utf8Tabs 0 1 w := by
 refine ⟨fun c hc => ?_, fun i hi => ⟨?_, ?_⟩⟩
 ·exact (hl _ firstL (by simp [rowsU])).2.2 c _ (by simp [firstL, hc])
 ·refine (hl _ accL (by simp [rowsU])).2.2 (2 * i) _ ?_
  unfold accL
  rw [List.getElem?_map, List.getElem?_range (by omega)]
  simp
 ·refine (hl _ accL (by simp [rowsU])).2.2 (2 * i + 1) _ ?_
  unfold accL
  rw [List.getElem?_map, List.getElem?_range (by omega)]
  simp only [Option.map_some, Option.some.injEq]
  rw [if_neg (by omega), show (2 * i + 1) / 2 = i by omega]
section
variable {P : Program} {G : Nat} {σ : Mem} (hR : RowsAt rowsU σ) (h16 : 16 ≤ G)
include hR h16
theorem below_callT {f : FuncId} {args : Array Value} {v : Value} (hl : args.toList.all (closedV 3) = true) (hv : closedV 3 v = true)
    (hc : ∀ w, Lib.Utf8Tabs 0 1 w → Calls P f args w fun e w' => e = .returned v ∧ Below w.heap.size w w') : SCall G P f args σ v σ :=
  below_callR hR (fun g cs hm => Nat.lt_of_lt_of_le (rowsU_low g cs hm) h16) (fun g cs hm => Nat.lt_of_lt_of_le (rowsU_low g cs hm) (by decide)) rowsU_flat hl hv fun w h1 => hc w (tabs_of_rowsU h1)
end
end Go.Proofs.YtjcmdifpkafdkaaDoor
namespace Go.Proofs.YtjcmdifpkafdkaaDoor
set_option maxRecDepth 100000
def U8F (F : Nat → Option Blk2) : Prop := (∃ t g, F 0 = some (.row ⟨firstL, t, g⟩)) ∧ ∃ t g, F 1 = some (.row ⟨accL, t, g⟩)
theorem u8f_of {σ : Mem} (h : RowsAt rowsU σ) : U8F σ.get := ⟨h _ _ (by simp [rowsU]), h _ _ (by simp [rowsU])⟩
theorem U8F.le {F F' : Nat → Option Blk2} (h : U8F F) (k : Le F F') : U8F F' := by
 obtain ⟨⟨t, g, h1⟩, u, f, h2⟩ := h
 exact ⟨⟨t, g, k _ _ h1⟩, u, f, k _ _ h2⟩
theorem U8F.rows {σ : Mem} (h : U8F σ.get) : RowsAt rowsU σ := fun g cs hm => by
 unfold rowsU at hm
 simp only [List.mem_cons, Prod.mk.injEq, List.mem_nil_iff, or_false] at hm
 rcases hm with ⟨rfl, rfl⟩ | ⟨rfl, rfl⟩
 ·exact h.1
 ·exact h.2
end Go.Proofs.YtjcmdifpkafdkaaDoor
