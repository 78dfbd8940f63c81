/-
 Characters that are typed, in plain words: their bytes, with ESC ahead or not, and their events. No program in this text. Conditions: none.
 Calls that read a slice or plain arguments where the two tables of unicode/utf8 lie. Conditions: none.
 Bytes in frozen rows; the two tables of unicode/utf8 as frozen rows. Conditions: none.
 FullRune, DecodeRune of any bytes. Conditions: the two tables lie.
 character of any bytes. Conditions: the two tables lie.
 escaped of a character behind ESC. Conditions: the two tables lie.
-/
import Derived.Test.YtpjpefcpbkmilaaDoorUtf
import Derived.Test.YtpjpefcpbkmilaaDoorK1
import Derived.Test.YtpjpefcpbkmilaaDoorRowsU
import Derived.Test.YtpjpefcpbkmilaaDoorS4
import Derived.Test.YtpjpefcpbkmilaaDoorShelf
import Derived.Test.YtpjpefcpbkmilaaDoorKmA
namespace Go.Proofs.YtpjpefcpbkmilaaDoor
open Go.Lib
set_option maxRecDepth 100000
abbrev Tok := Int × Bool
def Tok.Ok (t : Tok) : Prop := chB t.1 = true ∧ t.1 ≠ 27 ∧ t.1 ≠ 91 ∧ t.1 ≠ 79
def full4 (n b0 b1 b2 : Nat) : Bool :=
 if n = 0 then false
 else if firstT b0 % 8 ≤ n then true
 else if 1 < n ∧ (b1 < accLo (firstT b0 / 16) ∨ accHi (firstT b0 / 16) < b1) then true
 else if 2 < n ∧ (b2 < 128 ∨ 191 < b2) then true
 else false
def fullL (l : List UInt8) : Bool := full4 l.length (l.getD 0 0).toNat (l.getD 1 0).toNat (l.getD 2 0).toNat
end Go.Proofs.YtpjpefcpbkmilaaDoor
namespace Go.Proofs.YtpjpefcpbkmilaaDoor
open Go.RowKit
set_option maxRecDepth 100000
theorem tabs_of_rowsU {w : World} (hl : RowsLie w rowsU) : Lib.Utf8Tabs 0 1 w := by
 refine ⟨fun c hc => ?_, fun i hi => ⟨?_, ?_⟩⟩
 ·exact (hl _ firstL (by simp [rowsU])).2.2 c _ (by simp [firstL, hc])
 ·refine (hl _ accL (by simp [rowsU])).2.2 (2 * i) _ ?_
  unfold accL
  rw [List.getElem?_map, List.getElem?_range (by omega)]
  simp
 ·refine (hl _ accL (by simp [rowsU])).2.2 (2 * i + 1) _ ?_
  unfold accL
  rw [List.getElem?_map, List.getElem?_range (by omega)]
  simp only [Option.map_some, Option.some.injEq]
  rw [if_neg (by omega), show (2 * i + 1) / 2 = i by omega]
section
variable {P : Program} {G : Nat} {σ : Mem} (hR : RowsAt rowsU σ) (h16 : 16 ≤ G)
include hR h16
theorem read_callT {f : FuncId} {s n : Nat} {a : Value} {xs : List Value} {rest : List Value} {v : Value} (ha : SlF σ.get s a n xs) (hf : ∀ x ∈ xs, flatV x = true) (hl : rest.all (closedV 3) = true) (hv : closedV 3 v = true)
  (hc : ∀ w a', Lib.Utf8Tabs 0 1 w → ReadsV w a' n xs → Calls P f (a' :: rest).toArray w fun e w' => e = .returned v ∧ Below w.heap.size w w') : SCall G P f (a :: rest).toArray σ v σ :=
 read_callR hR (fun g cs hm => Nat.lt_of_lt_of_le (rowsU_low g cs hm) h16) (fun g cs hm => Nat.lt_of_lt_of_le (rowsU_low g cs hm) (by decide)) rowsU_flat ha hf hl hv fun w a' h1 h2 => hc w a' (tabs_of_rowsU h1) h2
end
end Go.Proofs.YtpjpefcpbkmilaaDoor
namespace Go.Proofs.YtpjpefcpbkmilaaDoor
open Go.Lib
set_option maxRecDepth 100000
theorem bytes_at {l : List UInt8} {j : Nat} (hj : j < l.length) : ((l.map byteV).drop (((j : Nat) : Int).toNat * 1)).take 1 = [.int .u8 ((l.getD j 0).toNat : Int)] := by
 rw [Int.toNat_natCast, Nat.mul_one, List.drop_eq_getElem_cons (by simpa using hj), List.getElem_map, List.getD_eq_getElem?_getD, List.getElem?_eq_getElem hj]
 rfl
theorem bytes_atC {l : List UInt8} {j : Nat} {i : Int} (hi : i = (j : Int)) (hj : j < l.length) : ((l.map byteV).drop (i.toNat * 1)).take 1 = [.int .u8 ((l.getD j 0).toNat : Int)] := hi ▸ bytes_at hj
theorem bytes_ones (l : List UInt8) : (l.map byteV).all (·.oneCell') = true := by
 rw [List.all_map, List.all_eq_true]
 intro x _
 rfl
theorem bytes_flat {l : List UInt8} : ∀ x ∈ l.map byteV, flatV x = true := fun x hx => by
 obtain ⟨u, _, rfl⟩ := List.mem_map.1 hx
 rfl
theorem byte_lt (l : List UInt8) (j : Nat) : (l.getD j 0).toNat < 256 := UInt8.toNat_lt _
theorem wrap_u8 {n : Int} (h1 : 0 ≤ n) (h2 : n ≤ 255) : IntKind.u8.wrap n = n := by
 simp [IntKind.wrap, IntKind.bits, IntKind.signed]
 omega
def U8F (F : Nat → Option Blk2) : Prop := (∃ t g, F 0 = some (.row ⟨firstL, t, g⟩)) ∧ ∃ t g, F 1 = some (.row ⟨accL, t, g⟩)
theorem u8f_of {σ : Mem} (h : RowsAt rowsU σ) : U8F σ.get := ⟨h _ _ (by simp [rowsU]), h _ _ (by simp [rowsU])⟩
theorem U8F.le {F F' : Nat → Option Blk2} (h : U8F F) (k : Le F F') : U8F F' := by
 obtain ⟨⟨t, g, h1⟩, u, f, h2⟩ := h
 exact ⟨⟨t, g, k _ _ h1⟩, u, f, k _ _ h2⟩
theorem U8F.rows {σ : Mem} (h : U8F σ.get) : RowsAt rowsU σ := fun g cs hm => by
 unfold rowsU at hm
 simp only [List.mem_cons, Prod.mk.injEq, List.mem_nil_iff, or_false] at hm
 rcases hm with ⟨rfl, rfl⟩ | ⟨rfl, rfl⟩
 ·exact h.1
 ·exact h.2
theorem idx_arr {P : Program} {t e g n s : Nat} {k : IntKind} {i : Nat} (ht : uT P t = some (.array n e)) (hs : sizeT P e = some s) (h1 : i < n) : indexAddrF P t (.pointer (some ⟨g, 0, none⟩)) (.int k ((i : Nat) : Int)) = some (.pointer (some ⟨g, i * s, none⟩)) := by
 simp only [indexAddrF, ht, hs]
 rw [if_pos ⟨by omega, by omega⟩, Nat.zero_add, Int.toNat_natCast]
theorem opnd_glob {G g t x : Nat} {o : Oper} (ho : o.op = .indexAddr t (.global g) (.tmp x)) (h64 : Nat.blt g 64 = true) (h : g < G) : opndOk G o = true := by
 have hb : Nat.blt g G = true := by rw [Nat.blt_eq]; exact h
 unfold opndOk
 rw [ho]
 show ((cond (Nat.blt g 64) (Nat.blt g G) false) && _) = true
 rw [h64, hb]
 rfl
theorem first_at {i : Nat} (h : i < 256) : (firstL.drop (i * 1)).take 1 = [.int .u8 ((firstT i : Nat) : Int)] := by
 unfold firstL
 rw [Nat.mul_one, List.drop_eq_getElem_cons (by simpa using h)]
 simp
theorem acc_at {i : Nat} (h : i < 16) : (accL.drop (i * 2)).take 2 = [.int .u8 ((accLo i : Nat) : Int), .int .u8 ((accHi i : Nat) : Int)] := by
 have hl : accL.length = 32 := by unfold accL; simp
 rw [List.drop_eq_getElem_cons (by omega), List.drop_eq_getElem_cons (by omega)]
 have h1 : accL[i * 2]'(by omega) = .int .u8 ((accLo i : Nat) : Int) := by
  unfold accL
  simp
 have h2 : accL[i * 2 + 1]'(by omega) = .int .u8 ((accHi i : Nat) : Int) := by
  unfold accL
  simp only [List.getElem_map, List.getElem_range]
  rw [if_neg (by omega), show (i * 2 + 1) / 2 = i by omega]
 rw [h1, h2]
 rfl
theorem first_cases (b : Nat) : firstT b = 240 ∨ firstT b = 241 ∨ firstT b = 2 ∨ firstT b = 19 ∨ firstT b = 3 ∨ firstT b = 35 ∨ firstT b = 52 ∨ firstT b = 4 ∨ firstT b = 68 := by
 unfold firstT
 repeat' split
 all_goals simp
theorem first_and (b : Nat) : fastBin .and .u8 ((firstT b : Nat) : Int) 7 = some (.int .u8 ((firstT b % 8 : Nat) : Int)) := by
 rcases first_cases b with e | e | e | e | e | e | e | e | e <;> rw [e] <;> rfl
theorem first_shr (b : Nat) : fastSh .shr .u8 ((firstT b : Nat) : Int) 4 = some (.int .u8 ((firstT b / 16 : Nat) : Int)) := by
 rcases first_cases b with e | e | e | e | e | e | e | e | e <;> rw [e] <;> rfl
theorem first_16 (b : Nat) : firstT b / 16 < 16 := by
 rcases first_cases b with e | e | e | e | e | e | e | e | e <;> rw [e] <;> decide
end Go.Proofs.YtpjpefcpbkmilaaDoor
namespace Go.Proofs.YtpjpefcpbkmilaaDoor
open Go.Lib
set_option maxRecDepth 100000
theorem get_bang {l : List UInt8} {j : Nat} (h : j < l.length) : (⟨l.toArray⟩ : ByteArray).get! j = l.getD j 0 := by
 show l.toArray[j]! = _
 rw [List.getD_eq_getElem?_getD]
 simp [h]
section
variable {G : Nat} {A : Abs} {σ : Mem} {F : Nat → Option Blk2} {L : List Ent}
theorem s_decode {bs : List UInt8} {v : Value} (hU : U8F σ.get) (h16 : 16 ≤ G) (hs : SlF σ.get 1 v bs.length (bs.map byteV)) (h0 : bs ≠ []) : SCall G Tryd.prog 62 #[v] σ (.tuple #[.int .i32 (((decodeL bs).1 : Nat) : Int), .int .i64 (((decodeL bs).2 : Nat) : Int)]) σ :=
 read_callT hU.rows h16 (rest := []) hs bytes_flat rfl rfl fun w a' hT ⟨A, c, e, _, hA⟩ => by
  subst e
  have hl : bs.length ≠ 0 := fun e => h0 (List.eq_nil_of_length_eq_zero e)
  obtain ⟨B, off, rfl, hc⟩ := hA hl
  have hz : (⟨bs.toArray⟩ : ByteArray).size = bs.length := by simp [ByteArray.size]
  have k := Tryd.utf8_DecodeRune ⟨bs.toArray⟩ B off c w hT fun j hj => by
   rw [hz] at hj
   rw [get_bang hj]
   refine hc j _ ?_
   rw [List.getElem?_map, List.getD_eq_getElem?_getD, List.getElem?_eq_getElem hj]
   rfl
  have e : Lib.decodeGo ⟨bs.toArray⟩ = decodeL bs := by
   unfold Lib.decodeGo
   rw [if_neg (by rw [hz]; exact hl)]
   rfl
  rw [hz, e] at k
  exact k
set_option maxHeartbeats 4000000 in
theorem full_wc {bs : List UInt8} {v : Value} (hU : U8F F) (h16 : 16 ≤ G) (hs : SlF F 1 v bs.length (bs.map byteV)) (hn : bs.length ≤ 1000000) (H : Lies G A F σ L) : WC G Tryd.prog 61 #[v] σ fun r σ' => r = .bool (fullL bs) ∧ Lies G A F σ' L := by
 have hb0 := byte_lt bs 0
 have hb1 := byte_lt bs 1
 have hb2 := byte_lt bs 2
 refine WC.enter (fn := Tryd.f61) Tryd.func61 rfl ?_
 refine W.rg [(0, v)] fun TA => ?_
 refine W.seq (W.region ?_)
 refine RW.v ?_
 refine RW.nil ?_
 refine W.rg [(0, v)] fun TA => ?_
 refine W.seq (W.region ?_)
 refine RW.v ?_
 refine RW.len (by kernel_rfl) (by kernel_rfl) rfl rfl rfl rfl (hs.len (e := 5) (by kernel_rfl)) (by kernel_rfl) ?_
 refine RW.v ?_
 refine RW.nil ?_
 refine W.rg [(0, v), (3, .int .i64 (bs.length : Int))] fun TA => ?_
 refine W.seq ?_
 refine W.seq (W.region ?_)
 iterate 2 refine RW.v ?_
 refine RW.nil ?_
 refine W.rg [(0, v), (3, .int .i64 (bs.length : Int)), (9, .bool ((bs.length : Int) == 0))] fun TA => ?_
 refine W.cond rfl (fun hc1 => ?_) (fun hc1 => ?_)
 ·have hc1b := hc1
  have hc1 := eq_of_beq hc1
  refine W.seq (W.region ?_)
  refine RW.v ?_
  refine RW.nil ?_
  refine W.ret ?_
  refine seqQ_ret ?_
  refine endG (by rfl) (by exact resL_tmp rfl) ?_
  refine ⟨?_, H⟩
  have ef : fullL bs = false := by
   unfold fullL full4
   repeat' split
   all_goals first | rfl | (exfalso; omega)
  exact Eq.trans rfl (congrArg Value.bool ef.symm)
 ·have hc1b := hc1
  have hc1 := ne_of_beq_false hc1
  refine W.skip ?_
  refine W.seq (W.region ?_)
  refine RW.v ?_
  refine RW.idxF hs (by kernel_rfl) (by kernel_rfl) rfl Tryd.underlying43 (by kernel_rfl) rfl rfl ⟨by omega, by omega⟩ (by kernel_rfl) ?_
  intro b2 q3 r4 hF5 hE6
  rw [bytes_atC (l := bs) (j := 0) (i := 0) rfl (by omega)] at hE6
  refine RW.loads 1 (by kernel_rfl) (by kernel_rfl) rfl rfl (H.old _ _ hF5) hE6 rfl (by kernel_rfl) ?_
  obtain ⟨ta, ga, hU1⟩ := hU.1
  obtain ⟨r7, r7e⟩ : ∃ r : Row, r = ⟨firstL, ta, ga⟩ := ⟨_, rfl⟩
  have hF8 : F 0 = some (.row r7) := r7e ▸ hU1
  obtain ⟨q10, q10e⟩ : ∃ q : Nat, q = ((bs.getD 0 0).toNat) * 1 := ⟨_, rfl⟩
  have hE9 : (r7.cs.drop q10).take 1 = [.int .u8 ((firstT (bs.getD 0 0).toNat : Nat) : Int)] := by rw [r7e, q10e]; exact (first_at (byte_lt _ _))
  refine RW.vop (v := .pointer (some ⟨0, q10, none⟩)) (by kernel_rfl) (opnd_glob rfl rfl (by omega)) (vop_indexAddr rfl (by rw [q10e]; exact idx_arr (e := 5) (s := 1) (n := 256) (i := (bs.getD 0 0).toNat) (by kernel_rfl) (by kernel_rfl) (byte_lt _ _))) (by kernel_rfl) ?_
  refine RW.loads 1 (by kernel_rfl) (by kernel_rfl) rfl rfl (H.old _ _ hF8) hE9 rfl (by kernel_rfl) ?_
  refine RW.v ?_
  refine RW.nil ?_
  refine W.rg [(0, v), (3, .int .i64 (bs.length : Int)), (4, .int .u8 ((firstT (bs.getD 0 0).toNat : Nat) : Int))] fun TA => ?_
  refine W.seq ?_
  refine W.seq (W.region ?_)
  iterate 2 refine RW.v ?_
  refine RW.vop (v := .int .u8 ((firstT (bs.getD 0 0).toNat % 8 : Nat) : Int)) (by kernel_rfl) (by kernel_rfl) (vop_fastBin rfl rfl rfl (first_and _)) (by kernel_rfl) ?_
  refine RW.valE (v' := .int .i64 ((firstT (bs.getD 0 0).toNat % 8 : Nat) : Int)) (by kernel_rfl) (by kernel_rfl) rfl (congrArg (Value.int .i64) (wrap_in (by omega) (by omega))) (by kernel_rfl) ?_
  refine RW.v ?_
  refine RW.nil ?_
  refine W.rg [(0, v), (3, .int .i64 (bs.length : Int)), (4, .int .u8 ((firstT (bs.getD 0 0).toNat : Nat) : Int)), (19, .bool (decide ((bs.length : Int) ≥ ((firstT (bs.getD 0 0).toNat % 8 : Nat) : Int))))] fun TA => ?_
  refine W.cond rfl (fun hc11 => ?_) (fun hc11 => ?_)
  ·have hc11b := hc11
   have hc11 := of_decide_eq_true hc11
   refine W.seq (W.region ?_)
   refine RW.v ?_
   refine RW.nil ?_
   refine W.ret ?_
   refine seqQ_ret ?_
   refine endG (by rfl) (by exact resL_tmp rfl) ?_
   refine ⟨?_, H⟩
   have ef : fullL bs = true := by
    unfold fullL full4
    repeat' split
    all_goals first | rfl | (exfalso; omega)
   exact Eq.trans rfl (congrArg Value.bool ef.symm)
  ·have hc11b := hc11
   have hc11 := of_decide_eq_false hc11
   refine W.skip ?_
   refine W.seq (W.region ?_)
   refine RW.v ?_
   refine RW.vop (v := .int .u8 ((firstT (bs.getD 0 0).toNat / 16 : Nat) : Int)) (by kernel_rfl) (by kernel_rfl) (vop_fastSh rfl rfl rfl (first_shr _)) (by kernel_rfl) ?_
   obtain ⟨tb, gb, hU2⟩ := hU.2
   obtain ⟨r12, r12e⟩ : ∃ r : Row, r = ⟨accL, tb, gb⟩ := ⟨_, rfl⟩
   have hF13 : F 1 = some (.row r12) := r12e ▸ hU2
   obtain ⟨q15, q15e⟩ : ∃ q : Nat, q = (firstT (bs.getD 0 0).toNat / 16) * 2 := ⟨_, rfl⟩
   have hE14 : (r12.cs.drop q15).take 2 = [.int .u8 ((accLo (firstT (bs.getD 0 0).toNat / 16) : Nat) : Int), .int .u8 ((accHi (firstT (bs.getD 0 0).toNat / 16) : Nat) : Int)] := by rw [r12e, q15e]; exact (acc_at (first_16 _))
   refine RW.vop (v := .pointer (some ⟨1, q15, none⟩)) (by kernel_rfl) (opnd_glob rfl rfl (by omega)) (vop_indexAddr rfl (by rw [q15e]; exact idx_arr (e := 98) (s := 2) (n := 16) (i := firstT (bs.getD 0 0).toNat / 16) (by kernel_rfl) (by kernel_rfl) (first_16 _))) (by kernel_rfl) ?_
   refine RW.loads 2 (by kernel_rfl) (by kernel_rfl) rfl rfl (H.old _ _ hF13) hE14 rfl (by kernel_rfl) ?_
   refine RW.mk H (.row ⟨[.int .u8 0, .int .u8 0], 98, false⟩) ?_
   clear H; intro _ b16 _ H
   refine RW.st H 0 [.int .u8 ((accLo (firstT (bs.getD 0 0).toNat / 16) : Nat) : Int), .int .u8 ((accHi (firstT (bs.getD 0 0).toNat / 16) : Nat) : Int)] [.int .u8 ((accLo (firstT (bs.getD 0 0).toNat / 16) : Nat) : Int), .int .u8 ((accHi (firstT (bs.getD 0 0).toNat / 16) : Nat) : Int)] ?_
   clear H; intro _ _ H; dsimp only [setL, delL] at H
   refine RW.nil ?_
   refine W.rg [(0, v), (3, .int .i64 (bs.length : Int)), (5, .pointer (some ⟨b16, 0, none⟩))] fun TA => ?_
   refine W.seq ?_
   refine W.seq ?_
   refine W.drawn (by kernel_rfl) (by kernel_rfl) H.gn ?_
   have H17 := H
   iterate 3 refine RW.v ?_
   refine RW.both _ _ rfl rfl rfl (fun hc18 => ?_) (fun hc18 => ?_)
   ·have hc18b := hc18
    have hc18 := of_decide_eq_true hc18
    refine RW.val (by rfl) (by kernel_rfl) rfl (by kernel_rfl) ?_
    refine RW.idxF hs (by rfl) (by kernel_rfl) rfl Tryd.underlying43 (by kernel_rfl) rfl rfl ⟨by omega, by omega⟩ (by kernel_rfl) ?_
    intro b19 q20 r21 hF22 hE23
    rw [bytes_atC (l := bs) (j := 1) (i := 1) rfl (by omega)] at hE23
    refine RW.loads 1 (by rfl) (by kernel_rfl) rfl rfl (H17.old _ _ hF22) hE23 rfl (by kernel_rfl) ?_
    refine RW.val (by rfl) (by kernel_rfl) rfl (by kernel_rfl) ?_
    refine RW.ldL H17 0 1 (by rfl) (by kernel_rfl) rfl rfl rfl rfl rfl (by kernel_rfl) ?_
    refine RW.val (by rfl) (by kernel_rfl) rfl (by kernel_rfl) ?_
    refine RW.val (by rfl) (by kernel_rfl) rfl (by kernel_rfl) ?_
    refine RW.both _ _ rfl rfl rfl (fun hc24 => ?_) (fun hc24 => ?_)
    ·have hc24b := hc24
     have hc24 := of_decide_eq_true hc24
     refine RW.skip (by rfl) (by kernel_rfl) ?_
     refine RW.skip (by rfl) (by kernel_rfl) ?_
     refine RW.skip (by rfl) (by kernel_rfl) ?_
     refine RW.skip (by rfl) (by kernel_rfl) ?_
     refine RW.skip (by rfl) (by kernel_rfl) ?_
     refine RW.skip (by rfl) (by kernel_rfl) ?_
     refine RW.val (by rfl) (by kernel_rfl) rfl (by kernel_rfl) ?_
     refine RW.v ?_
     refine RW.nil ?_
     refine ⟨⟨by kernel_rfl, ⟨trivial, trivial, trivial, trivial, trivial, dyn_row (H17.old _ _ hF22) (H17.old _ _ hF22) ⟨fun h => Bool.noConfusion h, fun h => Bool.noConfusion h, fun h => Bool.noConfusion h, fun h => Bool.noConfusion h, fun h => Bool.noConfusion h, fun h => Bool.noConfusion h, fun h => Bool.noConfusion h, fun h => Bool.noConfusion h, fun h => Bool.noConfusion h, fun h => Bool.noConfusion h, fun h => Bool.noConfusion h, fun h => Bool.noConfusion h, fun h => Bool.noConfusion h, fun h => Bool.noConfusion h, fun h => Bool.noConfusion h, fun h => Bool.noConfusion h, fun h => Bool.noConfusion h, fun h => Bool.noConfusion h, trivial⟩, trivial, dyn_row (H17.get 0 rfl) (H17.get 0 rfl) ⟨fun h => Bool.noConfusion h, fun h => Bool.noConfusion h, fun h => Bool.noConfusion h, fun h => Bool.noConfusion h, fun h => Bool.noConfusion h, fun h => Bool.noConfusion h, fun h => Bool.noConfusion h, fun h => Bool.noConfusion h, fun h => Bool.noConfusion h, fun h => Bool.noConfusion h, fun h => Bool.noConfusion h, fun h => Bool.noConfusion h, fun h => Bool.noConfusion h, fun h => Bool.noConfusion h, fun h => Bool.noConfusion h, fun h => Bool.noConfusion h, fun h => Bool.noConfusion h, fun h => Bool.noConfusion h, trivial⟩, trivial, trivial, trivial, trivial, trivial, trivial, trivial, trivial, trivial, trivial, trivial⟩⟩, ?_⟩
     replace H := H17
     clear H17
     replace H := (H.del 0)
     dsimp only [setL, delL] at H
     refine W.c1 ?_
     refine W.seq (W.region ?_)
     refine RW.v ?_
     refine RW.nil ?_
     refine W.ret ?_
     refine seqQ_ret ?_
     refine endG (by rfl) (by exact resL_tmp rfl) ?_
     refine ⟨?_, H⟩
     have ef : fullL bs = true := by
      unfold fullL full4
      repeat' split
      all_goals first | rfl | (exfalso; omega)
     exact Eq.trans rfl (congrArg Value.bool ef.symm)
    ·have hc24b := hc24
     have hc24 := of_decide_eq_false hc24
     refine RW.val (by rfl) (by kernel_rfl) rfl (by kernel_rfl) ?_
     refine RW.ldL H17 0 1 (by rfl) (by kernel_rfl) rfl rfl rfl rfl rfl (by kernel_rfl) ?_
     refine RW.val (by rfl) (by kernel_rfl) rfl (by kernel_rfl) ?_
     refine RW.idxF hs (by rfl) (by kernel_rfl) rfl Tryd.underlying43 (by kernel_rfl) rfl rfl ⟨by omega, by omega⟩ (by kernel_rfl) ?_
     intro b25 q26 r27 hF28 hE29
     rw [bytes_atC (l := bs) (j := 1) (i := 1) rfl (by omega)] at hE29
     refine RW.loads 1 (by rfl) (by kernel_rfl) rfl rfl (H17.old _ _ hF28) hE29 rfl (by kernel_rfl) ?_
     refine RW.val (by rfl) (by kernel_rfl) rfl (by kernel_rfl) ?_
     refine RW.val (by rfl) (by kernel_rfl) rfl (by kernel_rfl) ?_
     refine RW.v ?_
     refine RW.nil ?_
     refine ⟨⟨by kernel_rfl, ⟨trivial, trivial, trivial, trivial, trivial, dyn_row (H17.old _ _ hF22) (H17.old _ _ hF22) ⟨fun h => Bool.noConfusion h, fun h => Bool.noConfusion h, fun h => Bool.noConfusion h, fun h => Bool.noConfusion h, fun h => Bool.noConfusion h, fun h => Bool.noConfusion h, fun h => Bool.noConfusion h, fun h => Bool.noConfusion h, fun h => Bool.noConfusion h, fun h => Bool.noConfusion h, fun h => Bool.noConfusion h, fun h => Bool.noConfusion h, fun h => Bool.noConfusion h, fun h => Bool.noConfusion h, fun h => Bool.noConfusion h, fun h => Bool.noConfusion h, fun h => Bool.noConfusion h, fun h => Bool.noConfusion h, trivial⟩, trivial, dyn_row (H17.get 0 rfl) (H17.get 0 rfl) ⟨fun h => Bool.noConfusion h, fun h => Bool.noConfusion h, fun h => Bool.noConfusion h, fun h => Bool.noConfusion h, fun h => Bool.noConfusion h, fun h => Bool.noConfusion h, fun h => Bool.noConfusion h, fun h => Bool.noConfusion h, fun h => Bool.noConfusion h, fun h => Bool.noConfusion h, fun h => Bool.noConfusion h, fun h => Bool.noConfusion h, fun h => Bool.noConfusion h, fun h => Bool.noConfusion h, fun h => Bool.noConfusion h, fun h => Bool.noConfusion h, fun h => Bool.noConfusion h, fun h => Bool.noConfusion h, trivial⟩, trivial, trivial, trivial, dyn_row (H17.get 0 rfl) (H17.get 0 rfl) ⟨fun h => Bool.noConfusion h, fun h => Bool.noConfusion h, fun h => Bool.noConfusion h, fun h => Bool.noConfusion h, fun h => Bool.noConfusion h, fun h => Bool.noConfusion h, fun h => Bool.noConfusion h, fun h => Bool.noConfusion h, fun h => Bool.noConfusion h, fun h => Bool.noConfusion h, fun h => Bool.noConfusion h, fun h => Bool.noConfusion h, fun h => Bool.noConfusion h, fun h => Bool.noConfusion h, fun h => Bool.noConfusion h, fun h => Bool.noConfusion h, fun h => Bool.noConfusion h, fun h => Bool.noConfusion h, trivial⟩, trivial, trivial, dyn_row (H17.old _ _ hF28) (H17.old _ _ hF28) ⟨fun h => Bool.noConfusion h, fun h => Bool.noConfusion h, fun h => Bool.noConfusion h, fun h => Bool.noConfusion h, fun h => Bool.noConfusion h, fun h => Bool.noConfusion h, fun h => Bool.noConfusion h, fun h => Bool.noConfusion h, fun h => Bool.noConfusion h, fun h => Bool.noConfusion h, fun h => Bool.noConfusion h, fun h => Bool.noConfusion h, fun h => Bool.noConfusion h, fun h => Bool.noConfusion h, fun h => Bool.noConfusion h, fun h => Bool.noConfusion h, fun h => Bool.noConfusion h, fun h => Bool.noConfusion h, trivial⟩, trivial, trivial, trivial, trivial⟩⟩, ?_⟩
     replace H := H17
     clear H17
     replace H := (H.del 0)
     dsimp only [setL, delL] at H
     refine W.rg [(0, v), (3, .int .i64 (bs.length : Int)), (41, .bool (decide (((accHi (firstT (bs.getD 0 0).toNat / 16) : Nat) : Int) < (((bs).getD 1 0).toNat : Int))))] fun TA => ?_
     refine W.cond rfl (fun hc30 => ?_) (fun hc30 => ?_)
     ·have hc30b := hc30
      have hc30 := of_decide_eq_true hc30
      refine W.seq (W.region ?_)
      refine RW.v ?_
      refine RW.nil ?_
      refine W.ret ?_
      refine seqQ_ret ?_
      refine endG (by rfl) (by exact resL_tmp rfl) ?_
      refine ⟨?_, H⟩
      have ef : fullL bs = true := by
       unfold fullL full4
       repeat' split
       all_goals first | rfl | (exfalso; omega)
      exact Eq.trans rfl (congrArg Value.bool ef.symm)
     ·have hc30b := hc30
      have hc30 := of_decide_eq_false hc30
      refine W.seq (W.region ?_)
      iterate 3 refine RW.v ?_
      refine RW.both _ _ rfl rfl rfl (fun hc31 => ?_) (fun hc31 => ?_)
      ·have hc31b := hc31
       have hc31 := of_decide_eq_true hc31
       refine RW.val (by rfl) (by kernel_rfl) rfl (by kernel_rfl) ?_
       refine RW.idxF hs (by rfl) (by kernel_rfl) rfl Tryd.underlying43 (by kernel_rfl) rfl rfl ⟨by omega, by omega⟩ (by kernel_rfl) ?_
       intro b32 q33 r34 hF35 hE36
       rw [bytes_atC (l := bs) (j := 2) (i := 2) rfl (by omega)] at hE36
       refine RW.loads 1 (by rfl) (by kernel_rfl) rfl rfl (H.old _ _ hF35) hE36 rfl (by kernel_rfl) ?_
       refine RW.val (by rfl) (by kernel_rfl) rfl (by kernel_rfl) ?_
       refine RW.val (by rfl) (by kernel_rfl) rfl (by kernel_rfl) ?_
       refine RW.both _ _ rfl rfl rfl (fun hc37 => ?_) (fun hc37 => ?_)
       ·have hc37b := hc37
        have hc37 := of_decide_eq_true hc37
        refine RW.skip (by rfl) (by kernel_rfl) ?_
        refine RW.skip (by rfl) (by kernel_rfl) ?_
        refine RW.skip (by rfl) (by kernel_rfl) ?_
        refine RW.skip (by rfl) (by kernel_rfl) ?_
        refine RW.val (by rfl) (by kernel_rfl) rfl (by kernel_rfl) ?_
        refine RW.v ?_
        refine RW.nil ?_
        refine W.c1 ?_
        refine W.seq (W.region ?_)
        refine RW.v ?_
        refine RW.nil ?_
        refine W.ret ?_
        refine seqQ_ret ?_
        refine endG (by rfl) (by exact resL_tmp rfl) ?_
        refine ⟨?_, H⟩
        have ef : fullL bs = true := by
         unfold fullL full4
         repeat' split
         all_goals first | rfl | (exfalso; omega)
        exact Eq.trans rfl (congrArg Value.bool ef.symm)
       ·have hc37b := hc37
        have hc37 := of_decide_eq_false hc37
        refine RW.val (by rfl) (by kernel_rfl) rfl (by kernel_rfl) ?_
        refine RW.idxF hs (by rfl) (by kernel_rfl) rfl Tryd.underlying43 (by kernel_rfl) rfl rfl ⟨by omega, by omega⟩ (by kernel_rfl) ?_
        intro b38 q39 r40 hF41 hE42
        rw [bytes_atC (l := bs) (j := 2) (i := 2) rfl (by omega)] at hE42
        refine RW.loads 1 (by rfl) (by kernel_rfl) rfl rfl (H.old _ _ hF41) hE42 rfl (by kernel_rfl) ?_
        refine RW.val (by rfl) (by kernel_rfl) rfl (by kernel_rfl) ?_
        refine RW.val (by rfl) (by kernel_rfl) rfl (by kernel_rfl) ?_
        refine RW.v ?_
        refine RW.nil ?_
        refine W.rg [(55, .bool (decide (191 < (((bs).getD 2 0).toNat : Int))))] fun TA => ?_
        refine W.cond rfl (fun hc43 => ?_) (fun hc43 => ?_)
        ·have hc43b := hc43
         have hc43 := of_decide_eq_true hc43
         refine W.seq (W.region ?_)
         refine RW.v ?_
         refine RW.nil ?_
         refine W.ret ?_
         refine seqQ_ret ?_
         refine endG (by rfl) (by exact resL_tmp rfl) ?_
         refine ⟨?_, H⟩
         have ef : fullL bs = true := by
          unfold fullL full4
          repeat' split
          all_goals first | rfl | (exfalso; omega)
         exact Eq.trans rfl (congrArg Value.bool ef.symm)
        ·have hc43b := hc43
         have hc43 := of_decide_eq_false hc43
         refine W.skip ?_
         refine W.seq (W.region ?_)
         refine RW.v ?_
         refine RW.nil ?_
         refine W.ret ?_
         refine endG (by rfl) (by exact resL_tmp rfl) ?_
         refine ⟨?_, H⟩
         have ef : fullL bs = false := by
          unfold fullL full4
          repeat' split
          all_goals first | rfl | (exfalso; omega)
         exact Eq.trans rfl (congrArg Value.bool ef.symm)
      ·have hc31b := hc31
       have hc31 := of_decide_eq_false hc31
       refine RW.skip (by rfl) (by kernel_rfl) ?_
       refine RW.skip (by rfl) (by kernel_rfl) ?_
       refine RW.skip (by rfl) (by kernel_rfl) ?_
       refine RW.skip (by rfl) (by kernel_rfl) ?_
       refine RW.skip (by rfl) (by kernel_rfl) ?_
       refine RW.skip (by rfl) (by kernel_rfl) ?_
       refine RW.skip (by rfl) (by kernel_rfl) ?_
       refine RW.skip (by rfl) (by kernel_rfl) ?_
       refine RW.skip (by rfl) (by kernel_rfl) ?_
       refine RW.skip (by rfl) (by kernel_rfl) ?_
       refine RW.v ?_
       refine RW.nil ?_
       refine W.c0 ?_
       refine W.skip ?_
       refine W.seq (W.region ?_)
       refine RW.v ?_
       refine RW.nil ?_
       refine W.ret ?_
       refine endG (by rfl) (by exact resL_tmp rfl) ?_
       refine ⟨?_, H⟩
       have ef : fullL bs = false := by
        unfold fullL full4
        repeat' split
        all_goals first | rfl | (exfalso; omega)
       exact Eq.trans rfl (congrArg Value.bool ef.symm)
   ·have hc18b := hc18
    have hc18 := of_decide_eq_false hc18
    refine RW.skip (by rfl) (by kernel_rfl) ?_
    refine RW.skip (by rfl) (by kernel_rfl) ?_
    refine RW.skip (by rfl) (by kernel_rfl) ?_
    refine RW.skip (by rfl) (by kernel_rfl) ?_
    refine RW.skip (by rfl) (by kernel_rfl) ?_
    refine RW.skip (by rfl) (by kernel_rfl) ?_
    refine RW.skip (by rfl) (by kernel_rfl) ?_
    refine RW.skip (by rfl) (by kernel_rfl) ?_
    refine RW.skip (by rfl) (by kernel_rfl) ?_
    refine RW.skip (by rfl) (by kernel_rfl) ?_
    refine RW.skip (by rfl) (by kernel_rfl) ?_
    refine RW.skip (by rfl) (by kernel_rfl) ?_
    refine RW.skip (by rfl) (by kernel_rfl) ?_
    refine RW.skip (by rfl) (by kernel_rfl) ?_
    refine RW.v ?_
    refine RW.nil ?_
    refine ⟨⟨by kernel_rfl, ⟨trivial, trivial, trivial, trivial, trivial, trivial, trivial, trivial, trivial, trivial, trivial, trivial, trivial, trivial, trivial, trivial, trivial, trivial, trivial⟩⟩, ?_⟩
    replace H := H17
    clear H17
    replace H := (H.del 0)
    dsimp only [setL, delL] at H
    refine W.c0 ?_
    refine W.seq (W.region ?_)
    iterate 3 refine RW.v ?_
    refine RW.both _ _ rfl rfl rfl (fun hc44 => ?_) (fun hc44 => ?_)
    ·have hc44b := hc44
     have hc44 := of_decide_eq_true hc44
     refine RW.val (by rfl) (by kernel_rfl) rfl (by kernel_rfl) ?_
     refine RW.idxF hs (by rfl) (by kernel_rfl) rfl Tryd.underlying43 (by kernel_rfl) rfl rfl ⟨by omega, by omega⟩ (by kernel_rfl) ?_
     intro b45 q46 r47 hF48 hE49
     rw [bytes_atC (l := bs) (j := 2) (i := 2) rfl (by omega)] at hE49
     refine RW.loads 1 (by rfl) (by kernel_rfl) rfl rfl (H.old _ _ hF48) hE49 rfl (by kernel_rfl) ?_
     refine RW.val (by rfl) (by kernel_rfl) rfl (by kernel_rfl) ?_
     refine RW.val (by rfl) (by kernel_rfl) rfl (by kernel_rfl) ?_
     refine RW.both _ _ rfl rfl rfl (fun hc50 => ?_) (fun hc50 => ?_)
     ·have hc50b := hc50
      have hc50 := of_decide_eq_true hc50
      refine RW.skip (by rfl) (by kernel_rfl) ?_
      refine RW.skip (by rfl) (by kernel_rfl) ?_
      refine RW.skip (by rfl) (by kernel_rfl) ?_
      refine RW.skip (by rfl) (by kernel_rfl) ?_
      refine RW.val (by rfl) (by kernel_rfl) rfl (by kernel_rfl) ?_
      refine RW.v ?_
      refine RW.nil ?_
      refine W.c1 ?_
      refine W.seq (W.region ?_)
      refine RW.v ?_
      refine RW.nil ?_
      refine W.ret ?_
      refine seqQ_ret ?_
      refine endG (by rfl) (by exact resL_tmp rfl) ?_
      refine ⟨?_, H⟩
      have ef : fullL bs = true := by
       unfold fullL full4
       repeat' split
       all_goals first | rfl | (exfalso; omega)
      exact Eq.trans rfl (congrArg Value.bool ef.symm)
     ·have hc50b := hc50
      have hc50 := of_decide_eq_false hc50
      refine RW.val (by rfl) (by kernel_rfl) rfl (by kernel_rfl) ?_
      refine RW.idxF hs (by rfl) (by kernel_rfl) rfl Tryd.underlying43 (by kernel_rfl) rfl rfl ⟨by omega, by omega⟩ (by kernel_rfl) ?_
      intro b51 q52 r53 hF54 hE55
      rw [bytes_atC (l := bs) (j := 2) (i := 2) rfl (by omega)] at hE55
      refine RW.loads 1 (by rfl) (by kernel_rfl) rfl rfl (H.old _ _ hF54) hE55 rfl (by kernel_rfl) ?_
      refine RW.val (by rfl) (by kernel_rfl) rfl (by kernel_rfl) ?_
      refine RW.val (by rfl) (by kernel_rfl) rfl (by kernel_rfl) ?_
      refine RW.v ?_
      refine RW.nil ?_
      refine W.rg [(55, .bool (decide (191 < (((bs).getD 2 0).toNat : Int))))] fun TA => ?_
      refine W.cond rfl (fun hc56 => ?_) (fun hc56 => ?_)
      ·have hc56b := hc56
       have hc56 := of_decide_eq_true hc56
       refine W.seq (W.region ?_)
       refine RW.v ?_
       refine RW.nil ?_
       refine W.ret ?_
       refine seqQ_ret ?_
       refine endG (by rfl) (by exact resL_tmp rfl) ?_
       refine ⟨?_, H⟩
       have ef : fullL bs = true := by
        unfold fullL full4
        repeat' split
        all_goals first | rfl | (exfalso; omega)
       exact Eq.trans rfl (congrArg Value.bool ef.symm)
      ·have hc56b := hc56
       have hc56 := of_decide_eq_false hc56
       refine W.skip ?_
       refine W.seq (W.region ?_)
       refine RW.v ?_
       refine RW.nil ?_
       refine W.ret ?_
       refine endG (by rfl) (by exact resL_tmp rfl) ?_
       refine ⟨?_, H⟩
       have ef : fullL bs = false := by
        unfold fullL full4
        repeat' split
        all_goals first | rfl | (exfalso; omega)
       exact Eq.trans rfl (congrArg Value.bool ef.symm)
    ·have hc44b := hc44
     have hc44 := of_decide_eq_false hc44
     refine RW.skip (by rfl) (by kernel_rfl) ?_
     refine RW.skip (by rfl) (by kernel_rfl) ?_
     refine RW.skip (by rfl) (by kernel_rfl) ?_
     refine RW.skip (by rfl) (by kernel_rfl) ?_
     refine RW.skip (by rfl) (by kernel_rfl) ?_
     refine RW.skip (by rfl) (by kernel_rfl) ?_
     refine RW.skip (by rfl) (by kernel_rfl) ?_
     refine RW.skip (by rfl) (by kernel_rfl) ?_
     refine RW.skip (by rfl) (by kernel_rfl) ?_
     refine RW.skip (by rfl) (by kernel_rfl) ?_
     refine RW.v ?_
     refine RW.nil ?_
     refine W.c0 ?_
     refine W.skip ?_
     refine W.seq (W.region ?_)
     refine RW.v ?_
     refine RW.nil ?_
     refine W.ret ?_
     refine endG (by rfl) (by exact resL_tmp rfl) ?_
     refine ⟨?_, H⟩
     have ef : fullL bs = false := by
      unfold fullL full4
      repeat' split
      all_goals first | rfl | (exfalso; omega)
     exact Eq.trans rfl (congrArg Value.bool ef.symm)
end
end Go.Proofs.YtpjpefcpbkmilaaDoor
namespace Go.Proofs.YtpjpefcpbkmilaaDoor
open Go.Lib
set_option maxRecDepth 100000
def charR (l : List UInt8) : Int × Int := if fullL l = true then (if (decodeL l).1 = 65533 ∧ (decodeL l).2 = 1 then (-1, 1) else (((decodeL l).1 : Int), ((decodeL l).2 : Int))) else (-1, 0)
theorem dec_le4 (l : List UInt8) : (decodeL l).2 ≤ 4 := by
 rw [decodeL_N]
 unfold decodeN
 repeat' split
 all_goals (dsimp only; omega)
section
variable {G : Nat} {A : Abs} {σ : Mem} {F : Nat → Option Blk2} {L : List Ent}
set_option maxHeartbeats 4000000 in
theorem char_wc {bs : List UInt8} {v : Value} (hU : U8F F) (h16 : 16 ≤ G) (hs : SlF F 1 v bs.length (bs.map byteV)) (h0 : bs ≠ []) (hn : bs.length ≤ 1000000) (H : Lies G A F σ L) : WC G Tryd.prog 40 #[v] σ fun r σ' => r = .tuple #[.int .i64 (charR bs).1, .int .i64 (charR bs).2] ∧ Lies G A F σ' L := by
 obtain ⟨d0, d1, _⟩ := chB_iff.1 (dec_ch bs)
 have d2 : (decodeL bs).2 ≤ 4 := dec_le4 bs
 refine WC.enter (fn := Tryd.f40) Tryd.func40 rfl ?_
 refine W.rg [(0, v)] fun TA => ?_
 refine W.seq (W.region ?_)
 iterate 2 refine RW.v ?_
 refine RW.nil ?_
 refine W.rg [(0, v)] fun TA => ?_
 refine W.seq ?_
 refine W.seq (W.region ?_)
 refine RW.v ?_
 refine RW.cl ?_
 refine ((full_wc hU h16 hs hn H).mono ?_)
 clear H
 rintro _ _ ⟨rfl, H⟩
 rcases hf : fullL bs with _ | _
 ·refine RW.v ?_
  refine RW.nil ?_
  refine W.c1 ?_
  refine W.seq (W.region ?_)
  iterate 2 refine RW.v ?_
  refine RW.nil ?_
  refine W.ret ?_
  refine seqQ_ret ?_
  refine endG (by rfl) (by exact resL_tmp (by exact resL_tmp rfl)) ?_
  have ec : charR bs = ((-1), 0) := by unfold charR; rw [hf]; rfl
  rw [ec]
  exact ⟨rfl, H⟩
 ·refine RW.v ?_
  refine RW.nil ?_
  refine W.c0 ?_
  refine W.skip ?_
  refine W.seq (W.region ?_)
  refine RW.v ?_
  refine RW.cl ?_
  refine ⟨_, _, (s_decode (hU.le H.old) h16 (hs.le H.old) h0), ?_⟩
  iterate 5 refine RW.v ?_
  refine RW.nil ?_
  refine W.rg [(4, .int .i32 ((decodeL bs).1 : Int)), (5, .int .i64 ((decodeL bs).2 : Int))] fun TA => ?_
  refine W.seq ?_
  refine W.seq (W.region ?_)
  iterate 3 refine RW.v ?_
  refine RW.both _ _ rfl rfl rfl (fun hc1 => ?_) (fun hc1 => ?_)
  ·have hc1b := hc1
   have hc1 := eq_of_beq hc1
   refine RW.val (by rfl) (by kernel_rfl) rfl (by kernel_rfl) ?_
   refine RW.val (by rfl) (by kernel_rfl) rfl (by kernel_rfl) ?_
   refine RW.v ?_
   refine RW.nil ?_
   refine W.rg [(4, .int .i32 ((decodeL bs).1 : Int)), (5, .int .i64 ((decodeL bs).2 : Int)), (19, .bool (((decodeL bs).2 : Int) == 1))] fun TA => ?_
   refine W.cond rfl (fun hc2 => ?_) (fun hc2 => ?_)
   ·have hc2b := hc2
    have hc2 := eq_of_beq hc2
    refine W.seq (W.region ?_)
    iterate 2 refine RW.v ?_
    refine RW.nil ?_
    refine W.ret ?_
    refine seqQ_ret ?_
    refine endG (by rfl) (by exact resL_tmp (by exact resL_tmp rfl)) ?_
    have ec : charR bs = ((-1), 1) := by unfold charR; rw [hf, if_pos rfl, if_pos ⟨by omega, by omega⟩]
    rw [ec]
    exact ⟨rfl, H⟩
   ·have hc2b := hc2
    have hc2 := ne_of_beq_false hc2
    refine W.skip ?_
    refine W.seq (W.region ?_)
    refine RW.v ?_
    refine RW.valE (v' := .int .i64 ((decodeL bs).1 : Int)) (by kernel_rfl) (by kernel_rfl) rfl (congrArg (Value.int .i64) (wrap_in (by omega) (by omega))) (by kernel_rfl) ?_
    iterate 3 refine RW.v ?_
    refine RW.nil ?_
    refine W.ret ?_
    refine endG (by rfl) (by exact resL_tmp (by exact resL_tmp rfl)) ?_
    have ec : charR bs = (((decodeL bs).1 : Int), ((decodeL bs).2 : Int)) := by unfold charR; rw [hf, if_pos rfl, if_neg (by omega)]
    rw [ec]
    exact ⟨rfl, H⟩
  ·have hc1b := hc1
   have hc1 := ne_of_beq_false hc1
   refine RW.skip (by rfl) (by kernel_rfl) ?_
   refine RW.skip (by rfl) (by kernel_rfl) ?_
   refine RW.v ?_
   refine RW.nil ?_
   refine W.c0 ?_
   refine W.skip ?_
   refine W.seq (W.region ?_)
   refine RW.v ?_
   refine RW.valE (v' := .int .i64 ((decodeL bs).1 : Int)) (by kernel_rfl) (by kernel_rfl) rfl (congrArg (Value.int .i64) (wrap_in (by omega) (by omega))) (by kernel_rfl) ?_
   iterate 3 refine RW.v ?_
   refine RW.nil ?_
   refine W.ret ?_
   refine endG (by rfl) (by exact resL_tmp (by exact resL_tmp rfl)) ?_
   have ec : charR bs = (((decodeL bs).1 : Int), ((decodeL bs).2 : Int)) := by unfold charR; rw [hf, if_pos rfl, if_neg (by omega)]
   rw [ec]
   exact ⟨rfl, H⟩
end
end Go.Proofs.YtpjpefcpbkmilaaDoor
namespace Go.Proofs.YtpjpefcpbkmilaaDoor
open Go.Lib
set_option maxRecDepth 100000
theorem isB_of {c : Int} (hc : chB c = true) : IsB c := by
 obtain ⟨c0, c1, c2⟩ := chB_iff.1 hc
 exact .inl ⟨c0, c1, by omega⟩
section
variable {G : Nat} {A : Abs} {σ : Mem} {F : Nat → Option Blk2} {L : List Ent}
end
end Go.Proofs.YtpjpefcpbkmilaaDoor
