/-
  Characters of strings and strings of characters by conversion; maps whose keys are open strings. Over any program. Conditions: none.
  Completion by prefixes in plain words. Plain. Conditions: none.
  Characters compared. Conditions: none.
-/
import Derived.Test.YthemeeiedlbhkaaDoorL3
import Derived.Test.YthemeeiedlbhkaaDoorK1
import Derived.Test.YthemeeiedlbhkaaDoorL4
import Derived.Test.YthemeeiedlbhkaaDoorS4
namespace Go.Proofs.YthemeeiedlbhkaaDoor
open Go.Lib
set_option maxRecDepth 100000
def runeV (c : Int) : Value := .int .i32 c
theorem from_runes (bs : List UInt8) : ∀ (n i : Nat) (acc : Array Value), (bs.drop i).length ≤ n → (Conv.runesFrom ⟨bs.toArray⟩ n i acc).toList = acc.toList ++ (runes (bs.drop i)).map runeV
 | 0, i, acc, h => by
  rw [List.eq_nil_of_length_eq_zero (Nat.le_zero.1 h)]
  show acc.toList = acc.toList ++ []
  rw [List.append_nil]
 | n + 1, i, acc, h => by
  unfold Conv.runesFrom
  rw [List.length_drop] at h
  by_cases hi : i < bs.length
  ·rw [if_pos (show i < (⟨bs.toArray⟩ : ByteArray).size from hi), dec_list]
   have hw := decodeL_width (bs.drop i)
   show (Conv.runesFrom ⟨bs.toArray⟩ n (i + (decodeL (bs.drop i)).2) (acc.push (.int .i32 (Int.ofNat (decodeL (bs.drop i)).1)))).toList = _
   rw [from_runes bs n _ _ (by rw [List.length_drop]; omega), runes_dr hi, Array.toList_push, List.append_assoc]
   rfl
  ·rw [if_neg (show ¬ i < (⟨bs.toArray⟩ : ByteArray).size from hi), runes_end (by omega), List.map_nil, List.append_nil]
theorem convF_runes {P : Program} {src dst e : TypeId} (hs : uT P src = some .string) (hd : uT P dst = some (.slice e)) (he : uT P e = some (.int .i32)) {bs : List UInt8} (hl : bs.length ≤ 1000000) : convF P src dst ⟨bs.toArray⟩ = some (e, (runes bs).map runeV) := by
 have h := from_runes bs bs.length 0 #[] (by rw [List.drop_zero]; exact Nat.le_refl _)
 rw [List.drop_zero] at h
 have h : (Conv.runesFrom ⟨bs.toArray⟩ bs.length 0 #[]).toList = (runes bs).map runeV := h
 have hz : (Conv.runesFrom ⟨bs.toArray⟩ (⟨bs.toArray⟩ : ByteArray).size 0 #[]).size ≤ 1000000 := by
  show (Conv.runesFrom ⟨bs.toArray⟩ bs.length 0 #[]).size ≤ 1000000
  rw [← Array.length_toList, h, List.length_map]
  exact Nat.le_trans (runes_le bs) hl
 unfold convF
 rw [hs, hd]
 simp only [he]
 rw [if_pos hz]
 show some (e, (Conv.runesFrom ⟨bs.toArray⟩ bs.length 0 #[]).toList) = _
 rw [h]
theorem enc_utf {c : Int} (h : chB c = true) : (Utf8.encode c).data.toList = encodeRune c := by
 obtain ⟨r, rfl⟩ : ∃ r : Nat, c = (r : Int) := ⟨c.toNat, by unfold chB at h; simp at h; omega⟩
 have hb : r ≤ 1114111 ∧ (r < 55296 ∨ 57343 < r) := by unfold chB at h; simp at h; omega
 have v : Utf8.valid (r : Int) = true := by simp [Utf8.valid]; omega
 unfold encodeRune
 by_cases c1 : r < 128
 ·rw [encodeRuneZ_one (by omega) (by omega)]
  simp [Utf8.encode, v, c1]
 ·by_cases c2 : r < 2048
  ·have e : (Utf8.encode (r : Int)).data.toList = [UInt8.ofNat (192 + r / 64), UInt8.ofNat (128 + r % 64)] := by simp [Utf8.encode, v, c1, c2]
   rw [encodeRuneZ_two (by omega) (by omega), e]
   show _ = [UInt8.ofNat (192 + (r : Int) / 64).toNat, UInt8.ofNat (128 + (r : Int) % 64).toNat]
   rw [show (192 + (r : Int) / 64).toNat = 192 + r / 64 by omega, show (128 + (r : Int) % 64).toNat = 128 + r % 64 by omega]
  ·by_cases c3 : r < 65536
   ·have e : (Utf8.encode (r : Int)).data.toList = [UInt8.ofNat (224 + r / 4096), UInt8.ofNat (128 + r / 64 % 64), UInt8.ofNat (128 + r % 64)] := by simp [Utf8.encode, v, c1, c2, c3]
    rw [encodeRuneZ_three (by omega), e]
    show _ = [UInt8.ofNat (224 + (r : Int) / 4096).toNat, UInt8.ofNat (128 + (r : Int) / 64 % 64).toNat, UInt8.ofNat (128 + (r : Int) % 64).toNat]
    rw [show (224 + (r : Int) / 4096).toNat = 224 + r / 4096 by omega, show (128 + (r : Int) / 64 % 64).toNat = 128 + r / 64 % 64 by omega, show (128 + (r : Int) % 64).toNat = 128 + r % 64 by omega]
   ·have e : (Utf8.encode (r : Int)).data.toList = [UInt8.ofNat (240 + r / 262144), UInt8.ofNat (128 + r / 4096 % 64), UInt8.ofNat (128 + r / 64 % 64), UInt8.ofNat (128 + r % 64)] := by simp [Utf8.encode, v, c1, c2, c3]
    rw [encodeRuneZ_four (by omega) (by omega), e]
    show _ = [UInt8.ofNat (240 + (r : Int) / 262144).toNat, UInt8.ofNat (128 + (r : Int) / 4096 % 64).toNat, UInt8.ofNat (128 + (r : Int) / 64 % 64).toNat, UInt8.ofNat (128 + (r : Int) % 64).toNat]
    rw [show (240 + (r : Int) / 262144).toNat = 240 + r / 262144 by omega, show (128 + (r : Int) / 4096 % 64).toNat = 128 + r / 4096 % 64 by omega, show (128 + (r : Int) / 64 % 64).toNat = 128 + r / 64 % 64 by omega, show (128 + (r : Int) % 64).toNat = 128 + r % 64 by omega]
theorem runes_bytes : ∀ (cs : List Int) (s : ByteArray), (∀ c ∈ cs, chB c = true) → (cs.foldl (fun r n => r ++ Utf8.encode n) s).data.toList = s.data.toList ++ encA cs
 | [], s, _ => by
  show s.data.toList = s.data.toList ++ []
  rw [List.append_nil]
 | c :: cs, s, h => by
  rw [List.foldl_cons, runes_bytes cs _ fun x hx => h x (List.mem_cons_of_mem _ hx), ByteArray.data_append, Array.toList_append, enc_utf (h c (List.mem_cons_self ..)), encA_cons, List.append_assoc]
theorem numsF_runes : ∀ cs : List Int, numsF .i32 (cs.map runeV) = some cs
 | [] => rfl
 | c :: cs => by
  have h := numsF_runes cs
  simp only [List.map_cons]
  unfold numsF
  simp only [runeV, h]
  rfl
theorem backF_runes {P : Program} {src dst e : TypeId} (hs : uT P src = some (.slice e)) (he : uT P e = some (.int .i32)) (hd : uT P dst = some .string) {cs : List Int} (hc : ∀ c ∈ cs, chB c = true) : backF P src dst (cs.map runeV) = some ⟨(encA cs).toArray⟩ := by
 unfold backF
 rw [hs, hd]
 simp only [he, numsF_runes, Option.map_some]
 congr 1
 apply Go.WideShapes.bytes_inj
 unfold runesBytes
 rw [runes_bytes cs _ hc]
 simp
section
variable {P : Program} {G nt : Nat} {ops : Array Oper} {l : List Oper} {o : Oper} {ta : Nat → Value} {σ : Mem} {rs : List (Rec × Mem)} {A : Abs} {F : Nat → Option Blk2} {L : List Ent} {K : List (Rec × Mem) → (Nat → Value) → Mem → Prop}
set_option maxHeartbeats 8000000 in
theorem RW.convR (H : Lies G A F σ L) {src dst e : TypeId} {x : Operand} {bs : List UInt8} (hl : bs.length ≤ 1000000) (hw : wantedT ops ta o = true) (hk : opndOk G o = true) (ho : o.op = .convert src dst x) (hx : oper2 ta x = .string ⟨bs.toArray⟩) (hs : uT P src = some .string) (hdt : uT P dst = some (.slice e)) (he : uT P e = some (.int .i32)) (hd : dstOk nt o.dst = true)
    (h : ∀ σ' v', Lies G A F σ' (.sl e 1 v' (runes bs).length ((runes bs).map runeV) :: L) → RW G P nt ops l (putO ta o.dst v') σ' ((.eff v', σ) :: rs) K) : RW G P nt ops (o :: l) ta σ rs K :=
  RW.conv H hw hk ho hx (convF_runes hs hdt he hl) hd fun σ' v' H' => h σ' v' (by rw [List.length_map] at H'; exact H')
set_option maxHeartbeats 8000000 in
theorem RW.backR (H : Lies G A F σ L) {src dst e : TypeId} {x : Operand} {v : Value} {cs : List Int} (hv : SlF F 1 v cs.length (cs.map runeV)) (hc : ∀ c ∈ cs, chB c = true) (h0 : cs ≠ []) (hw : wantedT ops ta o = true) (hk : opndOk G o = true) (ho : o.op = .convert src dst x) (hx : oper2 ta x = v) (hs : uT P src = some (.slice e)) (he : uT P e = some (.int .i32)) (hdt : uT P dst = some .string) (hd : dstOk nt o.dst = true)
    (h : ∀ b p r, F b = some (.row r) → (r.cs.drop p).take cs.length = cs.map runeV → RW G P nt ops l (putO ta o.dst (.string ⟨(encA cs).toArray⟩)) σ ((.load b p (cs.map runeV) (.string ⟨(encA cs).toArray⟩), σ) :: rs) K) : RW G P nt ops (o :: l) ta σ rs K := by
  have hl : cs.length ≠ 0 := fun e => h0 (List.eq_nil_of_length_eq_zero e)
  have hb := backF_runes (P := P) hs he hdt hc
  generalize hn : cs.length = n at hv
  generalize hxs : cs.map runeV = xs at hv hb
  cases hv with
  | nil => exact absurd hn hl
  | void => exact absurd hn hl
  | some hr hlen hc2 =>
    rename_i b p c sp r
    obtain ⟨h1, h2⟩ := lop_back (P := P) (cs := xs) (s := ⟨(encA cs).toArray⟩) ho hx (by omega) (by rw [hlen, Nat.mul_one]) hb
    rw [Nat.mul_one] at hc2
    refine RW.op (r := .load b p xs (.string ⟨(encA cs).toArray⟩)) hw hk ⟨h1, rfl, h2, r, H.old _ _ hr, fun i y hy => ?_⟩ hd (hxs ▸ h b p r hr (by rw [hn, hxs]; exact hc2))
    rw [← hc2, List.getElem?_take] at hy
    split at hy
    · rw [List.getElem?_drop] at hy; exact hy
    · cases hy
end
section
variable {P : Program} {t kt et : TypeId} {k : List UInt8} {l : List (List UInt8)}
end
end Go.Proofs.YthemeeiedlbhkaaDoor
namespace Go.Proofs.YthemeeiedlbhkaaDoor
open Go.Lib
set_option maxRecDepth 100000
end Go.Proofs.YthemeeiedlbhkaaDoor
namespace Go.Proofs.YthemeeiedlbhkaaDoor
open Go.Lib
set_option maxRecDepth 100000
theorem runs_at {l : List Int} {j : Nat} {i : Int} (hi : i = ((j : Nat) : Int)) (h : j < l.length) : ((l.map runeV).drop (i.toNat * 1)).take 1 = [.int .i32 (l.getD j 0)] := by
 subst hi
 rw [Int.toNat_natCast, Nat.mul_one, List.getD_eq_getElem?_getD, List.getElem?_eq_getElem h, List.drop_eq_getElem_cons (by simpa using h)]
 simp [runeV]
theorem wrap_i32 {n : Int} (h0 : -2147483648 ≤ n) (h1 : n ≤ 2147483647) : IntKind.i32.wrap n = n := by
 simp [IntKind.wrap, IntKind.bits, IntKind.signed]
 omega
theorem dropD {α : Type} {l : List α} {i : Nat} {d : α} (h : i < l.length) : l.drop i = l.getD i d :: l.drop (i + 1) := by
 rw [List.drop_eq_getElem_cons h, List.getD_eq_getElem?_getD, List.getElem?_eq_getElem h]
 rfl
section
variable {G : Nat} {A : Abs} {σ : Mem} {F : Nat → Option Blk2} {L : List Ent} {fold : Bool} {a b : Int} {xs ys : List Int} {v1 v2 : Value}
end
end Go.Proofs.YthemeeiedlbhkaaDoor
