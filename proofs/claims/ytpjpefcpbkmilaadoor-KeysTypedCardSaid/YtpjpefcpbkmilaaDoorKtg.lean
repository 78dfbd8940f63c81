/-
 Self, Same, one character as text. Conditions: none.
-/
import Derived.Test.YtpjpefcpbkmilaaDoorK3
import Derived.Test.YtpjpefcpbkmilaaDoorRefTx
namespace Go.Proofs.YtpjpefcpbkmilaaDoor
open Go.Lib
set_option maxRecDepth 100000
def selfM (c : Int) : Int × Bool := if IsC c ∧ 32 ≤ c ∧ c ≠ 127 then (c, true) else (0, false)
theorem self_good {c : Int} (hc : chB c = true) : selfM c = (if 32 ≤ c ∧ c ≠ 127 then (c, true) else (0, false)) := by
 obtain ⟨c0, c1, c2⟩ := chB_iff.1 hc
 have hI : IsC c := ⟨c0, c1, by omega⟩
 unfold selfM
 by_cases h : 32 ≤ c ∧ c ≠ 127
 ·rw [if_pos ⟨hI, h⟩, if_pos h]
 ·rw [if_neg (fun k => h k.2), if_neg h]
theorem self_meta {c : Int} (hc : chB c = true) : selfM (c + 134217728) = (0, false) := by
 obtain ⟨c0, c1, c2⟩ := chB_iff.1 hc
 exact if_neg fun h => by have := h.1.2.1; omega
theorem gr_slk {G : Nat} {σ : Mem} {e s n : Nat} {v : Value} {xs : List Value} (h : GRow G σ e s v n xs) : SlK σ.get s v n xs := by
 cases h with
 | nil => exact .nil
 | row _ hr _ hc hl hx => exact .some hr (by rw [← hx, List.length_take, hc]; have := Nat.mul_le_mul_right s hl; omega) (by rw [List.drop_zero]; exact hx) hl (.inr rfl)
theorem gr_len {F : Nat → Option Blk2} {v : Value} {n : Nat} {l : List Int} (h : SlF F 1 v n (l.map (Value.int .i64))) (e : n = l.length) : SlF F 1 v l.length (l.map (Value.int .i64)) := e ▸ h
theorem slk_one {F : Nat → Option Blk2} {P : Program} {v : Value} {l : List Int} {i t e : Nat} (h : SlK F 1 v l.length (l.map (Value.int .i64))) (ht : uT P t = some (.slice e)) (hz : sizeT P e = some 1) (hi : i < l.length) (hi2 : i < 1000000) :
  ∃ v', sliceF P t v (some (.int .i64 ((i : Nat) : Int))) (some (.int .i64 (((i : Nat) : Int) + 1))) none = some v' ∧ SlK F 1 v' 1 ([l.getD i 0].map (Value.int .i64)) := by
 generalize hxs : l.map (Value.int .i64) = xs at h
 generalize hn : l.length = n at h hi
 cases h with
 | nil => exact absurd hi (Nat.not_lt_zero _)
 | some hr hx hc hle hsp =>
  rename_i b p c sp r
  have h1 : boundF (some (.int .i64 (((i : Nat) : Int) + 1))) n c = some (i + 1) := by
   simp only [boundF]
   rw [if_pos (by omega)]
   congr 1
  have h2 : boundF (some (.int .i64 ((i : Nat) : Int))) 0 (i + 1) = some i := by
   simp only [boundF]
   rw [if_pos (by omega), Int.toNat_natCast]
  have hone : ((r.cs.drop (p + i * 1)).take (1 * 1)) = [l.getD i 0].map (Value.int .i64) := by
   have e1 : ((r.cs.drop p).take (n * 1)).drop i = xs.drop i := by rw [hc]
   rw [Nat.mul_one, List.drop_take, List.drop_drop] at e1
   rw [Nat.mul_one, Nat.mul_one]
   have e2 : ((r.cs.drop (p + i)).take (n - i)).take 1 = (xs.drop i).take 1 := by rw [e1]
   have e3 : (xs.drop i).take 1 = [l.getD i 0].map (Value.int .i64) := by
    rw [← hxs, List.drop_eq_getElem_cons (by rw [List.length_map]; omega), List.getElem_map, List.getD_eq_getElem?_getD, List.getElem?_eq_getElem (by omega)]
    rfl
   rw [List.take_take, Nat.min_eq_left (by omega), e3] at e2
   exact e2
  refine ⟨.slice (some (if c = i then ⟨b, p, sp⟩ else ⟨b, p + i * 1, sp⟩)) (i + 1 - i) (c - i), ?_, ?_⟩
  ·simp only [sliceF, ht, hz, h1, h2]
   rcases hsp with rfl | rfl
   ·rfl
   ·simp only []
    rw [if_pos ⟨trivial, by omega⟩]
  ·rw [if_neg (by omega), Nat.add_sub_cancel_left]
   exact .some hr rfl hone (by omega) hsp
def goodC (c : Int) : Bool := chB c && (c != 27 && (c != 91 && c != 79))
theorem good_of {c : Int} (h0 : chB c = true) (h1 : c ≠ 27) (h2 : c ≠ 91) (h3 : c ≠ 79) : goodC c = true := by
 unfold goodC
 rw [h0, bne_iff_ne.2 h1, bne_iff_ne.2 h2, bne_iff_ne.2 h3]
 rfl
theorem hok_of {c : Int} (h : goodC c = true) : chB c = true ∧ c ≠ 27 ∧ c ≠ 91 ∧ c ≠ 79 := by
 unfold goodC at h
 simpa only [Bool.and_eq_true, bne_iff_ne] using h
theorem not_good {c : Int} (h : textE [c] ≠ 0 ∨ c = 27 ∨ c = 91 ∨ c = 79) : goodC c = false := by
 cases hg : goodC c with
 | false => rfl
 | true =>
  obtain ⟨h0, h1, h2, h3⟩ := hok_of hg
  have : textE [c] = 0 := (text_yes (by simp [allCh, h0])).2
  omega
theorem ch_of {c : Int} (h : textE [c] = 0) : chB c = true := by
 cases hc : chB c with
 | true => rfl
 | false =>
  have : textE [c] = 3 := (text_no (by simp [allCh, hc])).2
  omega
def toks (m : Bool) (W : List Int) : List Tok := W.map fun c => (c, m)
theorem toks_ok (m : Bool) (l : List Int) : ∀ t ∈ toks m (l.filter goodC), Tok.Ok t := fun t ht => by
 obtain ⟨c, hc, rfl⟩ := List.mem_map.1 ht
 exact hok_of (List.mem_filter.1 hc).2
theorem toks_false (W : List Int) : (toks false W).map tokE = W := by
 unfold toks
 rw [List.map_map]
 exact List.map_id' W
theorem toks_true (W : List Int) : (toks true W).map tokE = W.map (· + 134217728) := by
 unfold toks
 rw [List.map_map]
 rfl
theorem toks_len (m : Bool) : ∀ W : List Int, (bytesT (toks m W)).length ≤ 5 * W.length
 | [] => Nat.le_refl _
 | c :: W => by
  have h := toks_len m W
  have e := enc_len c
  rw [show toks m (c :: W) = (c, m) :: toks m W from rfl, bytesT_cons, List.length_append, tokB, List.length_append, List.length_cons]
  have : (if (c, m).2 = true then [(27 : UInt8)] else []).length ≤ 1 := by split <;> simp
  dsimp only at this ⊢
  omega
theorem bytes_size {s : ByteArray} {m : Bool} {W : List Int} (h : s.data.toList = bytesT (toks m W)) : s.size = (bytesT (toks m W)).length := by
 rw [← h]
 rfl
theorem text_ch {x : Int} (h : chB x = true) : textOf [x] = encodeRune x := by
 rw [(text_yes (by simp [allCh, h])).1]
 simp [encA]
theorem text_size {x : Int} (h : chB x = true) : (⟨(textOf [x]).toArray⟩ : ByteArray).size ≤ 4 := by
 rw [text_ch h]
 exact (enc_len x).2
theorem toks_snoc (m : Bool) (W : List Int) (x : Int) : bytesT (toks m (W ++ [x])) = bytesT (toks m W) ++ tokB (x, m) := by
 unfold toks
 rw [List.map_append, bytesT_append]
 simp [bytesT]
theorem add_plain {s : ByteArray} {W : List Int} {x : Int} (h : chB x = true) (hs : s.data.toList = bytesT (toks false W)) : (s ++ ⟨(textOf [x]).toArray⟩ : ByteArray).data.toList = bytesT (toks false (W ++ [x])) := by
 rw [toks_snoc, text_ch h, ByteArray.data_append, Array.toList_append, hs]
 rfl
theorem add_meta {s : ByteArray} {W : List Int} {x : Int} (h : chB x = true) (hs : s.data.toList = bytesT (toks true W)) : ((s ++ ⟨#[27]⟩) ++ ⟨(textOf [x]).toArray⟩ : ByteArray).data.toList = bytesT (toks true (W ++ [x])) := by
 rw [toks_snoc, text_ch h, ByteArray.data_append, Array.toList_append, ByteArray.data_append, Array.toList_append, hs, List.append_assoc]
 rfl
theorem filter_yes {l : List Int} {i : Nat} (h : i < l.length) (g : goodC (l.getD i 0) = true) : (l.take (i + 1)).filter goodC = (l.take i).filter goodC ++ [l.getD i 0] := by
 rw [List.getD_eq_getElem?_getD, List.getElem?_eq_getElem h] at g ⊢
 rw [List.take_add_one, List.filter_append, List.getElem?_eq_getElem h]
 congr 1
 simp only [Option.getD_some] at g
 simp [g]
theorem filter_no {l : List Int} {i : Nat} (h : i < l.length) (g : goodC (l.getD i 0) = false) : (l.take i).filter goodC = (l.take (i + 1)).filter goodC := by
 rw [List.getD_eq_getElem?_getD, List.getElem?_eq_getElem h] at g
 rw [List.take_add_one, List.filter_append, List.getElem?_eq_getElem h]
 simp only [Option.getD_some] at g
 simp [g]
section
variable {G : Nat} {A : Abs} {σ : Mem} {F : Nat → Option Blk2} {L : List Ent}
theorem s_text1 {x : Int} {v : Value} (h : SlF σ.get 1 v 1 ([x].map (Value.int .i64))) : SCall G Tryd.prog 17 #[v] σ (.tuple #[.string ⟨(textOf [x]).toArray⟩, .int .i64 (textE [x])]) σ :=
 read_call (rest := []) h (fun y hy => by obtain ⟨u, _, rfl⟩ := List.mem_map.1 hy; rfl) rfl rfl fun w a' ⟨A, c, e, _, hA⟩ => by
  subst e
  obtain ⟨B, off, rfl, hc⟩ := hA (by decide)
  refine ref_text_walk B off c [x] w (by simp) (by simp) ?_ fun j y hj => hc j _ (by rw [List.getElem?_map, hj]; rfl)
  have := hc 0 _ rfl
  unfold World.cell? at this
  split at this
  ·rename_i h1
   exact (Array.getElem?_eq_some_iff.1 h1).1
  ·cases this
set_option maxHeartbeats 4000000 in
theorem self_wc {c : Int} (H : Lies G A F σ L) : WC G Tryd.prog 18 #[.int .i64 c] σ fun r σ' => r = .tuple #[.int .i64 (selfM c).1, .bool (selfM c).2] ∧ Lies G A F σ' L := by
 refine WC.enter (fn := Tryd.f18) Tryd.func18 rfl ?_
 refine W.rg [(0, .int .i64 c)] fun TA => ?_
 refine W.seq (W.region ?_)
 iterate 2 refine RW.v ?_
 refine RW.nil ?_
 refine W.rg [(0, .int .i64 c)] fun TA => ?_
 refine W.seq ?_
 refine W.seq (W.region ?_)
 refine RW.v ?_
 refine RW.cl ?_
 refine ((is_wc c _).mono ?_)
 rintro _ _ ⟨rfl, rfl⟩
 by_cases hI : IsC c
 ·rw [decide_eq_true hI]
  iterate 2 refine RW.v ?_
  refine RW.val (by rfl) (by kernel_rfl) rfl (by kernel_rfl) ?_
  refine RW.val (by rfl) (by kernel_rfl) rfl (by kernel_rfl) ?_
  iterate 2 refine RW.v ?_
  refine RW.both _ _ rfl rfl rfl (fun hc1 => ?_) (fun hc1 => ?_)
  ·have hc1b := hc1
   have hc1 := of_decide_eq_true hc1
   refine RW.skip (by rfl) (by kernel_rfl) ?_
   refine RW.skip (by rfl) (by kernel_rfl) ?_
   refine RW.v ?_
   refine RW.nil ?_
   refine W.c1 ?_
   refine W.seq (W.region ?_)
   iterate 2 refine RW.v ?_
   refine RW.nil ?_
   refine W.ret ?_
   refine seqQ_ret ?_
   refine endG (by rfl) (by exact resL_tmp (by exact resL_tmp rfl)) ?_
   have es : selfM c = (0, false) := if_neg (fun h => by first | exact hI h.1 | omega)
   rw [es]
   exact ⟨rfl, H⟩
  ·have hc1b := hc1
   have hc1 := of_decide_eq_false hc1
   refine RW.val (by rfl) (by kernel_rfl) rfl (by kernel_rfl) ?_
   refine RW.val (by rfl) (by kernel_rfl) rfl (by kernel_rfl) ?_
   refine RW.v ?_
   refine RW.nil ?_
   refine W.rg [(0, .int .i64 c), (14, .bool (c == 127))] fun TA => ?_
   refine W.cond rfl (fun hc2 => ?_) (fun hc2 => ?_)
   ·have hc2b := hc2
    have hc2 := eq_of_beq hc2
    refine W.seq (W.region ?_)
    iterate 2 refine RW.v ?_
    refine RW.nil ?_
    refine W.ret ?_
    refine seqQ_ret ?_
    refine endG (by rfl) (by exact resL_tmp (by exact resL_tmp rfl)) ?_
    have es : selfM c = (0, false) := if_neg (fun h => by first | exact hI h.1 | omega)
    rw [es]
    exact ⟨rfl, H⟩
   ·have hc2b := hc2
    have hc2 := ne_of_beq_false hc2
    refine W.skip ?_
    refine W.seq (W.region ?_)
    iterate 3 refine RW.v ?_
    refine RW.nil ?_
    refine W.ret ?_
    refine endG (by rfl) (by exact resL_tmp (by exact resL_tmp rfl)) ?_
    have es : selfM c = (c, true) := if_pos ⟨hI, by omega, by omega⟩
    rw [es]
    exact ⟨rfl, H⟩
 ·rw [decide_eq_false hI]
  iterate 2 refine RW.v ?_
  refine RW.skip (by rfl) (by kernel_rfl) ?_
  refine RW.skip (by rfl) (by kernel_rfl) ?_
  iterate 2 refine RW.v ?_
  refine RW.skip (by rfl) (by kernel_rfl) ?_
  refine RW.skip (by rfl) (by kernel_rfl) ?_
  refine RW.v ?_
  refine RW.nil ?_
  refine W.c1 ?_
  refine W.seq (W.region ?_)
  iterate 2 refine RW.v ?_
  refine RW.nil ?_
  refine W.ret ?_
  refine seqQ_ret ?_
  refine endG (by rfl) (by exact resL_tmp (by exact resL_tmp rfl)) ?_
  have es : selfM c = (0, false) := if_neg (fun h => by first | exact hI h.1 | omega)
  rw [es]
  exact ⟨rfl, H⟩
set_option maxHeartbeats 4000000 in
theorem same_intK {l : List Int} {v1 v2 : Value} (h1 : SlF F 1 v1 l.length (l.map (Value.int .i64))) (h2 : SlF F 1 v2 l.length (l.map (Value.int .i64))) (hl : l.length ≤ 1000000) (H : Lies G A F σ L) : WC G Tryd.prog 16 #[v1, v2] σ fun r σ' => r = .bool true ∧ Lies G A F σ' L := by
 refine WC.enter (fn := Tryd.f16) Tryd.func16 rfl ?_
 refine W.rg [(0, v1), (1, v2)] fun TA => ?_
 refine W.seq (W.region ?_)
 refine RW.v ?_
 refine RW.nil ?_
 refine W.rg [(0, v1), (1, v2)] fun TA => ?_
 refine W.seq ?_
 refine W.seq (W.region ?_)
 refine RW.v ?_
 refine RW.len (by kernel_rfl) (by kernel_rfl) rfl rfl rfl rfl (h1.len (e := 3) (by kernel_rfl)) (by kernel_rfl) ?_
 refine RW.v ?_
 refine RW.len (by kernel_rfl) (by kernel_rfl) rfl rfl rfl rfl (h2.len (e := 3) (by kernel_rfl)) (by kernel_rfl) ?_
 refine RW.valE (v' := .bool false) (by kernel_rfl) (by kernel_rfl) rfl (congrArg Value.bool (bne_eq_false_iff_eq.2 (by rfl))) (by kernel_rfl) ?_
 refine RW.nil ?_
 refine W.c0 ?_
 refine W.skip ?_
 refine W.seq ?_
 refine W.seq (W.region ?_)
 refine RW.v ?_
 refine RW.nil ?_
 refine W.rg [(0, v1), (1, v2), (5, .int .i64 0)] fun TA => ?_
 refine W.block ?_
 refine W.loop (fun mm ta σ => ∃ (i : Nat), (mm + i = l.length) ∧ Lies G A F σ ((L)) ∧ ta 0 = v1 ∧ ta 1 = v2 ∧ ta 5 = .int .i64 ((i : Nat) : Int)) l.length ?_ ?_
 ·exact ⟨0, (by omega), H, rfl, rfl, rfl⟩
 clear H
 rintro mm ta _ ⟨i, hm, H, e0, e1, e5⟩
 refine W.rst [(0, v1), (1, v2), (5, .int .i64 ((i : Nat) : Int))] ⟨e0, e1, e5, trivial⟩ fun TA => ?_
 clear e0 e1 e5
 refine W.seq ?_
 refine W.seq (W.region ?_)
 iterate 2 refine RW.v ?_
 refine RW.len (by kernel_rfl) (by kernel_rfl) rfl rfl rfl rfl (h1.len (e := 3) (by kernel_rfl)) (by kernel_rfl) ?_
 refine RW.v ?_
 refine RW.nil ?_
 refine W.rg [(0, v1), (1, v2), (5, .int .i64 ((i : Nat) : Int)), (14, .bool (decide (((i : Nat) : Int) < (l.length : Int))))] fun TA => ?_
 refine W.cond rfl (fun hc1 => ?_) (fun hc1 => ?_)
 ·have hc1b := hc1
  have hc1 := of_decide_eq_true hc1
  refine W.skip ?_
  refine W.seq ?_
  refine W.block ?_
  refine W.seq ?_
  refine W.drawn (by kernel_rfl) (by kernel_rfl) H.gn ?_
  have H2 := H
  iterate 2 refine RW.v ?_
  refine RW.idxF h1 (by kernel_rfl) (by kernel_rfl) rfl Tryd.underlying31 (by kernel_rfl) rfl rfl ⟨by omega, by omega⟩ (by kernel_rfl) ?_
  intro b3 q4 r5 hF6 hE7
  rw [ints_at (l := l) (j := i) (by omega)] at hE7
  refine RW.loads 1 (by kernel_rfl) (by kernel_rfl) rfl rfl (H2.old _ _ hF6) hE7 rfl (by kernel_rfl) ?_
  iterate 2 refine RW.v ?_
  refine RW.idxF h2 (by kernel_rfl) (by kernel_rfl) rfl Tryd.underlying31 (by kernel_rfl) rfl rfl ⟨by omega, by omega⟩ (by kernel_rfl) ?_
  intro b8 q9 r10 hF11 hE12
  rw [ints_at (l := l) (j := i) (by omega)] at hE12
  refine RW.loads 1 (by kernel_rfl) (by kernel_rfl) rfl rfl (H2.old _ _ hF11) hE12 rfl (by kernel_rfl) ?_
  refine RW.valE (v' := .bool false) (by kernel_rfl) (by kernel_rfl) rfl (congrArg Value.bool (bne_eq_false_iff_eq.2 (by rfl))) (by kernel_rfl) ?_
  refine RW.nil ?_
  refine ⟨⟨by kernel_rfl, ⟨trivial, trivial, trivial, dyn_row (H2.old _ _ hF6) (H2.old _ _ hF6) ⟨fun h => Bool.noConfusion h, fun h => Bool.noConfusion h, fun h => Bool.noConfusion h, fun h => Bool.noConfusion h, fun h => Bool.noConfusion h, fun h => Bool.noConfusion h, fun h => Bool.noConfusion h, fun h => Bool.noConfusion h, fun h => Bool.noConfusion h, trivial⟩, trivial, trivial, trivial, dyn_row (H2.old _ _ hF11) (H2.old _ _ hF11) ⟨fun h => Bool.noConfusion h, fun h => Bool.noConfusion h, fun h => Bool.noConfusion h, fun h => Bool.noConfusion h, fun h => Bool.noConfusion h, fun h => Bool.noConfusion h, fun h => Bool.noConfusion h, fun h => Bool.noConfusion h, fun h => Bool.noConfusion h, trivial⟩, trivial, trivial⟩⟩, ?_⟩
  replace H := H2
  clear H2
  refine W.c0 ?_
  refine W.skip ?_
  refine blkQ_normal ?_
  refine W.region ?_
  refine RW.v ?_
  refine RW.valE (v' := .int .i64 (((i : Nat) : Int) + 1)) (by kernel_rfl) (by kernel_rfl) rfl (congrArg (Value.int .i64) (wrap_in (by omega) (by omega))) (by kernel_rfl) ?_
  refine RW.v ?_
  refine RW.nil ?_
  exact ⟨rfl, mm - 1, by omega, i + 1, (by omega), H, rfl, rfl, rfl⟩
 ·have hc1b := hc1
  have hc1 := of_decide_eq_false hc1
  refine W.exit _ ?_
  refine seqQ_exit ?_
  refine rndQ_exit ?_
  refine blkQ_here ?_
  refine W.seq (W.region ?_)
  refine RW.v ?_
  refine RW.nil ?_
  refine W.ret ?_
  refine endG (by rfl) (by exact resL_tmp rfl) ?_
  exact ⟨rfl, H⟩
end
end Go.Proofs.YtpjpefcpbkmilaaDoor
