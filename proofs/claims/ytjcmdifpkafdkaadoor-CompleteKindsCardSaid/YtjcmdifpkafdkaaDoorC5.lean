/-
 Completion word by word in plain words. Plain. Conditions: none.
 Words: parts, match. Conditions: none.
 Partial. Conditions: the tables of unicode/utf8 lie.
-/
import Derived.Test.YtjcmdifpkafdkaaDoorC3
import Derived.Test.YtjcmdifpkafdkaaDoorCpf
namespace Go.Proofs.YtjcmdifpkafdkaaDoor
open Go.Lib
set_option maxRecDepth 100000
def partsG : List Int → List Int → List (List Int) × List Int
 | w, [] => ([w], [])
 | w, c :: s => if delC c = true then (w :: (partsG [] s).1, c :: (partsG [] s).2) else partsG (w ++ [c]) s
def partsC (s : List Int) : List (List Int) × List Int := partsG [] s
def endC (c : List Int) (n : Nat) : Nat := n + ((c.drop n).takeWhile fun x => !delC x).length
def matchG (fold : Bool) : List Int → List (List Int) → List Int → Option (List (List Int))
 | c, [], _ => some [c]
 | c, w :: ws, ms =>
  if begC fold c w = false then none
  else match ms with
   | [] => some [c]
   | m :: ms =>
    if endC c w.length = c.length ∨ c.getD (endC c w.length) 0 ≠ m then none
    else (matchG fold (c.drop (endC c w.length + 1)) ws ms).map (c.take (endC c w.length) :: ·)
def matchC (fold : Bool) (c s : List Int) : Option (List (List Int)) := matchG fold c (partsC s).1 (partsC s).2
def partC (fold : Bool) (l : List (List UInt8)) (s : List UInt8) : List (List UInt8) := if validD s = true then (distM l).filter (fun c => (matchC fold (runes c) (runes s)).isSome) else []
theorem partsG_len : ∀ (s w : List Int), (partsG w s).1.length = (partsG w s).2.length + 1
 | [], _ => rfl
 | c :: s, w => by
  unfold partsG
  split
  ·show (partsG [] s).1.length + 1 = (partsG [] s).2.length + 1 + 1
   rw [partsG_len s []]
  ·exact partsG_len s _
theorem partsG_small : ∀ (s w : List Int), (partsG w s).2.length ≤ s.length
 | [], _ => Nat.le_refl _
 | c :: s, w => by
  unfold partsG
  split
  ·exact Nat.succ_le_succ (partsG_small s [])
  ·exact Nat.le_succ_of_le (partsG_small s _)
theorem partsG_mem : ∀ (s w : List Int), (∀ z ∈ (partsG w s).1, ∀ c ∈ z, c ∈ w ∨ c ∈ s) ∧ ∀ c ∈ (partsG w s).2, c ∈ s
 | [], w => ⟨fun z hz c hc => by rw [List.mem_singleton.1 hz] at hc; exact .inl hc, fun c hc => absurd hc (List.not_mem_nil)⟩
 | x :: s, w => by
  unfold partsG
  split
  ·have ih := partsG_mem s []
   refine ⟨fun z hz c hc => ?_, fun c hc => ?_⟩
   ·rcases List.mem_cons.1 hz with rfl | hz
    ·exact .inl hc
    ·rcases ih.1 z hz c hc with h | h
     ·exact absurd h (List.not_mem_nil)
     ·exact .inr (List.mem_cons_of_mem _ h)
   ·rcases List.mem_cons.1 hc with rfl | hc
    ·exact List.mem_cons_self ..
    ·exact List.mem_cons_of_mem _ (ih.2 c hc)
  ·have ih := partsG_mem s (w ++ [x])
   refine ⟨fun z hz c hc => ?_, fun c hc => List.mem_cons_of_mem _ (ih.2 c hc)⟩
   rcases ih.1 z hz c hc with h | h
   ·rcases List.mem_append.1 h with h | h
    ·exact .inl h
    ·rw [List.mem_singleton.1 h]; exact .inr (List.mem_cons_self ..)
   ·exact .inr (List.mem_cons_of_mem _ h)
theorem endC_go {c : List Int} {n : Nat} (h : n < c.length) (k : delC (c.getD n 0) = false) : endC c n = endC c (n + 1) := by
 unfold endC
 rw [dropD (d := 0) h, List.takeWhile_cons_of_pos (by rw [k]; rfl), List.length_cons]
 omega
theorem endC_stop {c : List Int} {n : Nat} (h : n < c.length) (k : delC (c.getD n 0) = true) : endC c n = n := by
 unfold endC
 rw [dropD (d := 0) h, List.takeWhile_cons_of_neg (by rw [k]; exact Bool.false_ne_true)]
 rfl
theorem endC_end {c : List Int} {n : Nat} (h : c.length ≤ n) : endC c n = n := by
 unfold endC
 rw [List.drop_eq_nil_of_le h]
 rfl
end Go.Proofs.YtjcmdifpkafdkaaDoor
namespace Go.Proofs.YtjcmdifpkafdkaaDoor
open Go.Lib
set_option maxRecDepth 100000
open Go.RowKit
theorem run_snoc {l : List Int} {x : Int} : l.map runeV ++ [.int .i32 x] = (l ++ [x]).map runeV := by rw [List.map_append]; rfl
theorem parts_del {xs w : List Int} {i : Nat} (h : i < xs.length) (k : delC (xs.getD i 0) = true) : partsG w (xs.drop i) = (w :: (partsG [] (xs.drop (i + 1))).1, xs.getD i 0 :: (partsG [] (xs.drop (i + 1))).2) := by
 rw [dropD (d := 0) h]
 exact if_pos k
theorem parts_go {xs w : List Int} {i : Nat} (h : i < xs.length) (k : delC (xs.getD i 0) = false) : partsG w (xs.drop i) = partsG (w ++ [xs.getD i 0]) (xs.drop (i + 1)) := by
 rw [dropD (d := 0) h]
 exact if_neg (by rw [k]; exact Bool.false_ne_true)
theorem mid_snoc {xs : List Int} {fr i : Nat} (h : fr ≤ i) (k : i < xs.length) : (xs.drop fr).take (i + 1 - fr) = (xs.drop fr).take (i - fr) ++ [xs.getD i 0] := by
 rw [show i + 1 - fr = (i - fr) + 1 by omega, List.take_add_one, List.getElem?_drop, show fr + (i - fr) = i by omega, List.getElem?_eq_getElem k, List.getD_eq_getElem?_getD, List.getElem?_eq_getElem k]
 rfl
theorem beg_len {fold : Bool} {c w : List Int} (h : begC fold c w = true) : w.length ≤ c.length := by
 unfold begC at h
 exact of_decide_eq_true (Bool.and_eq_true_iff.1 h).1
section
variable {fold : Bool} {c ms : List Int} {ws : List (List Int)} {i e : Nat}
theorem match_no (h : i < ws.length) (k : begC fold c (ws.getD i []) = false) : matchG fold c (ws.drop i) (ms.drop i) = none := by
 rw [dropD (d := []) h]
 unfold matchG
 rw [if_pos k]
theorem match_last {w : List Int} (k : begC fold c w = true) : matchG fold c (w :: ws) [] = some [c] := if_neg (by rw [k]; exact Bool.noConfusion)
theorem match_bad (h : i < ws.length) (hm : i < ms.length) (k : begC fold c (ws.getD i []) = true) (b : endC c (ws.getD i []).length = c.length ∨ c.getD (endC c (ws.getD i []).length) 0 ≠ ms.getD i 0) : matchG fold c (ws.drop i) (ms.drop i) = none := by
 rw [dropD (d := []) h, dropD (d := 0) hm]
 exact (if_neg (by rw [k]; exact Bool.noConfusion)).trans (if_pos b)
theorem match_go (h : i < ws.length) (hm : i < ms.length) (k : begC fold c (ws.getD i []) = true) (hE : endC c (ws.getD i []).length = e) (hne : e ≠ c.length) (hmk : c.getD e 0 = ms.getD i 0) : matchG fold c (ws.drop i) (ms.drop i) = (matchG fold (c.drop (e + 1)) (ws.drop (i + 1)) (ms.drop (i + 1))).map (c.take e :: ·) := by
 rw [dropD (d := []) h, dropD (d := 0) hm]
 refine (if_neg (by rw [k]; exact Bool.noConfusion)).trans ?_
 rw [if_neg (by rw [hE]; exact fun b => b.elim hne fun b => b hmk), hE]
end
section
variable {G : Nat} {A : Abs} {σ : Mem} {F : Nat → Option Blk2} {L : List Ent} {fold : Bool} {xs c0 ms : List Int} {ws : List (List Int)} {wsl : List Value} {v1 v2 v3 : Value}
set_option maxHeartbeats 8000000 in
theorem parts_wc (h1 : SlK F 1 v1 xs.length (xs.map runeV)) (hl : xs.length ≤ 100000) (H : Lies G A F σ L) : WC G Tryd.prog 42 #[v1] σ fun v σ' => ∃ F' u um cs, Le F F' ∧ v = .tuple #[u, um] ∧ SlK F' 1 u (partsC xs).1.length cs ∧ AllZ F' cs (partsC xs).1 ∧ SlK F' 1 um (partsC xs).2.length ((partsC xs).2.map runeV) ∧ Lies G A F' σ' L := by
 refine WC.enter (fn := Tryd.f42) Tryd.func42 rfl ?_
 refine W.rg [(0, v1)] fun TA => ?_
 refine W.seq (W.region ?_)
 iterate 2 refine RW.v ?_
 refine RW.nil ?_
 refine W.rg [(0, v1), (2, .slice none 0 0), (3, .slice none 0 0)] fun TA => ?_
 refine W.seq (W.region ?_)
 refine RW.v ?_
 refine RW.nil ?_
 refine W.rg [(0, v1), (2, .slice none 0 0), (3, .slice none 0 0), (4, .int .i64 0)] fun TA => ?_
 refine W.seq ?_
 refine W.seq (W.region ?_)
 refine RW.v ?_
 refine RW.len (by kernel_rfl) (by kernel_rfl) rfl rfl rfl rfl (h1.slf.len (e := 21) (by kernel_rfl)) (by kernel_rfl) ?_
 refine RW.v ?_
 refine RW.nil ?_
 refine W.rg [(0, v1), (2, .slice none 0 0), (3, .slice none 0 0), (4, .int .i64 0), (7, v1), (8, .int .i64 (xs.length : Int)), (9, .int .i64 0)] fun TA => ?_
 refine W.block ?_
 replace H := H.nilSl 21 1
 replace H := H.nilSl 50 1
 refine W.loop (fun mm ta σ => ∃ (i : Nat) (fr : Nat) (u : Value) (um : Value) (wa : List (List Int)) (cs : List Value) (ma : List Int), (mm + i = xs.length) ∧ (fr ≤ i) ∧ (AllZ F cs wa) ∧ (wa.length = ma.length) ∧ (partsC xs = (wa ++ (partsG ((xs.drop fr).take (i - fr)) (xs.drop i)).1, ma ++ (partsG ((xs.drop fr).take (i - fr)) (xs.drop i)).2)) ∧ Lies G A F σ (.sl 50 1 u wa.length cs :: .sl 21 1 um ma.length (ma.map runeV) :: (L)) ∧ ta 0 = v1 ∧ ta 2 = u ∧ ta 3 = um ∧ ta 4 = .int .i64 ((fr : Nat) : Int) ∧ ta 7 = v1 ∧ ta 8 = .int .i64 (xs.length : Int) ∧ ta 9 = .int .i64 ((i : Nat) : Int)) xs.length ?_ ?_
 ·exact ⟨0, 0, .slice none 0 0, .slice none 0 0, [], [], [], (by omega), (Nat.le_refl _), AllZ.nil, rfl, rfl, H, rfl, rfl, rfl, rfl, rfl, rfl, rfl⟩
 clear H
 rintro mm ta _ ⟨i, fr, u, um, wa, cs, ma, hm, hfr, al, hwm, hT, H, e0, e2, e3, e4, e7, e8, e9⟩
 refine W.rst [(0, v1), (2, u), (3, um), (4, .int .i64 ((fr : Nat) : Int)), (7, v1), (8, .int .i64 (xs.length : Int)), (9, .int .i64 ((i : Nat) : Int))] ⟨e0, e2, e3, e4, e7, e8, e9, trivial⟩ fun TA => ?_
 clear e0 e2 e3 e4 e7 e8 e9
 refine W.seq (W.region ?_)
 refine RW.v ?_
 refine RW.nil ?_
 refine W.rg [(0, v1), (2, u), (3, um), (4, .int .i64 ((fr : Nat) : Int)), (7, v1), (8, .int .i64 (xs.length : Int)), (9, .int .i64 ((i : Nat) : Int)), (10, .bool (decide (((i : Nat) : Int) < (xs.length : Int))))] fun TA => ?_
 refine W.seq ?_
 refine W.cond rfl (fun hc1 => ?_) (fun hc1 => ?_)
 ·have hc1b := hc1
  have hc1 := of_decide_eq_true hc1
  have hil : i < xs.length := by omega
  have hwl : wa.length ≤ xs.length := by have := congrArg (fun z => z.2.length) hT; have h2 := partsG_small xs []; simp only [List.length_append] at this; have h3 : (partsC xs).2.length ≤ xs.length := h2; omega
  refine W.skip ?_
  refine W.seq ?_
  refine W.block ?_
  refine W.seq (W.region ?_)
  refine RW.v ?_
  refine RW.idxF h1.slf (by kernel_rfl) (by kernel_rfl) rfl Tryd.underlying50 (by kernel_rfl) rfl rfl ⟨by omega, by omega⟩ (by kernel_rfl) ?_
  intro b2 q3 r4 hF5 hE6
  rw [runs_at (l := xs) (j := i) (i := ((i : Nat) : Int)) (by omega) (by omega)] at hE6
  refine RW.loads 1 (by kernel_rfl) (by kernel_rfl) rfl rfl (H.old _ _ hF5) hE6 rfl (by kernel_rfl) ?_
  iterate 2 refine RW.v ?_
  refine RW.nil ?_
  refine W.rg [(0, v1), (2, u), (3, um), (4, .int .i64 ((fr : Nat) : Int)), (5, .int .i64 ((i : Nat) : Int)), (6, .int .i32 (xs.getD i 0)), (7, v1), (8, .int .i64 (xs.length : Int)), (9, .int .i64 ((i : Nat) : Int))] fun TA => ?_
  refine W.seq (W.region ?_)
  refine RW.v ?_
  refine RW.cl ?_
  refine ((delim_wc (c := (xs.getD i 0)) H).mono ?_)
  clear H
  rintro _ _ ⟨rfl, H⟩
  refine RW.nil ?_
  refine W.rg [(0, v1), (2, u), (3, um), (4, .int .i64 ((fr : Nat) : Int)), (5, .int .i64 ((i : Nat) : Int)), (6, .int .i32 (xs.getD i 0)), (7, v1), (8, .int .i64 (xs.length : Int)), (9, .int .i64 ((i : Nat) : Int)), (15, .bool (delC (xs.getD i 0)))] fun TA => ?_
  refine W.cond rfl (fun hc7 => ?_) (fun hc7 => ?_)
  ·have hc7b := hc7
   refine W.seq (W.region ?_)
   iterate 4 refine RW.v ?_
   obtain ⟨q11, p12, sp13, cc14, hv9, hk10⟩ := slk_mid (P := Tryd.prog) (t := 50) (e := 21) (i := fr) (j := i) h1 (by omega) (by kernel_rfl) (by kernel_rfl) (by omega) (by omega) rfl rfl
   obtain ⟨wv8, hwv8⟩ : ∃ wv8, wv8 = Value.slice (some ⟨q11, p12, sp13⟩) (i - fr) cc14 := ⟨_, rfl⟩
   rw [← hwv8] at hv9 hk10
   have hk10b : SlK F 1 wv8 ((xs.drop fr).take (i - fr)).length (((xs.drop fr).take (i - fr)).map runeV) := by rw [List.length_take, List.length_drop, Nat.min_eq_left (by omega), List.map_take, List.map_drop]; exact hk10
   refine RW.vop (v := wv8) (by kernel_rfl) (by kernel_rfl) (vop_slice rfl hv9) (by kernel_rfl) ?_
   refine RW.mkL H (x := .row ⟨[wv8], 50, false⟩) (fm := fun b => .slice (some ⟨b, 0, none⟩) 1 1) (by kernel_rfl) (by kernel_rfl) (by rcases slf_forms hk10b.slf with rfl | ⟨_, rfl⟩ | ⟨_, _, _, _, _, rfl⟩ <;> kernel_rfl) (by kernel_rfl) ?_
   clear H; intro _ b15 _ H
   refine RW.appL H 1 0 (n := 1) (e2 := 50) (by kernel_rfl) (by kernel_rfl) rfl rfl rfl rfl rfl rfl rfl rfl (by kernel_rfl) (by kernel_rfl) (by kernel_rfl) (by decide) (by decide) rfl (slf_all hk10b.slf) (by omega) (by kernel_rfl) ?_
   clear H; intro _ v16 _ H
   dsimp only [setL, delL] at H
   iterate 2 refine RW.v ?_
   refine RW.mkL H (x := .row ⟨[.int .i32 (xs.getD i 0)], 21, false⟩) (fm := fun b => .slice (some ⟨b, 0, none⟩) 1 1) (by kernel_rfl) (by kernel_rfl) (by kernel_rfl) (by kernel_rfl) ?_
   clear H; intro _ b17 _ H
   refine RW.appL H 2 0 (n := 1) (e2 := 21) (by kernel_rfl) (by kernel_rfl) rfl rfl rfl rfl rfl rfl rfl rfl (by kernel_rfl) (by kernel_rfl) (by kernel_rfl) (by decide) (by decide) rfl rfl (by omega) (by kernel_rfl) ?_
   clear H; intro _ v18 _ H
   dsimp only [setL, delL] at H
   iterate 2 refine RW.v ?_
   refine RW.nil ?_
   refine W.rg [(0, v1), (2, v16), (3, v18), (5, .int .i64 ((i : Nat) : Int)), (7, v1), (8, .int .i64 (xs.length : Int)), (9, .int .i64 ((i : Nat) : Int))] fun TA => ?_
   refine W.region ?_
   refine RW.v ?_
   refine RW.valE (v' := .int .i64 (((i : Nat) : Int) + 1)) (by kernel_rfl) (by kernel_rfl) rfl (congrArg (Value.int .i64) (wrap_in (by omega) (by omega))) (by kernel_rfl) ?_
   refine RW.v ?_
   refine RW.nil ?_
   refine bQn ?_
   refine W.rg [(0, v1), (2, v16), (3, v18), (4, .int .i64 (((i : Nat) : Int) + 1)), (7, v1), (8, .int .i64 (xs.length : Int)), (9, .int .i64 ((i : Nat) : Int))] fun TA => ?_
   refine W.region ?_
   refine RW.valE (v' := .int .i64 (((i : Nat) : Int) + 1)) (by kernel_rfl) (by kernel_rfl) rfl (congrArg (Value.int .i64) (wrap_in (by omega) (by omega))) (by kernel_rfl) ?_
   refine RW.v ?_
   refine RW.nil ?_
   rw [show wa.length + 1 = (wa ++ [((xs.drop fr).take (i - fr))]).length by rw [List.length_append]; rfl, show ma.length + 1 = (ma ++ [xs.getD i 0]).length by rw [List.length_append]; rfl, run_snoc] at H
   exact ⟨rfl, mm - 1, by omega, i + 1, (i + 1), v16, v18, (wa ++ [((xs.drop fr).take (i - fr))]), (cs ++ [wv8]), (ma ++ [xs.getD i 0]), (by omega), (by omega), (al.snoc hk10b), (by rw [List.length_append, List.length_append]; show wa.length + 1 = ma.length + 1; omega), (by rw [hT, parts_del hil hc7b, Nat.sub_self, List.take_zero, List.append_assoc, List.append_assoc]; rfl), H, rfl, rfl, rfl, rfl, rfl, rfl, rfl⟩
  ·have hc7b := hc7
   refine W.skip ?_
   refine bQn ?_
   refine W.region ?_
   refine RW.valE (v' := .int .i64 (((i : Nat) : Int) + 1)) (by kernel_rfl) (by kernel_rfl) rfl (congrArg (Value.int .i64) (wrap_in (by omega) (by omega))) (by kernel_rfl) ?_
   refine RW.v ?_
   refine RW.nil ?_
   exact ⟨rfl, mm - 1, by omega, i + 1, fr, u, um, wa, cs, ma, (by omega), (by omega), al, (by omega), (by rw [hT, parts_go hil hc7b, ← mid_snoc (by omega) hil]), H, rfl, rfl, rfl, rfl, rfl, rfl, rfl⟩
 ·have hc1b := hc1
  have hc1 := of_decide_eq_false hc1
  have hwl : wa.length ≤ xs.length := by have := congrArg (fun z => z.2.length) hT; have h2 := partsG_small xs []; simp only [List.length_append] at this; have h3 : (partsC xs).2.length ≤ xs.length := h2; omega
  refine W.exit _ ?_
  refine seqQ_exit ?_
  refine rndQ_exit ?_
  have hT2 : partsC xs = (wa ++ [xs.drop fr], ma) := by rw [hT, List.drop_eq_nil_of_le (show xs.length ≤ i by omega), List.take_of_length_le (by rw [List.length_drop]; omega)]; show (wa ++ [xs.drop fr], ma ++ []) = _; rw [List.append_nil]
  refine blkQ_here ?_
  refine W.seq (W.region ?_)
  iterate 3 refine RW.v ?_
  obtain ⟨wr19, hv20, hk21⟩ := slk_rest (P := Tryd.prog) (t := 50) (e := 21) (i := fr) h1 (by kernel_rfl) (by kernel_rfl) (by omega)
  have hk21b : SlK F 1 wr19 (xs.drop fr).length ((xs.drop fr).map runeV) := by rw [Nat.mul_one] at hk21; rw [List.length_drop, List.map_drop]; exact hk21
  refine RW.vop (v := wr19) (by kernel_rfl) (by kernel_rfl) (vop_slice rfl hv20) (by kernel_rfl) ?_
  refine RW.mkL H (x := .row ⟨[wr19], 50, false⟩) (fm := fun b => .slice (some ⟨b, 0, none⟩) 1 1) (by kernel_rfl) (by kernel_rfl) (by rcases slf_forms hk21b.slf with rfl | ⟨_, rfl⟩ | ⟨_, _, _, _, _, rfl⟩ <;> kernel_rfl) (by kernel_rfl) ?_
  clear H; intro _ b22 _ H
  refine RW.appL H 1 0 (n := 1) (e2 := 50) (by kernel_rfl) (by kernel_rfl) rfl rfl rfl rfl rfl rfl rfl rfl (by kernel_rfl) (by kernel_rfl) (by kernel_rfl) (by decide) (by decide) rfl (slf_all hk21b.slf) (by omega) (by kernel_rfl) ?_
  clear H; intro _ v23 _ H
  dsimp only [setL, delL] at H
  iterate 3 refine RW.v ?_
  refine RW.nil ?_
  refine W.ret ?_
  refine endG (by rfl) (by exact resL_tmp (by exact resL_tmp rfl)) ?_
  rw [hT2]
  have al2 := al.snoc hk21b
  obtain ⟨F1, le1, hu, H⟩ := H.freezeK 0 rfl
  dsimp only [setL, delL] at H
  obtain ⟨F2, le2, hum, H⟩ := H.freezeK 0 rfl
  dsimp only [setL, delL] at H
  exact ⟨F2, _, _, cs ++ [wr19], fun b y h => le2 b y (le1 b y h), rfl, by rw [List.length_append]; exact hu.le le2, (al2.le le1).le le2, hum, H⟩
set_option maxHeartbeats 16000000 in
theorem match_wc (h1 : SlK F 1 v1 c0.length (c0.map runeV)) (h2 : SlK F 1 v2 ws.length wsl) (al : AllZ F wsl ws) (h3 : SlF F 1 v3 ms.length (ms.map runeV)) (hl : c0.length ≤ 1000000) (hwl : ws.length ≤ 1000000) (hwm : ws.length = ms.length + 1) (hcb0 : ∀ x ∈ c0, 0 ≤ x ∧ x ≤ 1114111) (hwb : ∀ w ∈ ws, ∀ x ∈ w, 0 ≤ x ∧ x ≤ 1114111) (H : Lies G A F σ L) :
  WC G Tryd.prog 43 #[cmpV fold, v1, v2, v3] σ fun v σ' => ∃ F' u cs, Le F F' ∧ v = .tuple #[u, .bool (matchG fold c0 ws ms).isSome] ∧ SlK F' 1 u ((matchG fold c0 ws ms).getD []).length cs ∧ AllZ F' cs ((matchG fold c0 ws ms).getD []) ∧ Lies G A F' σ' L := by
 cases fold with
 | true =>
  refine WC.enter (fn := Tryd.f43) Tryd.func43 rfl ?_
  refine W.rg [(0, .agg #[.func (.func 84) #[] #[]]), (1, v1), (2, v2), (3, v3)] fun TA => ?_
  refine W.seq (W.region ?_)
  refine RW.mk H (.row ⟨[.func (.func 84) #[] #[]], 47, false⟩) ?_
  clear H; intro _ b1 _ H
  iterate 2 refine RW.v ?_
  refine RW.nil ?_
  refine W.rg [(1, v1), (2, v2), (3, v3), (4, .pointer (some ⟨b1, 0, none⟩))] fun TA => ?_
  refine W.seq (W.region ?_)
  refine RW.v ?_
  refine RW.nil ?_
  refine W.rg [(1, v1), (2, v2), (3, v3), (4, .pointer (some ⟨b1, 0, none⟩)), (10, .slice none 0 0)] fun TA => ?_
  refine W.seq ?_
  refine W.seq (W.region ?_)
  refine RW.v ?_
  refine RW.len (by kernel_rfl) (by kernel_rfl) rfl rfl rfl rfl (h2.slf.len (e := 50) (by kernel_rfl)) (by kernel_rfl) ?_
  refine RW.v ?_
  refine RW.nil ?_
  refine W.rg [(1, v1), (3, v3), (4, .pointer (some ⟨b1, 0, none⟩)), (10, .slice none 0 0), (14, v2), (15, .int .i64 (ws.length : Int)), (16, .int .i64 0)] fun TA => ?_
  refine W.block ?_
  replace H := H.nilSl 50 1
  refine W.loop (fun mm ta σ => ∃ (i : Nat) (c : List Int) (cv : Value) (acc : List (List Int)) (cs : List Value) (u : Value), (mm + i = ws.length) ∧ (i ≤ ms.length) ∧ (SlK F 1 cv c.length (c.map runeV)) ∧ (∀ x ∈ c, 0 ≤ x ∧ x ≤ 1114111) ∧ (c.length ≤ 1000000) ∧ (AllZ F cs acc) ∧ (acc.length ≤ i) ∧ (matchG true c0 ws ms = (matchG true c (ws.drop i) (ms.drop i)).map (acc ++ ·)) ∧ Lies G A F σ (.sl 50 1 u acc.length cs :: .at_ b1 (.row ⟨[.func (.func 84) #[] #[]], 47, false⟩) :: (L)) ∧ ta 1 = cv ∧ ta 3 = v3 ∧ ta 4 = .pointer (some ⟨b1, 0, none⟩) ∧ ta 10 = u ∧ ta 14 = v2 ∧ ta 15 = .int .i64 (ws.length : Int) ∧ ta 16 = .int .i64 ((i : Nat) : Int)) ws.length ?_ ?_
  ·exact ⟨0, c0, v1, [], [], .slice none 0 0, (by omega), (Nat.zero_le _), h1, hcb0, hl, AllZ.nil, (Nat.zero_le _), (by rw [List.drop_zero, List.drop_zero]; cases matchG true c0 ws ms <;> rfl), H, rfl, rfl, rfl, rfl, rfl, rfl, rfl⟩
  clear H
  rintro mm ta _ ⟨i, c, cv, acc, cs, u, hm, hi, hc, hcb, hcl, al2, hac, hT, H, e1, e3, e4, e10, e14, e15, e16⟩
  refine W.rst [(1, cv), (3, v3), (4, .pointer (some ⟨b1, 0, none⟩)), (10, u), (14, v2), (15, .int .i64 (ws.length : Int)), (16, .int .i64 ((i : Nat) : Int))] ⟨e1, e3, e4, e10, e14, e15, e16, trivial⟩ fun TA => ?_
  clear e1 e3 e4 e10 e14 e15 e16
  refine W.seq (W.region ?_)
  refine RW.v ?_
  refine RW.nil ?_
  refine W.rg [(1, cv), (3, v3), (4, .pointer (some ⟨b1, 0, none⟩)), (10, u), (14, v2), (15, .int .i64 (ws.length : Int)), (16, .int .i64 ((i : Nat) : Int)), (17, .bool (decide (((i : Nat) : Int) < (ws.length : Int))))] fun TA => ?_
  refine W.seq ?_
  refine W.cond rfl (fun hc2 => ?_) (fun hc2 => ?_)
  ·have hc2b := hc2
   have hc2 := of_decide_eq_true hc2
   have hil : i < ws.length := by omega
   refine W.skip ?_
   refine W.seq ?_
   refine W.block ?_
   refine W.seq (W.region ?_)
   refine RW.v ?_
   refine RW.idxF h2.slf (by kernel_rfl) (by kernel_rfl) rfl Tryd.underlying49 (by kernel_rfl) rfl rfl ⟨by omega, by omega⟩ (by kernel_rfl) ?_
   intro b3 q4 r5 hF6 hE7
   rw [vals_at (l := wsl) (j := i) (i := ((i : Nat) : Int)) (by omega) (by have := al.1; omega)] at hE7
   refine RW.loads 1 (by kernel_rfl) (by kernel_rfl) rfl rfl (H.old _ _ hF6) hE7 rfl (by kernel_rfl) ?_
   iterate 2 refine RW.v ?_
   refine RW.nil ?_
   refine W.rg [(1, cv), (3, v3), (4, .pointer (some ⟨b1, 0, none⟩)), (10, u), (11, .int .i64 ((i : Nat) : Int)), (12, (wsl.getD i undef)), (14, v2), (15, .int .i64 (ws.length : Int)), (16, .int .i64 ((i : Nat) : Int))] fun TA => ?_
   refine W.seq ?_
   refine W.seq (W.region ?_)
   refine RW.ld H 1 1 ?_
   iterate 2 refine RW.v ?_
   refine RW.cl ?_
   refine ((begins_wc (fold := true) hc (al.2 i (by omega)).slf hcl hcb (hwb _ (lst_mem (by omega))) H).mono ?_)
   clear H
   rintro _ _ ⟨rfl, H⟩
   refine RW.v ?_
   refine RW.nil ?_
   refine W.rg [(1, cv), (3, v3), (4, .pointer (some ⟨b1, 0, none⟩)), (10, u), (11, .int .i64 ((i : Nat) : Int)), (12, (wsl.getD i undef)), (14, v2), (15, .int .i64 (ws.length : Int)), (16, .int .i64 ((i : Nat) : Int)), (25, .bool (!(begC true c (ws.getD i []))))] fun TA => ?_
   refine W.cond rfl (fun hc8 => ?_) (fun hc8 => ?_)
   ·have hc8b := hc8
    have hc8e : begC true c (ws.getD i []) = false := by simpa using hc8b
    refine W.seq (W.region ?_)
    iterate 2 refine RW.v ?_
    refine RW.nil ?_
    replace H := ((H.del 1).del 0)
    dsimp only [setL, delL] at H
    refine W.ret ?_
    refine seqQ_ret ?_
    refine blkQ_ret ?_
    refine seqQ_ret ?_
    refine rndQ_ret ?_
    refine blkQ_ret ?_
    refine seqQ_ret ?_
    refine endG (by rfl) (by exact resL_tmp (by exact resL_tmp rfl)) ?_
    have hM : matchG true c0 ws ms = none := by rw [hT, match_no hil hc8e]; rfl
    rw [hM]
    exact ⟨F, _, [], fun _ _ h => h, rfl, .nil, AllZ.nil, H⟩
   ·have hc8b := hc8
    have hc8e : begC true c (ws.getD i []) = true := by simpa using hc8b
    refine W.skip ?_
    refine W.seq ?_
    refine W.seq (W.region ?_)
    iterate 2 refine RW.v ?_
    refine RW.len (by kernel_rfl) (by kernel_rfl) rfl rfl rfl rfl (h3.len (e := 21) (by kernel_rfl)) (by kernel_rfl) ?_
    refine RW.v ?_
    refine RW.nil ?_
    refine W.rg [(1, cv), (3, v3), (4, .pointer (some ⟨b1, 0, none⟩)), (10, u), (11, .int .i64 ((i : Nat) : Int)), (12, (wsl.getD i undef)), (14, v2), (15, .int .i64 (ws.length : Int)), (16, .int .i64 ((i : Nat) : Int)), (29, .bool (((i : Nat) : Int) == (ms.length : Int)))] fun TA => ?_
    refine W.cond rfl (fun hc9 => ?_) (fun hc9 => ?_)
    ·have hc9b := hc9
     have hc9 := eq_of_beq hc9
     refine W.exit _ ?_
     refine seqQ_exit ?_
     refine blkQ_out rfl ?_
     refine seqQ_exit ?_
     refine rndQ_exit ?_
     have hM : matchG true c0 ws ms = some (acc ++ [c]) := by rw [hT, List.drop_eq_nil_of_le (show ms.length ≤ i by omega), dropD (d := []) hil, match_last hc8e]; rfl
     refine blkQ_here ?_
     refine W.seq (W.region ?_)
     iterate 2 refine RW.v ?_
     refine RW.mkL H (x := .row ⟨[cv], 50, false⟩) (fm := fun b => .slice (some ⟨b, 0, none⟩) 1 1) (by kernel_rfl) (by kernel_rfl) (by rcases slf_forms hc.slf with rfl | ⟨_, rfl⟩ | ⟨_, _, _, _, _, rfl⟩ <;> kernel_rfl) (by kernel_rfl) ?_
     clear H; intro _ b10 _ H
     refine RW.appL H 1 0 (n := 1) (e2 := 50) (by kernel_rfl) (by kernel_rfl) rfl rfl rfl rfl rfl rfl rfl rfl (by kernel_rfl) (by kernel_rfl) (by kernel_rfl) (by decide) (by decide) rfl (slf_all hc.slf) (by omega) (by kernel_rfl) ?_
     clear H; intro _ v11 _ H
     dsimp only [setL, delL] at H
     iterate 2 refine RW.v ?_
     refine RW.nil ?_
     replace H := (H.del 1)
     dsimp only [setL, delL] at H
     refine W.ret ?_
     refine endG (by rfl) (by exact resL_tmp (by exact resL_tmp rfl)) ?_
     rw [hM]
     have al3 := al2.snoc hc
     obtain ⟨F', le, hu, H⟩ := H.freezeK 0 rfl
     dsimp only [setL, delL] at H
     exact ⟨F', _, cs ++ [cv], le, rfl, by show SlK F' 1 _ (acc ++ [c]).length _; rw [List.length_append]; exact hu, al3.le le, H⟩
    ·have hc9b := hc9
     have hc9 := ne_of_beq_false hc9
     have him : i < ms.length := by omega
     refine W.skip ?_
     refine W.seq (W.region ?_)
     refine RW.v ?_
     refine RW.len (by kernel_rfl) (by kernel_rfl) rfl rfl rfl rfl ((al.2 i (by omega)).slf.len (e := 21) (by kernel_rfl)) (by kernel_rfl) ?_
     refine RW.v ?_
     refine RW.nil ?_
     refine W.rg [(1, cv), (3, v3), (4, .pointer (some ⟨b1, 0, none⟩)), (10, u), (11, .int .i64 ((i : Nat) : Int)), (13, .int .i64 ((ws.getD i []).length : Int)), (14, v2), (15, .int .i64 (ws.length : Int)), (16, .int .i64 ((i : Nat) : Int))] fun TA => ?_
     refine W.seq ?_
     refine W.block ?_
     have hwc : (ws.getD i []).length ≤ c.length := beg_len hc8e
     refine W.loop (fun mm2 ta σ => ∃ (e : Nat), (c.length ≤ mm2 + e) ∧ (e ≤ c.length) ∧ ((ws.getD i []).length ≤ e) ∧ (endC c (ws.getD i []).length = endC c e) ∧ Lies G A F σ (.sl 50 1 u acc.length cs :: .at_ b1 (.row ⟨[.func (.func 84) #[] #[]], 47, false⟩) :: (L)) ∧ ta 1 = cv ∧ ta 3 = v3 ∧ ta 4 = .pointer (some ⟨b1, 0, none⟩) ∧ ta 10 = u ∧ ta 11 = .int .i64 ((i : Nat) : Int) ∧ ta 13 = .int .i64 ((e : Nat) : Int) ∧ ta 14 = v2 ∧ ta 15 = .int .i64 (ws.length : Int) ∧ ta 16 = .int .i64 ((i : Nat) : Int)) c.length ?_ ?_
     ·exact ⟨(ws.getD i []).length, (by omega), (by omega), (by omega), rfl, H, rfl, rfl, rfl, rfl, rfl, rfl, rfl, rfl, rfl⟩
     clear H
     rintro mm2 ta _ ⟨e, hm2, hec0, hwe, hE0, H, e1, e3, e4, e10, e11, e13, e14, e15, e16⟩
     refine W.rst [(1, cv), (3, v3), (4, .pointer (some ⟨b1, 0, none⟩)), (10, u), (11, .int .i64 ((i : Nat) : Int)), (13, .int .i64 ((e : Nat) : Int)), (14, v2), (15, .int .i64 (ws.length : Int)), (16, .int .i64 ((i : Nat) : Int))] ⟨e1, e3, e4, e10, e11, e13, e14, e15, e16, trivial⟩ fun TA => ?_
     clear e1 e3 e4 e10 e11 e13 e14 e15 e16
     refine W.seq ?_
     refine W.seq (W.region ?_)
     iterate 2 refine RW.v ?_
     refine RW.len (by kernel_rfl) (by kernel_rfl) rfl rfl rfl rfl (hc.slf.len (e := 21) (by kernel_rfl)) (by kernel_rfl) ?_
     iterate 2 refine RW.v ?_
     refine RW.both _ _ rfl rfl rfl (fun hc12 => ?_) (fun hc12 => ?_)
     ·have hc12b := hc12
      have hc12 := of_decide_eq_true hc12
      have hec : e < c.length := by omega
      iterate 2 refine RW.w ?_
      refine RW.idxF hc.slf (by rfl) (by kernel_rfl) rfl Tryd.underlying50 (by kernel_rfl) rfl rfl ⟨by omega, by omega⟩ (by kernel_rfl) ?_
      intro b13 q14 r15 hF16 hE17
      rw [runs_at (l := c) (j := e) (i := ((e : Nat) : Int)) (by omega) (by omega)] at hE17
      refine RW.loads 1 (by rfl) (by kernel_rfl) rfl rfl (H.old _ _ hF16) hE17 rfl (by kernel_rfl) ?_
      refine RW.cl (hw := by rfl) ?_
      refine ((delim_wc (c := (c.getD e 0)) H).mono ?_)
      clear H
      rintro _ _ ⟨rfl, H⟩
      refine RW.w ?_
      refine RW.v ?_
      refine RW.nil ?_
      refine W.rg [(1, cv), (3, v3), (4, .pointer (some ⟨b1, 0, none⟩)), (10, u), (11, .int .i64 ((i : Nat) : Int)), (13, .int .i64 ((e : Nat) : Int)), (14, v2), (15, .int .i64 (ws.length : Int)), (16, .int .i64 ((i : Nat) : Int)), (43, .bool (!(delC (c.getD e 0))))] fun TA => ?_
      refine W.cond rfl (fun hc18 => ?_) (fun hc18 => ?_)
      ·have hc18b := hc18
       have hc18e : delC (c.getD e 0) = false := by simpa using hc18b
       refine W.skip ?_
       refine W.block ?_
       refine W.region ?_
       refine RW.v ?_
       refine RW.valE (v' := .int .i64 (((e : Nat) : Int) + 1)) (by kernel_rfl) (by kernel_rfl) rfl (congrArg (Value.int .i64) (wrap_in (by omega) (by omega))) (by kernel_rfl) ?_
       refine RW.v ?_
       refine RW.nil ?_
       refine bQn ?_
       exact ⟨rfl, mm2 - 1, by omega, e + 1, (by omega), (by omega), (by omega), (by rw [hE0, endC_go hec hc18e]), H, rfl, rfl, rfl, rfl, rfl, rfl, rfl, rfl, rfl⟩
      ·have hc18b := hc18
       have hc18e : delC (c.getD e 0) = true := by simpa using hc18b
       refine W.exit _ ?_
       refine seqQ_exit ?_
       refine rndQ_exit ?_
       have hE : endC c (ws.getD i []).length = e := by rw [hE0]; exact endC_stop hec hc18e
       refine blkQ_here ?_
       refine W.seq ?_
       refine W.seq ?_
       refine W.drawn (by kernel_rfl) (by kernel_rfl) H.gn ?_
       have H19 := H
       iterate 2 refine RW.v ?_
       refine RW.len (by kernel_rfl) (by kernel_rfl) rfl rfl rfl rfl (hc.slf.len (e := 21) (by kernel_rfl)) (by kernel_rfl) ?_
       iterate 2 refine RW.v ?_
       refine RW.both _ _ rfl rfl rfl (fun hc20 => ?_) (fun hc20 => ?_)
       ·have hc20b := hc20
        have hc20 := eq_of_beq hc20
        have hbad : endC c (ws.getD i []).length = c.length ∨ c.getD (endC c (ws.getD i []).length) 0 ≠ ms.getD i 0 := .inl (by rw [hE]; omega)
        iterate 9 refine RW.s ?_
        refine RW.v ?_
        refine RW.nil ?_
        refine ⟨⟨by kernel_rfl, ⟨trivial, trivial, trivial, trivial, trivial, trivial, trivial, trivial, trivial, trivial, trivial, trivial, trivial, trivial, trivial, trivial⟩⟩, ?_⟩
        replace H := H19
        clear H19
        refine W.c1 ?_
        refine W.seq (W.region ?_)
        iterate 2 refine RW.v ?_
        refine RW.nil ?_
        replace H := ((H.del 1).del 0)
        dsimp only [setL, delL] at H
        refine W.ret ?_
        refine seqQ_ret ?_
        refine blkQ_ret ?_
        refine seqQ_ret ?_
        refine rndQ_ret ?_
        refine blkQ_ret ?_
        refine seqQ_ret ?_
        refine endG (by rfl) (by exact resL_tmp (by exact resL_tmp rfl)) ?_
        have hM : matchG true c0 ws ms = none := by rw [hT, match_bad hil him hc8e hbad]; rfl
        rw [hM]
        exact ⟨F, _, [], fun _ _ h => h, rfl, .nil, AllZ.nil, H⟩
       ·have hc20b := hc20
        have hc20 := ne_of_beq_false hc20
        have hne : e ≠ c.length := by omega
        iterate 2 refine RW.w ?_
        refine RW.idxF hc.slf (by rfl) (by kernel_rfl) rfl Tryd.underlying50 (by kernel_rfl) rfl rfl ⟨by omega, by omega⟩ (by kernel_rfl) ?_
        intro b21 q22 r23 hF24 hE25
        rw [runs_at (l := c) (j := e) (i := ((e : Nat) : Int)) (by omega) (by omega)] at hE25
        refine RW.loads 1 (by rfl) (by kernel_rfl) rfl rfl (H19.old _ _ hF24) hE25 rfl (by kernel_rfl) ?_
        iterate 2 refine RW.w ?_
        refine RW.idxF h3 (by rfl) (by kernel_rfl) rfl Tryd.underlying50 (by kernel_rfl) rfl rfl ⟨by omega, by omega⟩ (by kernel_rfl) ?_
        intro b26 q27 r28 hF29 hE30
        rw [runs_at (l := ms) (j := i) (i := ((i : Nat) : Int)) (by omega) (by omega)] at hE30
        refine RW.loads 1 (by rfl) (by kernel_rfl) rfl rfl (H19.old _ _ hF29) hE30 rfl (by kernel_rfl) ?_
        refine RW.w ?_
        refine RW.v ?_
        refine RW.nil ?_
        refine ⟨⟨by kernel_rfl, ⟨trivial, trivial, trivial, trivial, trivial, trivial, trivial, trivial, dyn_row (H19.old _ _ hF24) (H19.old _ _ hF24) ⟨nB, nB, nB, nB, nB, nB, nB, nB, nB, nB, nB, nB, nB, nB, nB, trivial⟩, trivial, trivial, trivial, dyn_row (H19.old _ _ hF29) (H19.old _ _ hF29) ⟨nB, nB, nB, nB, nB, nB, nB, nB, nB, nB, nB, nB, nB, nB, nB, trivial⟩, trivial, trivial, trivial⟩⟩, ?_⟩
        replace H := H19
        clear H19
        refine W.rg [(1, cv), (3, v3), (4, .pointer (some ⟨b1, 0, none⟩)), (10, u), (13, .int .i64 ((e : Nat) : Int)), (14, v2), (15, .int .i64 (ws.length : Int)), (16, .int .i64 ((i : Nat) : Int)), (60, .bool ((c.getD e 0) != (ms.getD i 0)))] fun TA => ?_
        refine W.cond rfl (fun hc31 => ?_) (fun hc31 => ?_)
        ·have hc31b := hc31
         have hc31 := bne_iff_ne.1 hc31
         have hbad : endC c (ws.getD i []).length = c.length ∨ c.getD (endC c (ws.getD i []).length) 0 ≠ ms.getD i 0 := .inr (by rw [hE]; exact hc31)
         refine W.seq (W.region ?_)
         iterate 2 refine RW.v ?_
         refine RW.nil ?_
         replace H := ((H.del 1).del 0)
         dsimp only [setL, delL] at H
         refine W.ret ?_
         refine seqQ_ret ?_
         refine blkQ_ret ?_
         refine seqQ_ret ?_
         refine rndQ_ret ?_
         refine blkQ_ret ?_
         refine seqQ_ret ?_
         refine endG (by rfl) (by exact resL_tmp (by exact resL_tmp rfl)) ?_
         have hM : matchG true c0 ws ms = none := by rw [hT, match_bad hil him hc8e hbad]; rfl
         rw [hM]
         exact ⟨F, _, [], fun _ _ h => h, rfl, .nil, AllZ.nil, H⟩
        ·have hc31b := hc31
         have hc31 := (bne_eq_false_iff_eq.1) hc31
         have hmk : c.getD e 0 = ms.getD i 0 := hc31
         refine W.skip ?_
         refine W.drawn (by kernel_rfl) (by kernel_rfl) H.gn ?_
         have H32 := H
         iterate 3 refine RW.v ?_
         obtain ⟨wv33, hv34, hk35⟩ := slk_cut (P := Tryd.prog) (t := 50) (e := 21) (i := e) hc (by kernel_rfl) (by kernel_rfl) (by omega)
         have hk35b : SlK F 1 wv33 (c.take e).length ((c.take e).map runeV) := by rw [Nat.mul_one] at hk35; rw [List.length_take, Nat.min_eq_left (by omega), List.map_take]; exact hk35
         refine RW.vop (v := wv33) (by kernel_rfl) (by kernel_rfl) (vop_slice rfl hv34) (by kernel_rfl) ?_
         refine RW.mkD H32 (x := .row ⟨[wv33], 50, false⟩) (fm := fun b => .slice (some ⟨b, 0, none⟩) 1 1) (by kernel_rfl) (by kernel_rfl) (by rcases slf_forms hk35b.slf with rfl | ⟨_, rfl⟩ | ⟨_, _, _, _, _, rfl⟩ <;> kernel_rfl) (by kernel_rfl) ?_
         intro _ b36 H37
         refine RW.appLB H37 1 0 (n := 1) (e2 := 50) (by kernel_rfl) (by kernel_rfl) rfl rfl rfl rfl rfl rfl rfl (.inl rfl) rfl (by kernel_rfl) (by kernel_rfl) (by kernel_rfl) (by decide) (by decide) rfl (slf_all hk35b.slf) (by omega) (by kernel_rfl) ?_
         intro _ v38 H39
         dsimp only [setL, delL] at H39
         iterate 2 refine RW.v ?_
         refine RW.valE (v' := .int .i64 (((e : Nat) : Int) + 1)) (by kernel_rfl) (by kernel_rfl) rfl (congrArg (Value.int .i64) (wrap_in (by omega) (by omega))) (by kernel_rfl) ?_
         obtain ⟨wr40, hv41, hk42⟩ := slk_rest (P := Tryd.prog) (t := 50) (e := 21) (i := (e + 1)) hc (by kernel_rfl) (by kernel_rfl) (by omega)
         have hk42b : SlK F 1 wr40 (c.drop (e + 1)).length ((c.drop (e + 1)).map runeV) := by rw [Nat.mul_one] at hk42; rw [List.length_drop, List.map_drop]; exact hk42
         rw [show (((e + 1) : Nat) : Int) = ((e : Nat) : Int) + 1 from by omega] at hv41
         refine RW.vop (v := wr40) (by kernel_rfl) (by kernel_rfl) (vop_slice rfl hv41) (by kernel_rfl) ?_
         iterate 2 refine RW.v ?_
         refine RW.nil ?_
         refine ⟨⟨by kernel_rfl, ⟨trivial, trivial, trivial, trivial, Or.inl (by kernel_rfl), trivial, trivial, trivial, trivial, trivial, trivial, trivial, trivial⟩⟩, ?_⟩
         replace H := H39
         clear H32 H37 H39
         refine bQn ?_
         refine W.rg [(1, wr40), (3, v3), (4, .pointer (some ⟨b1, 0, none⟩)), (10, v38), (14, v2), (15, .int .i64 (ws.length : Int)), (16, .int .i64 ((i : Nat) : Int))] fun TA => ?_
         refine W.region ?_
         refine RW.valE (v' := .int .i64 (((i : Nat) : Int) + 1)) (by kernel_rfl) (by kernel_rfl) rfl (congrArg (Value.int .i64) (wrap_in (by omega) (by omega))) (by kernel_rfl) ?_
         refine RW.v ?_
         refine RW.nil ?_
         rw [show acc.length + 1 = (acc ++ [c.take e]).length by rw [List.length_append]; rfl] at H
         exact ⟨rfl, mm - 1, by omega, i + 1, (c.drop (e + 1)), wr40, (acc ++ [c.take e]), (cs ++ [wv33]), v38, (by omega), (by omega), hk42b, (fun x h => hcb x (List.mem_of_mem_drop h)), (by rw [List.length_drop]; omega), (al2.snoc hk35b), (by rw [List.length_append, List.length_singleton]; omega), (by rw [hT, match_go hil him hc8e hE hne hmk, Option.map_map]; congr 1; funext r; show acc ++ (c.take e :: r) = acc ++ [c.take e] ++ r; rw [List.append_assoc]; rfl), H, rfl, rfl, rfl, rfl, rfl, rfl, rfl⟩
     ·have hc12b := hc12
      have hc12 := of_decide_eq_false hc12
      iterate 6 refine RW.s ?_
      refine RW.v ?_
      refine RW.nil ?_
      refine W.c0 ?_
      refine W.exit _ ?_
      refine seqQ_exit ?_
      refine rndQ_exit ?_
      have hE : endC c (ws.getD i []).length = e := by rw [hE0]; exact endC_end (by omega)
      refine blkQ_here ?_
      refine W.seq ?_
      refine W.seq ?_
      refine W.drawn (by kernel_rfl) (by kernel_rfl) H.gn ?_
      have H43 := H
      iterate 2 refine RW.v ?_
      refine RW.len (by kernel_rfl) (by kernel_rfl) rfl rfl rfl rfl (hc.slf.len (e := 21) (by kernel_rfl)) (by kernel_rfl) ?_
      iterate 2 refine RW.v ?_
      refine RW.both _ _ rfl rfl rfl (fun hc44 => ?_) (fun hc44 => ?_)
      ·have hc44b := hc44
       have hc44 := eq_of_beq hc44
       have hbad : endC c (ws.getD i []).length = c.length ∨ c.getD (endC c (ws.getD i []).length) 0 ≠ ms.getD i 0 := .inl (by rw [hE]; omega)
       iterate 9 refine RW.s ?_
       refine RW.v ?_
       refine RW.nil ?_
       refine ⟨⟨by kernel_rfl, ⟨trivial, trivial, trivial, trivial, trivial, trivial, trivial, trivial, trivial, trivial, trivial, trivial, trivial, trivial, trivial, trivial⟩⟩, ?_⟩
       replace H := H43
       clear H43
       refine W.c1 ?_
       refine W.seq (W.region ?_)
       iterate 2 refine RW.v ?_
       refine RW.nil ?_
       replace H := ((H.del 1).del 0)
       dsimp only [setL, delL] at H
       refine W.ret ?_
       refine seqQ_ret ?_
       refine blkQ_ret ?_
       refine seqQ_ret ?_
       refine rndQ_ret ?_
       refine blkQ_ret ?_
       refine seqQ_ret ?_
       refine endG (by rfl) (by exact resL_tmp (by exact resL_tmp rfl)) ?_
       have hM : matchG true c0 ws ms = none := by rw [hT, match_bad hil him hc8e hbad]; rfl
       rw [hM]
       exact ⟨F, _, [], fun _ _ h => h, rfl, .nil, AllZ.nil, H⟩
      ·have hc44b := hc44
       have hc44 := ne_of_beq_false hc44
       have hne : e ≠ c.length := by omega
       iterate 2 refine RW.w ?_
       refine RW.idxF hc.slf (by rfl) (by kernel_rfl) rfl Tryd.underlying50 (by kernel_rfl) rfl rfl ⟨by omega, by omega⟩ (by kernel_rfl) ?_
       intro b45 q46 r47 hF48 hE49
       rw [runs_at (l := c) (j := e) (i := ((e : Nat) : Int)) (by omega) (by omega)] at hE49
       refine RW.loads 1 (by rfl) (by kernel_rfl) rfl rfl (H43.old _ _ hF48) hE49 rfl (by kernel_rfl) ?_
       iterate 2 refine RW.w ?_
       refine RW.idxF h3 (by rfl) (by kernel_rfl) rfl Tryd.underlying50 (by kernel_rfl) rfl rfl ⟨by omega, by omega⟩ (by kernel_rfl) ?_
       intro b50 q51 r52 hF53 hE54
       rw [runs_at (l := ms) (j := i) (i := ((i : Nat) : Int)) (by omega) (by omega)] at hE54
       refine RW.loads 1 (by rfl) (by kernel_rfl) rfl rfl (H43.old _ _ hF53) hE54 rfl (by kernel_rfl) ?_
       refine RW.w ?_
       refine RW.v ?_
       refine RW.nil ?_
       refine ⟨⟨by kernel_rfl, ⟨trivial, trivial, trivial, trivial, trivial, trivial, trivial, trivial, dyn_row (H43.old _ _ hF48) (H43.old _ _ hF48) ⟨nB, nB, nB, nB, nB, nB, nB, nB, nB, nB, nB, nB, nB, nB, nB, trivial⟩, trivial, trivial, trivial, dyn_row (H43.old _ _ hF53) (H43.old _ _ hF53) ⟨nB, nB, nB, nB, nB, nB, nB, nB, nB, nB, nB, nB, nB, nB, nB, trivial⟩, trivial, trivial, trivial⟩⟩, ?_⟩
       replace H := H43
       clear H43
       refine W.rg [(1, cv), (3, v3), (4, .pointer (some ⟨b1, 0, none⟩)), (10, u), (13, .int .i64 ((e : Nat) : Int)), (14, v2), (15, .int .i64 (ws.length : Int)), (16, .int .i64 ((i : Nat) : Int)), (60, .bool ((c.getD e 0) != (ms.getD i 0)))] fun TA => ?_
       refine W.cond rfl (fun hc55 => ?_) (fun hc55 => ?_)
       ·have hc55b := hc55
        have hc55 := bne_iff_ne.1 hc55
        have hbad : endC c (ws.getD i []).length = c.length ∨ c.getD (endC c (ws.getD i []).length) 0 ≠ ms.getD i 0 := .inr (by rw [hE]; exact hc55)
        refine W.seq (W.region ?_)
        iterate 2 refine RW.v ?_
        refine RW.nil ?_
        replace H := ((H.del 1).del 0)
        dsimp only [setL, delL] at H
        refine W.ret ?_
        refine seqQ_ret ?_
        refine blkQ_ret ?_
        refine seqQ_ret ?_
        refine rndQ_ret ?_
        refine blkQ_ret ?_
        refine seqQ_ret ?_
        refine endG (by rfl) (by exact resL_tmp (by exact resL_tmp rfl)) ?_
        have hM : matchG true c0 ws ms = none := by rw [hT, match_bad hil him hc8e hbad]; rfl
        rw [hM]
        exact ⟨F, _, [], fun _ _ h => h, rfl, .nil, AllZ.nil, H⟩
       ·have hc55b := hc55
        have hc55 := (bne_eq_false_iff_eq.1) hc55
        have hmk : c.getD e 0 = ms.getD i 0 := hc55
        refine W.skip ?_
        refine W.drawn (by kernel_rfl) (by kernel_rfl) H.gn ?_
        have H56 := H
        iterate 3 refine RW.v ?_
        obtain ⟨wv57, hv58, hk59⟩ := slk_cut (P := Tryd.prog) (t := 50) (e := 21) (i := e) hc (by kernel_rfl) (by kernel_rfl) (by omega)
        have hk59b : SlK F 1 wv57 (c.take e).length ((c.take e).map runeV) := by rw [Nat.mul_one] at hk59; rw [List.length_take, Nat.min_eq_left (by omega), List.map_take]; exact hk59
        refine RW.vop (v := wv57) (by kernel_rfl) (by kernel_rfl) (vop_slice rfl hv58) (by kernel_rfl) ?_
        refine RW.mkD H56 (x := .row ⟨[wv57], 50, false⟩) (fm := fun b => .slice (some ⟨b, 0, none⟩) 1 1) (by kernel_rfl) (by kernel_rfl) (by rcases slf_forms hk59b.slf with rfl | ⟨_, rfl⟩ | ⟨_, _, _, _, _, rfl⟩ <;> kernel_rfl) (by kernel_rfl) ?_
        intro _ b60 H61
        refine RW.appLB H61 1 0 (n := 1) (e2 := 50) (by kernel_rfl) (by kernel_rfl) rfl rfl rfl rfl rfl rfl rfl (.inl rfl) rfl (by kernel_rfl) (by kernel_rfl) (by kernel_rfl) (by decide) (by decide) rfl (slf_all hk59b.slf) (by omega) (by kernel_rfl) ?_
        intro _ v62 H63
        dsimp only [setL, delL] at H63
        iterate 2 refine RW.v ?_
        refine RW.valE (v' := .int .i64 (((e : Nat) : Int) + 1)) (by kernel_rfl) (by kernel_rfl) rfl (congrArg (Value.int .i64) (wrap_in (by omega) (by omega))) (by kernel_rfl) ?_
        obtain ⟨wr64, hv65, hk66⟩ := slk_rest (P := Tryd.prog) (t := 50) (e := 21) (i := (e + 1)) hc (by kernel_rfl) (by kernel_rfl) (by omega)
        have hk66b : SlK F 1 wr64 (c.drop (e + 1)).length ((c.drop (e + 1)).map runeV) := by rw [Nat.mul_one] at hk66; rw [List.length_drop, List.map_drop]; exact hk66
        rw [show (((e + 1) : Nat) : Int) = ((e : Nat) : Int) + 1 from by omega] at hv65
        refine RW.vop (v := wr64) (by kernel_rfl) (by kernel_rfl) (vop_slice rfl hv65) (by kernel_rfl) ?_
        iterate 2 refine RW.v ?_
        refine RW.nil ?_
        refine ⟨⟨by kernel_rfl, ⟨trivial, trivial, trivial, trivial, Or.inl (by kernel_rfl), trivial, trivial, trivial, trivial, trivial, trivial, trivial, trivial⟩⟩, ?_⟩
        replace H := H63
        clear H56 H61 H63
        refine bQn ?_
        refine W.rg [(1, wr64), (3, v3), (4, .pointer (some ⟨b1, 0, none⟩)), (10, v62), (14, v2), (15, .int .i64 (ws.length : Int)), (16, .int .i64 ((i : Nat) : Int))] fun TA => ?_
        refine W.region ?_
        refine RW.valE (v' := .int .i64 (((i : Nat) : Int) + 1)) (by kernel_rfl) (by kernel_rfl) rfl (congrArg (Value.int .i64) (wrap_in (by omega) (by omega))) (by kernel_rfl) ?_
        refine RW.v ?_
        refine RW.nil ?_
        rw [show acc.length + 1 = (acc ++ [c.take e]).length by rw [List.length_append]; rfl] at H
        exact ⟨rfl, mm - 1, by omega, i + 1, (c.drop (e + 1)), wr64, (acc ++ [c.take e]), (cs ++ [wv57]), v62, (by omega), (by omega), hk66b, (fun x h => hcb x (List.mem_of_mem_drop h)), (by rw [List.length_drop]; omega), (al2.snoc hk59b), (by rw [List.length_append, List.length_singleton]; omega), (by rw [hT, match_go hil him hc8e hE hne hmk, Option.map_map]; congr 1; funext r; show acc ++ (c.take e :: r) = acc ++ [c.take e] ++ r; rw [List.append_assoc]; rfl), H, rfl, rfl, rfl, rfl, rfl, rfl, rfl⟩
  ·have hc2b := hc2
   have hc2 := of_decide_eq_false hc2
   refine W.exit _ ?_
   refine seqQ_exit ?_
   refine rndQ_exit ?_
   have hM : matchG true c0 ws ms = some (acc ++ [c]) := by rw [hT, List.drop_eq_nil_of_le (show ws.length ≤ i by omega), matchG]; rfl
   refine blkQ_here ?_
   refine W.seq (W.region ?_)
   iterate 2 refine RW.v ?_
   refine RW.mkL H (x := .row ⟨[cv], 50, false⟩) (fm := fun b => .slice (some ⟨b, 0, none⟩) 1 1) (by kernel_rfl) (by kernel_rfl) (by rcases slf_forms hc.slf with rfl | ⟨_, rfl⟩ | ⟨_, _, _, _, _, rfl⟩ <;> kernel_rfl) (by kernel_rfl) ?_
   clear H; intro _ b67 _ H
   refine RW.appL H 1 0 (n := 1) (e2 := 50) (by kernel_rfl) (by kernel_rfl) rfl rfl rfl rfl rfl rfl rfl rfl (by kernel_rfl) (by kernel_rfl) (by kernel_rfl) (by decide) (by decide) rfl (slf_all hc.slf) (by omega) (by kernel_rfl) ?_
   clear H; intro _ v68 _ H
   dsimp only [setL, delL] at H
   iterate 2 refine RW.v ?_
   refine RW.nil ?_
   replace H := (H.del 1)
   dsimp only [setL, delL] at H
   refine W.ret ?_
   refine endG (by rfl) (by exact resL_tmp (by exact resL_tmp rfl)) ?_
   rw [hM]
   have al3 := al2.snoc hc
   obtain ⟨F', le, hu, H⟩ := H.freezeK 0 rfl
   dsimp only [setL, delL] at H
   exact ⟨F', _, cs ++ [cv], le, rfl, by show SlK F' 1 _ (acc ++ [c]).length _; rw [List.length_append]; exact hu, al3.le le, H⟩
 | false =>
  refine WC.enter (fn := Tryd.f43) Tryd.func43 rfl ?_
  refine W.rg [(0, .agg #[.func (.func 86) #[] #[]]), (1, v1), (2, v2), (3, v3)] fun TA => ?_
  refine W.seq (W.region ?_)
  refine RW.mk H (.row ⟨[.func (.func 86) #[] #[]], 47, false⟩) ?_
  clear H; intro _ b1 _ H
  iterate 2 refine RW.v ?_
  refine RW.nil ?_
  refine W.rg [(1, v1), (2, v2), (3, v3), (4, .pointer (some ⟨b1, 0, none⟩))] fun TA => ?_
  refine W.seq (W.region ?_)
  refine RW.v ?_
  refine RW.nil ?_
  refine W.rg [(1, v1), (2, v2), (3, v3), (4, .pointer (some ⟨b1, 0, none⟩)), (10, .slice none 0 0)] fun TA => ?_
  refine W.seq ?_
  refine W.seq (W.region ?_)
  refine RW.v ?_
  refine RW.len (by kernel_rfl) (by kernel_rfl) rfl rfl rfl rfl (h2.slf.len (e := 50) (by kernel_rfl)) (by kernel_rfl) ?_
  refine RW.v ?_
  refine RW.nil ?_
  refine W.rg [(1, v1), (3, v3), (4, .pointer (some ⟨b1, 0, none⟩)), (10, .slice none 0 0), (14, v2), (15, .int .i64 (ws.length : Int)), (16, .int .i64 0)] fun TA => ?_
  refine W.block ?_
  replace H := H.nilSl 50 1
  refine W.loop (fun mm ta σ => ∃ (i : Nat) (c : List Int) (cv : Value) (acc : List (List Int)) (cs : List Value) (u : Value), (mm + i = ws.length) ∧ (i ≤ ms.length) ∧ (SlK F 1 cv c.length (c.map runeV)) ∧ (∀ x ∈ c, 0 ≤ x ∧ x ≤ 1114111) ∧ (c.length ≤ 1000000) ∧ (AllZ F cs acc) ∧ (acc.length ≤ i) ∧ (matchG false c0 ws ms = (matchG false c (ws.drop i) (ms.drop i)).map (acc ++ ·)) ∧ Lies G A F σ (.sl 50 1 u acc.length cs :: .at_ b1 (.row ⟨[.func (.func 86) #[] #[]], 47, false⟩) :: (L)) ∧ ta 1 = cv ∧ ta 3 = v3 ∧ ta 4 = .pointer (some ⟨b1, 0, none⟩) ∧ ta 10 = u ∧ ta 14 = v2 ∧ ta 15 = .int .i64 (ws.length : Int) ∧ ta 16 = .int .i64 ((i : Nat) : Int)) ws.length ?_ ?_
  ·exact ⟨0, c0, v1, [], [], .slice none 0 0, (by omega), (Nat.zero_le _), h1, hcb0, hl, AllZ.nil, (Nat.zero_le _), (by rw [List.drop_zero, List.drop_zero]; cases matchG false c0 ws ms <;> rfl), H, rfl, rfl, rfl, rfl, rfl, rfl, rfl⟩
  clear H
  rintro mm ta _ ⟨i, c, cv, acc, cs, u, hm, hi, hc, hcb, hcl, al2, hac, hT, H, e1, e3, e4, e10, e14, e15, e16⟩
  refine W.rst [(1, cv), (3, v3), (4, .pointer (some ⟨b1, 0, none⟩)), (10, u), (14, v2), (15, .int .i64 (ws.length : Int)), (16, .int .i64 ((i : Nat) : Int))] ⟨e1, e3, e4, e10, e14, e15, e16, trivial⟩ fun TA => ?_
  clear e1 e3 e4 e10 e14 e15 e16
  refine W.seq (W.region ?_)
  refine RW.v ?_
  refine RW.nil ?_
  refine W.rg [(1, cv), (3, v3), (4, .pointer (some ⟨b1, 0, none⟩)), (10, u), (14, v2), (15, .int .i64 (ws.length : Int)), (16, .int .i64 ((i : Nat) : Int)), (17, .bool (decide (((i : Nat) : Int) < (ws.length : Int))))] fun TA => ?_
  refine W.seq ?_
  refine W.cond rfl (fun hc2 => ?_) (fun hc2 => ?_)
  ·have hc2b := hc2
   have hc2 := of_decide_eq_true hc2
   have hil : i < ws.length := by omega
   refine W.skip ?_
   refine W.seq ?_
   refine W.block ?_
   refine W.seq (W.region ?_)
   refine RW.v ?_
   refine RW.idxF h2.slf (by kernel_rfl) (by kernel_rfl) rfl Tryd.underlying49 (by kernel_rfl) rfl rfl ⟨by omega, by omega⟩ (by kernel_rfl) ?_
   intro b3 q4 r5 hF6 hE7
   rw [vals_at (l := wsl) (j := i) (i := ((i : Nat) : Int)) (by omega) (by have := al.1; omega)] at hE7
   refine RW.loads 1 (by kernel_rfl) (by kernel_rfl) rfl rfl (H.old _ _ hF6) hE7 rfl (by kernel_rfl) ?_
   iterate 2 refine RW.v ?_
   refine RW.nil ?_
   refine W.rg [(1, cv), (3, v3), (4, .pointer (some ⟨b1, 0, none⟩)), (10, u), (11, .int .i64 ((i : Nat) : Int)), (12, (wsl.getD i undef)), (14, v2), (15, .int .i64 (ws.length : Int)), (16, .int .i64 ((i : Nat) : Int))] fun TA => ?_
   refine W.seq ?_
   refine W.seq (W.region ?_)
   refine RW.ld H 1 1 ?_
   iterate 2 refine RW.v ?_
   refine RW.cl ?_
   refine ((begins_wc (fold := false) hc (al.2 i (by omega)).slf hcl hcb (hwb _ (lst_mem (by omega))) H).mono ?_)
   clear H
   rintro _ _ ⟨rfl, H⟩
   refine RW.v ?_
   refine RW.nil ?_
   refine W.rg [(1, cv), (3, v3), (4, .pointer (some ⟨b1, 0, none⟩)), (10, u), (11, .int .i64 ((i : Nat) : Int)), (12, (wsl.getD i undef)), (14, v2), (15, .int .i64 (ws.length : Int)), (16, .int .i64 ((i : Nat) : Int)), (25, .bool (!(begC false c (ws.getD i []))))] fun TA => ?_
   refine W.cond rfl (fun hc8 => ?_) (fun hc8 => ?_)
   ·have hc8b := hc8
    have hc8e : begC false c (ws.getD i []) = false := by simpa using hc8b
    refine W.seq (W.region ?_)
    iterate 2 refine RW.v ?_
    refine RW.nil ?_
    replace H := ((H.del 1).del 0)
    dsimp only [setL, delL] at H
    refine W.ret ?_
    refine seqQ_ret ?_
    refine blkQ_ret ?_
    refine seqQ_ret ?_
    refine rndQ_ret ?_
    refine blkQ_ret ?_
    refine seqQ_ret ?_
    refine endG (by rfl) (by exact resL_tmp (by exact resL_tmp rfl)) ?_
    have hM : matchG false c0 ws ms = none := by rw [hT, match_no hil hc8e]; rfl
    rw [hM]
    exact ⟨F, _, [], fun _ _ h => h, rfl, .nil, AllZ.nil, H⟩
   ·have hc8b := hc8
    have hc8e : begC false c (ws.getD i []) = true := by simpa using hc8b
    refine W.skip ?_
    refine W.seq ?_
    refine W.seq (W.region ?_)
    iterate 2 refine RW.v ?_
    refine RW.len (by kernel_rfl) (by kernel_rfl) rfl rfl rfl rfl (h3.len (e := 21) (by kernel_rfl)) (by kernel_rfl) ?_
    refine RW.v ?_
    refine RW.nil ?_
    refine W.rg [(1, cv), (3, v3), (4, .pointer (some ⟨b1, 0, none⟩)), (10, u), (11, .int .i64 ((i : Nat) : Int)), (12, (wsl.getD i undef)), (14, v2), (15, .int .i64 (ws.length : Int)), (16, .int .i64 ((i : Nat) : Int)), (29, .bool (((i : Nat) : Int) == (ms.length : Int)))] fun TA => ?_
    refine W.cond rfl (fun hc9 => ?_) (fun hc9 => ?_)
    ·have hc9b := hc9
     have hc9 := eq_of_beq hc9
     refine W.exit _ ?_
     refine seqQ_exit ?_
     refine blkQ_out rfl ?_
     refine seqQ_exit ?_
     refine rndQ_exit ?_
     have hM : matchG false c0 ws ms = some (acc ++ [c]) := by rw [hT, List.drop_eq_nil_of_le (show ms.length ≤ i by omega), dropD (d := []) hil, match_last hc8e]; rfl
     refine blkQ_here ?_
     refine W.seq (W.region ?_)
     iterate 2 refine RW.v ?_
     refine RW.mkL H (x := .row ⟨[cv], 50, false⟩) (fm := fun b => .slice (some ⟨b, 0, none⟩) 1 1) (by kernel_rfl) (by kernel_rfl) (by rcases slf_forms hc.slf with rfl | ⟨_, rfl⟩ | ⟨_, _, _, _, _, rfl⟩ <;> kernel_rfl) (by kernel_rfl) ?_
     clear H; intro _ b10 _ H
     refine RW.appL H 1 0 (n := 1) (e2 := 50) (by kernel_rfl) (by kernel_rfl) rfl rfl rfl rfl rfl rfl rfl rfl (by kernel_rfl) (by kernel_rfl) (by kernel_rfl) (by decide) (by decide) rfl (slf_all hc.slf) (by omega) (by kernel_rfl) ?_
     clear H; intro _ v11 _ H
     dsimp only [setL, delL] at H
     iterate 2 refine RW.v ?_
     refine RW.nil ?_
     replace H := (H.del 1)
     dsimp only [setL, delL] at H
     refine W.ret ?_
     refine endG (by rfl) (by exact resL_tmp (by exact resL_tmp rfl)) ?_
     rw [hM]
     have al3 := al2.snoc hc
     obtain ⟨F', le, hu, H⟩ := H.freezeK 0 rfl
     dsimp only [setL, delL] at H
     exact ⟨F', _, cs ++ [cv], le, rfl, by show SlK F' 1 _ (acc ++ [c]).length _; rw [List.length_append]; exact hu, al3.le le, H⟩
    ·have hc9b := hc9
     have hc9 := ne_of_beq_false hc9
     have him : i < ms.length := by omega
     refine W.skip ?_
     refine W.seq (W.region ?_)
     refine RW.v ?_
     refine RW.len (by kernel_rfl) (by kernel_rfl) rfl rfl rfl rfl ((al.2 i (by omega)).slf.len (e := 21) (by kernel_rfl)) (by kernel_rfl) ?_
     refine RW.v ?_
     refine RW.nil ?_
     refine W.rg [(1, cv), (3, v3), (4, .pointer (some ⟨b1, 0, none⟩)), (10, u), (11, .int .i64 ((i : Nat) : Int)), (13, .int .i64 ((ws.getD i []).length : Int)), (14, v2), (15, .int .i64 (ws.length : Int)), (16, .int .i64 ((i : Nat) : Int))] fun TA => ?_
     refine W.seq ?_
     refine W.block ?_
     have hwc : (ws.getD i []).length ≤ c.length := beg_len hc8e
     refine W.loop (fun mm2 ta σ => ∃ (e : Nat), (c.length ≤ mm2 + e) ∧ (e ≤ c.length) ∧ ((ws.getD i []).length ≤ e) ∧ (endC c (ws.getD i []).length = endC c e) ∧ Lies G A F σ (.sl 50 1 u acc.length cs :: .at_ b1 (.row ⟨[.func (.func 86) #[] #[]], 47, false⟩) :: (L)) ∧ ta 1 = cv ∧ ta 3 = v3 ∧ ta 4 = .pointer (some ⟨b1, 0, none⟩) ∧ ta 10 = u ∧ ta 11 = .int .i64 ((i : Nat) : Int) ∧ ta 13 = .int .i64 ((e : Nat) : Int) ∧ ta 14 = v2 ∧ ta 15 = .int .i64 (ws.length : Int) ∧ ta 16 = .int .i64 ((i : Nat) : Int)) c.length ?_ ?_
     ·exact ⟨(ws.getD i []).length, (by omega), (by omega), (by omega), rfl, H, rfl, rfl, rfl, rfl, rfl, rfl, rfl, rfl, rfl⟩
     clear H
     rintro mm2 ta _ ⟨e, hm2, hec0, hwe, hE0, H, e1, e3, e4, e10, e11, e13, e14, e15, e16⟩
     refine W.rst [(1, cv), (3, v3), (4, .pointer (some ⟨b1, 0, none⟩)), (10, u), (11, .int .i64 ((i : Nat) : Int)), (13, .int .i64 ((e : Nat) : Int)), (14, v2), (15, .int .i64 (ws.length : Int)), (16, .int .i64 ((i : Nat) : Int))] ⟨e1, e3, e4, e10, e11, e13, e14, e15, e16, trivial⟩ fun TA => ?_
     clear e1 e3 e4 e10 e11 e13 e14 e15 e16
     refine W.seq ?_
     refine W.seq (W.region ?_)
     iterate 2 refine RW.v ?_
     refine RW.len (by kernel_rfl) (by kernel_rfl) rfl rfl rfl rfl (hc.slf.len (e := 21) (by kernel_rfl)) (by kernel_rfl) ?_
     iterate 2 refine RW.v ?_
     refine RW.both _ _ rfl rfl rfl (fun hc12 => ?_) (fun hc12 => ?_)
     ·have hc12b := hc12
      have hc12 := of_decide_eq_true hc12
      have hec : e < c.length := by omega
      iterate 2 refine RW.w ?_
      refine RW.idxF hc.slf (by rfl) (by kernel_rfl) rfl Tryd.underlying50 (by kernel_rfl) rfl rfl ⟨by omega, by omega⟩ (by kernel_rfl) ?_
      intro b13 q14 r15 hF16 hE17
      rw [runs_at (l := c) (j := e) (i := ((e : Nat) : Int)) (by omega) (by omega)] at hE17
      refine RW.loads 1 (by rfl) (by kernel_rfl) rfl rfl (H.old _ _ hF16) hE17 rfl (by kernel_rfl) ?_
      refine RW.cl (hw := by rfl) ?_
      refine ((delim_wc (c := (c.getD e 0)) H).mono ?_)
      clear H
      rintro _ _ ⟨rfl, H⟩
      refine RW.w ?_
      refine RW.v ?_
      refine RW.nil ?_
      refine W.rg [(1, cv), (3, v3), (4, .pointer (some ⟨b1, 0, none⟩)), (10, u), (11, .int .i64 ((i : Nat) : Int)), (13, .int .i64 ((e : Nat) : Int)), (14, v2), (15, .int .i64 (ws.length : Int)), (16, .int .i64 ((i : Nat) : Int)), (43, .bool (!(delC (c.getD e 0))))] fun TA => ?_
      refine W.cond rfl (fun hc18 => ?_) (fun hc18 => ?_)
      ·have hc18b := hc18
       have hc18e : delC (c.getD e 0) = false := by simpa using hc18b
       refine W.skip ?_
       refine W.block ?_
       refine W.region ?_
       refine RW.v ?_
       refine RW.valE (v' := .int .i64 (((e : Nat) : Int) + 1)) (by kernel_rfl) (by kernel_rfl) rfl (congrArg (Value.int .i64) (wrap_in (by omega) (by omega))) (by kernel_rfl) ?_
       refine RW.v ?_
       refine RW.nil ?_
       refine bQn ?_
       exact ⟨rfl, mm2 - 1, by omega, e + 1, (by omega), (by omega), (by omega), (by rw [hE0, endC_go hec hc18e]), H, rfl, rfl, rfl, rfl, rfl, rfl, rfl, rfl, rfl⟩
      ·have hc18b := hc18
       have hc18e : delC (c.getD e 0) = true := by simpa using hc18b
       refine W.exit _ ?_
       refine seqQ_exit ?_
       refine rndQ_exit ?_
       have hE : endC c (ws.getD i []).length = e := by rw [hE0]; exact endC_stop hec hc18e
       refine blkQ_here ?_
       refine W.seq ?_
       refine W.seq ?_
       refine W.drawn (by kernel_rfl) (by kernel_rfl) H.gn ?_
       have H19 := H
       iterate 2 refine RW.v ?_
       refine RW.len (by kernel_rfl) (by kernel_rfl) rfl rfl rfl rfl (hc.slf.len (e := 21) (by kernel_rfl)) (by kernel_rfl) ?_
       iterate 2 refine RW.v ?_
       refine RW.both _ _ rfl rfl rfl (fun hc20 => ?_) (fun hc20 => ?_)
       ·have hc20b := hc20
        have hc20 := eq_of_beq hc20
        have hbad : endC c (ws.getD i []).length = c.length ∨ c.getD (endC c (ws.getD i []).length) 0 ≠ ms.getD i 0 := .inl (by rw [hE]; omega)
        iterate 9 refine RW.s ?_
        refine RW.v ?_
        refine RW.nil ?_
        refine ⟨⟨by kernel_rfl, ⟨trivial, trivial, trivial, trivial, trivial, trivial, trivial, trivial, trivial, trivial, trivial, trivial, trivial, trivial, trivial, trivial⟩⟩, ?_⟩
        replace H := H19
        clear H19
        refine W.c1 ?_
        refine W.seq (W.region ?_)
        iterate 2 refine RW.v ?_
        refine RW.nil ?_
        replace H := ((H.del 1).del 0)
        dsimp only [setL, delL] at H
        refine W.ret ?_
        refine seqQ_ret ?_
        refine blkQ_ret ?_
        refine seqQ_ret ?_
        refine rndQ_ret ?_
        refine blkQ_ret ?_
        refine seqQ_ret ?_
        refine endG (by rfl) (by exact resL_tmp (by exact resL_tmp rfl)) ?_
        have hM : matchG false c0 ws ms = none := by rw [hT, match_bad hil him hc8e hbad]; rfl
        rw [hM]
        exact ⟨F, _, [], fun _ _ h => h, rfl, .nil, AllZ.nil, H⟩
       ·have hc20b := hc20
        have hc20 := ne_of_beq_false hc20
        have hne : e ≠ c.length := by omega
        iterate 2 refine RW.w ?_
        refine RW.idxF hc.slf (by rfl) (by kernel_rfl) rfl Tryd.underlying50 (by kernel_rfl) rfl rfl ⟨by omega, by omega⟩ (by kernel_rfl) ?_
        intro b21 q22 r23 hF24 hE25
        rw [runs_at (l := c) (j := e) (i := ((e : Nat) : Int)) (by omega) (by omega)] at hE25
        refine RW.loads 1 (by rfl) (by kernel_rfl) rfl rfl (H19.old _ _ hF24) hE25 rfl (by kernel_rfl) ?_
        iterate 2 refine RW.w ?_
        refine RW.idxF h3 (by rfl) (by kernel_rfl) rfl Tryd.underlying50 (by kernel_rfl) rfl rfl ⟨by omega, by omega⟩ (by kernel_rfl) ?_
        intro b26 q27 r28 hF29 hE30
        rw [runs_at (l := ms) (j := i) (i := ((i : Nat) : Int)) (by omega) (by omega)] at hE30
        refine RW.loads 1 (by rfl) (by kernel_rfl) rfl rfl (H19.old _ _ hF29) hE30 rfl (by kernel_rfl) ?_
        refine RW.w ?_
        refine RW.v ?_
        refine RW.nil ?_
        refine ⟨⟨by kernel_rfl, ⟨trivial, trivial, trivial, trivial, trivial, trivial, trivial, trivial, dyn_row (H19.old _ _ hF24) (H19.old _ _ hF24) ⟨nB, nB, nB, nB, nB, nB, nB, nB, nB, nB, nB, nB, nB, nB, nB, trivial⟩, trivial, trivial, trivial, dyn_row (H19.old _ _ hF29) (H19.old _ _ hF29) ⟨nB, nB, nB, nB, nB, nB, nB, nB, nB, nB, nB, nB, nB, nB, nB, trivial⟩, trivial, trivial, trivial⟩⟩, ?_⟩
        replace H := H19
        clear H19
        refine W.rg [(1, cv), (3, v3), (4, .pointer (some ⟨b1, 0, none⟩)), (10, u), (13, .int .i64 ((e : Nat) : Int)), (14, v2), (15, .int .i64 (ws.length : Int)), (16, .int .i64 ((i : Nat) : Int)), (60, .bool ((c.getD e 0) != (ms.getD i 0)))] fun TA => ?_
        refine W.cond rfl (fun hc31 => ?_) (fun hc31 => ?_)
        ·have hc31b := hc31
         have hc31 := bne_iff_ne.1 hc31
         have hbad : endC c (ws.getD i []).length = c.length ∨ c.getD (endC c (ws.getD i []).length) 0 ≠ ms.getD i 0 := .inr (by rw [hE]; exact hc31)
         refine W.seq (W.region ?_)
         iterate 2 refine RW.v ?_
         refine RW.nil ?_
         replace H := ((H.del 1).del 0)
         dsimp only [setL, delL] at H
         refine W.ret ?_
         refine seqQ_ret ?_
         refine blkQ_ret ?_
         refine seqQ_ret ?_
         refine rndQ_ret ?_
         refine blkQ_ret ?_
         refine seqQ_ret ?_
         refine endG (by rfl) (by exact resL_tmp (by exact resL_tmp rfl)) ?_
         have hM : matchG false c0 ws ms = none := by rw [hT, match_bad hil him hc8e hbad]; rfl
         rw [hM]
         exact ⟨F, _, [], fun _ _ h => h, rfl, .nil, AllZ.nil, H⟩
        ·have hc31b := hc31
         have hc31 := (bne_eq_false_iff_eq.1) hc31
         have hmk : c.getD e 0 = ms.getD i 0 := hc31
         refine W.skip ?_
         refine W.drawn (by kernel_rfl) (by kernel_rfl) H.gn ?_
         have H32 := H
         iterate 3 refine RW.v ?_
         obtain ⟨wv33, hv34, hk35⟩ := slk_cut (P := Tryd.prog) (t := 50) (e := 21) (i := e) hc (by kernel_rfl) (by kernel_rfl) (by omega)
         have hk35b : SlK F 1 wv33 (c.take e).length ((c.take e).map runeV) := by rw [Nat.mul_one] at hk35; rw [List.length_take, Nat.min_eq_left (by omega), List.map_take]; exact hk35
         refine RW.vop (v := wv33) (by kernel_rfl) (by kernel_rfl) (vop_slice rfl hv34) (by kernel_rfl) ?_
         refine RW.mkD H32 (x := .row ⟨[wv33], 50, false⟩) (fm := fun b => .slice (some ⟨b, 0, none⟩) 1 1) (by kernel_rfl) (by kernel_rfl) (by rcases slf_forms hk35b.slf with rfl | ⟨_, rfl⟩ | ⟨_, _, _, _, _, rfl⟩ <;> kernel_rfl) (by kernel_rfl) ?_
         intro _ b36 H37
         refine RW.appLB H37 1 0 (n := 1) (e2 := 50) (by kernel_rfl) (by kernel_rfl) rfl rfl rfl rfl rfl rfl rfl (.inl rfl) rfl (by kernel_rfl) (by kernel_rfl) (by kernel_rfl) (by decide) (by decide) rfl (slf_all hk35b.slf) (by omega) (by kernel_rfl) ?_
         intro _ v38 H39
         dsimp only [setL, delL] at H39
         iterate 2 refine RW.v ?_
         refine RW.valE (v' := .int .i64 (((e : Nat) : Int) + 1)) (by kernel_rfl) (by kernel_rfl) rfl (congrArg (Value.int .i64) (wrap_in (by omega) (by omega))) (by kernel_rfl) ?_
         obtain ⟨wr40, hv41, hk42⟩ := slk_rest (P := Tryd.prog) (t := 50) (e := 21) (i := (e + 1)) hc (by kernel_rfl) (by kernel_rfl) (by omega)
         have hk42b : SlK F 1 wr40 (c.drop (e + 1)).length ((c.drop (e + 1)).map runeV) := by rw [Nat.mul_one] at hk42; rw [List.length_drop, List.map_drop]; exact hk42
         rw [show (((e + 1) : Nat) : Int) = ((e : Nat) : Int) + 1 from by omega] at hv41
         refine RW.vop (v := wr40) (by kernel_rfl) (by kernel_rfl) (vop_slice rfl hv41) (by kernel_rfl) ?_
         iterate 2 refine RW.v ?_
         refine RW.nil ?_
         refine ⟨⟨by kernel_rfl, ⟨trivial, trivial, trivial, trivial, Or.inl (by kernel_rfl), trivial, trivial, trivial, trivial, trivial, trivial, trivial, trivial⟩⟩, ?_⟩
         replace H := H39
         clear H32 H37 H39
         refine bQn ?_
         refine W.rg [(1, wr40), (3, v3), (4, .pointer (some ⟨b1, 0, none⟩)), (10, v38), (14, v2), (15, .int .i64 (ws.length : Int)), (16, .int .i64 ((i : Nat) : Int))] fun TA => ?_
         refine W.region ?_
         refine RW.valE (v' := .int .i64 (((i : Nat) : Int) + 1)) (by kernel_rfl) (by kernel_rfl) rfl (congrArg (Value.int .i64) (wrap_in (by omega) (by omega))) (by kernel_rfl) ?_
         refine RW.v ?_
         refine RW.nil ?_
         rw [show acc.length + 1 = (acc ++ [c.take e]).length by rw [List.length_append]; rfl] at H
         exact ⟨rfl, mm - 1, by omega, i + 1, (c.drop (e + 1)), wr40, (acc ++ [c.take e]), (cs ++ [wv33]), v38, (by omega), (by omega), hk42b, (fun x h => hcb x (List.mem_of_mem_drop h)), (by rw [List.length_drop]; omega), (al2.snoc hk35b), (by rw [List.length_append, List.length_singleton]; omega), (by rw [hT, match_go hil him hc8e hE hne hmk, Option.map_map]; congr 1; funext r; show acc ++ (c.take e :: r) = acc ++ [c.take e] ++ r; rw [List.append_assoc]; rfl), H, rfl, rfl, rfl, rfl, rfl, rfl, rfl⟩
     ·have hc12b := hc12
      have hc12 := of_decide_eq_false hc12
      iterate 6 refine RW.s ?_
      refine RW.v ?_
      refine RW.nil ?_
      refine W.c0 ?_
      refine W.exit _ ?_
      refine seqQ_exit ?_
      refine rndQ_exit ?_
      have hE : endC c (ws.getD i []).length = e := by rw [hE0]; exact endC_end (by omega)
      refine blkQ_here ?_
      refine W.seq ?_
      refine W.seq ?_
      refine W.drawn (by kernel_rfl) (by kernel_rfl) H.gn ?_
      have H43 := H
      iterate 2 refine RW.v ?_
      refine RW.len (by kernel_rfl) (by kernel_rfl) rfl rfl rfl rfl (hc.slf.len (e := 21) (by kernel_rfl)) (by kernel_rfl) ?_
      iterate 2 refine RW.v ?_
      refine RW.both _ _ rfl rfl rfl (fun hc44 => ?_) (fun hc44 => ?_)
      ·have hc44b := hc44
       have hc44 := eq_of_beq hc44
       have hbad : endC c (ws.getD i []).length = c.length ∨ c.getD (endC c (ws.getD i []).length) 0 ≠ ms.getD i 0 := .inl (by rw [hE]; omega)
       iterate 9 refine RW.s ?_
       refine RW.v ?_
       refine RW.nil ?_
       refine ⟨⟨by kernel_rfl, ⟨trivial, trivial, trivial, trivial, trivial, trivial, trivial, trivial, trivial, trivial, trivial, trivial, trivial, trivial, trivial, trivial⟩⟩, ?_⟩
       replace H := H43
       clear H43
       refine W.c1 ?_
       refine W.seq (W.region ?_)
       iterate 2 refine RW.v ?_
       refine RW.nil ?_
       replace H := ((H.del 1).del 0)
       dsimp only [setL, delL] at H
       refine W.ret ?_
       refine seqQ_ret ?_
       refine blkQ_ret ?_
       refine seqQ_ret ?_
       refine rndQ_ret ?_
       refine blkQ_ret ?_
       refine seqQ_ret ?_
       refine endG (by rfl) (by exact resL_tmp (by exact resL_tmp rfl)) ?_
       have hM : matchG false c0 ws ms = none := by rw [hT, match_bad hil him hc8e hbad]; rfl
       rw [hM]
       exact ⟨F, _, [], fun _ _ h => h, rfl, .nil, AllZ.nil, H⟩
      ·have hc44b := hc44
       have hc44 := ne_of_beq_false hc44
       have hne : e ≠ c.length := by omega
       iterate 2 refine RW.w ?_
       refine RW.idxF hc.slf (by rfl) (by kernel_rfl) rfl Tryd.underlying50 (by kernel_rfl) rfl rfl ⟨by omega, by omega⟩ (by kernel_rfl) ?_
       intro b45 q46 r47 hF48 hE49
       rw [runs_at (l := c) (j := e) (i := ((e : Nat) : Int)) (by omega) (by omega)] at hE49
       refine RW.loads 1 (by rfl) (by kernel_rfl) rfl rfl (H43.old _ _ hF48) hE49 rfl (by kernel_rfl) ?_
       iterate 2 refine RW.w ?_
       refine RW.idxF h3 (by rfl) (by kernel_rfl) rfl Tryd.underlying50 (by kernel_rfl) rfl rfl ⟨by omega, by omega⟩ (by kernel_rfl) ?_
       intro b50 q51 r52 hF53 hE54
       rw [runs_at (l := ms) (j := i) (i := ((i : Nat) : Int)) (by omega) (by omega)] at hE54
       refine RW.loads 1 (by rfl) (by kernel_rfl) rfl rfl (H43.old _ _ hF53) hE54 rfl (by kernel_rfl) ?_
       refine RW.w ?_
       refine RW.v ?_
       refine RW.nil ?_
       refine ⟨⟨by kernel_rfl, ⟨trivial, trivial, trivial, trivial, trivial, trivial, trivial, trivial, dyn_row (H43.old _ _ hF48) (H43.old _ _ hF48) ⟨nB, nB, nB, nB, nB, nB, nB, nB, nB, nB, nB, nB, nB, nB, nB, trivial⟩, trivial, trivial, trivial, dyn_row (H43.old _ _ hF53) (H43.old _ _ hF53) ⟨nB, nB, nB, nB, nB, nB, nB, nB, nB, nB, nB, nB, nB, nB, nB, trivial⟩, trivial, trivial, trivial⟩⟩, ?_⟩
       replace H := H43
       clear H43
       refine W.rg [(1, cv), (3, v3), (4, .pointer (some ⟨b1, 0, none⟩)), (10, u), (13, .int .i64 ((e : Nat) : Int)), (14, v2), (15, .int .i64 (ws.length : Int)), (16, .int .i64 ((i : Nat) : Int)), (60, .bool ((c.getD e 0) != (ms.getD i 0)))] fun TA => ?_
       refine W.cond rfl (fun hc55 => ?_) (fun hc55 => ?_)
       ·have hc55b := hc55
        have hc55 := bne_iff_ne.1 hc55
        have hbad : endC c (ws.getD i []).length = c.length ∨ c.getD (endC c (ws.getD i []).length) 0 ≠ ms.getD i 0 := .inr (by rw [hE]; exact hc55)
        refine W.seq (W.region ?_)
        iterate 2 refine RW.v ?_
        refine RW.nil ?_
        replace H := ((H.del 1).del 0)
        dsimp only [setL, delL] at H
        refine W.ret ?_
        refine seqQ_ret ?_
        refine blkQ_ret ?_
        refine seqQ_ret ?_
        refine rndQ_ret ?_
        refine blkQ_ret ?_
        refine seqQ_ret ?_
        refine endG (by rfl) (by exact resL_tmp (by exact resL_tmp rfl)) ?_
        have hM : matchG false c0 ws ms = none := by rw [hT, match_bad hil him hc8e hbad]; rfl
        rw [hM]
        exact ⟨F, _, [], fun _ _ h => h, rfl, .nil, AllZ.nil, H⟩
       ·have hc55b := hc55
        have hc55 := (bne_eq_false_iff_eq.1) hc55
        have hmk : c.getD e 0 = ms.getD i 0 := hc55
        refine W.skip ?_
        refine W.drawn (by kernel_rfl) (by kernel_rfl) H.gn ?_
        have H56 := H
        iterate 3 refine RW.v ?_
        obtain ⟨wv57, hv58, hk59⟩ := slk_cut (P := Tryd.prog) (t := 50) (e := 21) (i := e) hc (by kernel_rfl) (by kernel_rfl) (by omega)
        have hk59b : SlK F 1 wv57 (c.take e).length ((c.take e).map runeV) := by rw [Nat.mul_one] at hk59; rw [List.length_take, Nat.min_eq_left (by omega), List.map_take]; exact hk59
        refine RW.vop (v := wv57) (by kernel_rfl) (by kernel_rfl) (vop_slice rfl hv58) (by kernel_rfl) ?_
        refine RW.mkD H56 (x := .row ⟨[wv57], 50, false⟩) (fm := fun b => .slice (some ⟨b, 0, none⟩) 1 1) (by kernel_rfl) (by kernel_rfl) (by rcases slf_forms hk59b.slf with rfl | ⟨_, rfl⟩ | ⟨_, _, _, _, _, rfl⟩ <;> kernel_rfl) (by kernel_rfl) ?_
        intro _ b60 H61
        refine RW.appLB H61 1 0 (n := 1) (e2 := 50) (by kernel_rfl) (by kernel_rfl) rfl rfl rfl rfl rfl rfl rfl (.inl rfl) rfl (by kernel_rfl) (by kernel_rfl) (by kernel_rfl) (by decide) (by decide) rfl (slf_all hk59b.slf) (by omega) (by kernel_rfl) ?_
        intro _ v62 H63
        dsimp only [setL, delL] at H63
        iterate 2 refine RW.v ?_
        refine RW.valE (v' := .int .i64 (((e : Nat) : Int) + 1)) (by kernel_rfl) (by kernel_rfl) rfl (congrArg (Value.int .i64) (wrap_in (by omega) (by omega))) (by kernel_rfl) ?_
        obtain ⟨wr64, hv65, hk66⟩ := slk_rest (P := Tryd.prog) (t := 50) (e := 21) (i := (e + 1)) hc (by kernel_rfl) (by kernel_rfl) (by omega)
        have hk66b : SlK F 1 wr64 (c.drop (e + 1)).length ((c.drop (e + 1)).map runeV) := by rw [Nat.mul_one] at hk66; rw [List.length_drop, List.map_drop]; exact hk66
        rw [show (((e + 1) : Nat) : Int) = ((e : Nat) : Int) + 1 from by omega] at hv65
        refine RW.vop (v := wr64) (by kernel_rfl) (by kernel_rfl) (vop_slice rfl hv65) (by kernel_rfl) ?_
        iterate 2 refine RW.v ?_
        refine RW.nil ?_
        refine ⟨⟨by kernel_rfl, ⟨trivial, trivial, trivial, trivial, Or.inl (by kernel_rfl), trivial, trivial, trivial, trivial, trivial, trivial, trivial, trivial⟩⟩, ?_⟩
        replace H := H63
        clear H56 H61 H63
        refine bQn ?_
        refine W.rg [(1, wr64), (3, v3), (4, .pointer (some ⟨b1, 0, none⟩)), (10, v62), (14, v2), (15, .int .i64 (ws.length : Int)), (16, .int .i64 ((i : Nat) : Int))] fun TA => ?_
        refine W.region ?_
        refine RW.valE (v' := .int .i64 (((i : Nat) : Int) + 1)) (by kernel_rfl) (by kernel_rfl) rfl (congrArg (Value.int .i64) (wrap_in (by omega) (by omega))) (by kernel_rfl) ?_
        refine RW.v ?_
        refine RW.nil ?_
        rw [show acc.length + 1 = (acc ++ [c.take e]).length by rw [List.length_append]; rfl] at H
        exact ⟨rfl, mm - 1, by omega, i + 1, (c.drop (e + 1)), wr64, (acc ++ [c.take e]), (cs ++ [wv57]), v62, (by omega), (by omega), hk66b, (fun x h => hcb x (List.mem_of_mem_drop h)), (by rw [List.length_drop]; omega), (al2.snoc hk59b), (by rw [List.length_append, List.length_singleton]; omega), (by rw [hT, match_go hil him hc8e hE hne hmk, Option.map_map]; congr 1; funext r; show acc ++ (c.take e :: r) = acc ++ [c.take e] ++ r; rw [List.append_assoc]; rfl), H, rfl, rfl, rfl, rfl, rfl, rfl, rfl⟩
  ·have hc2b := hc2
   have hc2 := of_decide_eq_false hc2
   refine W.exit _ ?_
   refine seqQ_exit ?_
   refine rndQ_exit ?_
   have hM : matchG false c0 ws ms = some (acc ++ [c]) := by rw [hT, List.drop_eq_nil_of_le (show ws.length ≤ i by omega), matchG]; rfl
   refine blkQ_here ?_
   refine W.seq (W.region ?_)
   iterate 2 refine RW.v ?_
   refine RW.mkL H (x := .row ⟨[cv], 50, false⟩) (fm := fun b => .slice (some ⟨b, 0, none⟩) 1 1) (by kernel_rfl) (by kernel_rfl) (by rcases slf_forms hc.slf with rfl | ⟨_, rfl⟩ | ⟨_, _, _, _, _, rfl⟩ <;> kernel_rfl) (by kernel_rfl) ?_
   clear H; intro _ b67 _ H
   refine RW.appL H 1 0 (n := 1) (e2 := 50) (by kernel_rfl) (by kernel_rfl) rfl rfl rfl rfl rfl rfl rfl rfl (by kernel_rfl) (by kernel_rfl) (by kernel_rfl) (by decide) (by decide) rfl (slf_all hc.slf) (by omega) (by kernel_rfl) ?_
   clear H; intro _ v68 _ H
   dsimp only [setL, delL] at H
   iterate 2 refine RW.v ?_
   refine RW.nil ?_
   replace H := (H.del 1)
   dsimp only [setL, delL] at H
   refine W.ret ?_
   refine endG (by rfl) (by exact resL_tmp (by exact resL_tmp rfl)) ?_
   rw [hM]
   have al3 := al2.snoc hc
   obtain ⟨F', le, hu, H⟩ := H.freezeK 0 rfl
   dsimp only [setL, delL] at H
   exact ⟨F', _, cs ++ [cv], le, rfl, by show SlK F' 1 _ (acc ++ [c]).length _; rw [List.length_append]; exact hu, al3.le le, H⟩
end
end Go.Proofs.YtjcmdifpkafdkaaDoor
namespace Go.Proofs.YtjcmdifpkafdkaaDoor
open Go.Lib
set_option maxRecDepth 100000
open Go.RowKit
section
variable {G : Nat} {A : Abs} {σ : Mem} {F : Nat → Option Blk2} {L : List Ent} {fold : Bool} {l : List (List UInt8)} {ws : List (List Int)} {ms : List Int} {wsl : List Value} {b7 b8 b9 : Nat} {w8 w9 v1 : Value} {s : List UInt8}
set_option maxHeartbeats 4000000 in
theorem cl_part (hb7 : F b7 = some (.row ⟨[.func (.func (cond fold 84 86)) #[] #[]], 47, false⟩)) (hb8 : F b8 = some (.row ⟨[w8], 49, false⟩)) (hb9 : F b9 = some (.row ⟨[w9], 50, false⟩)) (hw8 : SlK F 1 w8 ws.length wsl) (al : AllZ F wsl ws) (hw9 : SlK F 1 w9 ms.length (ms.map runeV)) (hwl : ws.length ≤ 1000000) (hwm : ws.length = ms.length + 1) (hwb : ∀ w ∈ ws, ∀ x ∈ w, 0 ≤ x ∧ x ≤ 1114111) (hs : s.length ≤ 1000000) (H : Lies G A F σ L) : WC G Tryd.prog 59 #[.string ⟨s.toArray⟩, .pointer (some ⟨b7, 0, none⟩), .pointer (some ⟨b8, 0, none⟩), .pointer (some ⟨b9, 0, none⟩)] σ fun v σ' => v = .bool (matchG fold (runes s) ws ms).isSome ∧ Lies G A F σ' L := by
 cases fold with
 | true =>
  obtain ⟨F0, hF⟩ : ∃ F0, F0 = F := ⟨_, rfl⟩
  have le0 : Le F0 F := fun b y h => hF ▸ h
  rw [← hF] at hb7 hb8 hb9 hw8 hw9 al ⊢
  refine WC.enter (fn := Tryd.f59) Tryd.func59 rfl ?_
  refine W.rg [(0, .string ⟨s.toArray⟩), (1, .pointer (some ⟨b7, 0, none⟩)), (2, .pointer (some ⟨b8, 0, none⟩)), (3, .pointer (some ⟨b9, 0, none⟩))] fun TA => ?_
  refine W.seq (W.region ?_)
  refine RW.v ?_
  refine RW.nil ?_
  refine W.rg [(0, .string ⟨s.toArray⟩), (1, .pointer (some ⟨b7, 0, none⟩)), (2, .pointer (some ⟨b8, 0, none⟩)), (3, .pointer (some ⟨b9, 0, none⟩))] fun TA => ?_
  refine W.seq (W.region ?_)
  refine RW.loads 1 (by kernel_rfl) (by kernel_rfl) rfl rfl (H.old _ _ (le0 _ _ hb7)) rfl rfl (by kernel_rfl) ?_
  refine RW.v ?_
  refine RW.convR H hs (by kernel_rfl) (by kernel_rfl) rfl rfl rfl rfl rfl (by kernel_rfl) ?_
  clear H; intro _ cv1 H
  obtain ⟨F, le, hk2, H⟩ := H.freezeK 0 rfl
  dsimp only [setL, delL] at H
  replace le0 := fun b y h => le b y (le0 b y h)
  refine RW.loads 1 (by kernel_rfl) (by kernel_rfl) rfl rfl (H.old _ _ (le0 _ _ hb8)) rfl rfl (by kernel_rfl) ?_
  refine RW.loads 1 (by kernel_rfl) (by kernel_rfl) rfl rfl (H.old _ _ (le0 _ _ hb9)) rfl rfl (by kernel_rfl) ?_
  refine RW.cl ?_
  refine ((match_wc (fold := true) hk2 (hw8.le le0) (al.le le0) (hw9.le le0).slf (Nat.le_trans (runes_le s) hs) hwl hwm (runes_in s) hwb H).mono ?_)
  clear H
  rintro _ _ ⟨F, u, cs, le, rfl, hu, al2, H⟩
  replace le0 := fun b y h => le b y (le0 b y h)
  iterate 5 refine RW.v ?_
  refine RW.nil ?_
  refine W.rg [(7, .bool ((matchG true (runes s) ws ms).isSome))] fun TA => ?_
  refine W.seq (W.region ?_)
  iterate 2 refine RW.v ?_
  refine RW.nil ?_
  refine W.ret ?_
  refine endG (by rfl) (by exact resL_tmp rfl) ?_
  exact ⟨rfl, (H).back le0⟩
 | false =>
  obtain ⟨F0, hF⟩ : ∃ F0, F0 = F := ⟨_, rfl⟩
  have le0 : Le F0 F := fun b y h => hF ▸ h
  rw [← hF] at hb7 hb8 hb9 hw8 hw9 al ⊢
  refine WC.enter (fn := Tryd.f59) Tryd.func59 rfl ?_
  refine W.rg [(0, .string ⟨s.toArray⟩), (1, .pointer (some ⟨b7, 0, none⟩)), (2, .pointer (some ⟨b8, 0, none⟩)), (3, .pointer (some ⟨b9, 0, none⟩))] fun TA => ?_
  refine W.seq (W.region ?_)
  refine RW.v ?_
  refine RW.nil ?_
  refine W.rg [(0, .string ⟨s.toArray⟩), (1, .pointer (some ⟨b7, 0, none⟩)), (2, .pointer (some ⟨b8, 0, none⟩)), (3, .pointer (some ⟨b9, 0, none⟩))] fun TA => ?_
  refine W.seq (W.region ?_)
  refine RW.loads 1 (by kernel_rfl) (by kernel_rfl) rfl rfl (H.old _ _ (le0 _ _ hb7)) rfl rfl (by kernel_rfl) ?_
  refine RW.v ?_
  refine RW.convR H hs (by kernel_rfl) (by kernel_rfl) rfl rfl rfl rfl rfl (by kernel_rfl) ?_
  clear H; intro _ cv1 H
  obtain ⟨F, le, hk2, H⟩ := H.freezeK 0 rfl
  dsimp only [setL, delL] at H
  replace le0 := fun b y h => le b y (le0 b y h)
  refine RW.loads 1 (by kernel_rfl) (by kernel_rfl) rfl rfl (H.old _ _ (le0 _ _ hb8)) rfl rfl (by kernel_rfl) ?_
  refine RW.loads 1 (by kernel_rfl) (by kernel_rfl) rfl rfl (H.old _ _ (le0 _ _ hb9)) rfl rfl (by kernel_rfl) ?_
  refine RW.cl ?_
  refine ((match_wc (fold := false) hk2 (hw8.le le0) (al.le le0) (hw9.le le0).slf (Nat.le_trans (runes_le s) hs) hwl hwm (runes_in s) hwb H).mono ?_)
  clear H
  rintro _ _ ⟨F, u, cs, le, rfl, hu, al2, H⟩
  replace le0 := fun b y h => le b y (le0 b y h)
  iterate 5 refine RW.v ?_
  refine RW.nil ?_
  refine W.rg [(7, .bool ((matchG false (runes s) ws ms).isSome))] fun TA => ?_
  refine W.seq (W.region ?_)
  iterate 2 refine RW.v ?_
  refine RW.nil ?_
  refine W.ret ?_
  refine endG (by rfl) (by exact resL_tmp rfl) ?_
  exact ⟨rfl, (H).back le0⟩
set_option maxHeartbeats 8000000 in
theorem Partial_wc (hU : U8F F) (h16 : 16 ≤ G) (h1 : SlF F 1 v1 l.length (l.map strV)) (hl : l.length ≤ 1000000) (hsm : ∀ s ∈ l, s.length ≤ 1000000) (hs : s.length ≤ 16000) (H : Lies G A F σ L) : WC G Tryd.prog 18 #[v1, .string ⟨s.toArray⟩, .bool fold] σ fun v σ' => ∃ F', Le F F' ∧ SlF F' 1 v (partC fold l s).length ((partC fold l s).map strV) ∧ Lies G A F' σ' L := by
 cases fold with
 | true =>
  obtain ⟨F0, hF⟩ : ∃ F0, F0 = F := ⟨_, rfl⟩
  have le0 : Le F0 F := fun b y h => hF ▸ h
  rw [← hF] at h1 hU ⊢
  refine WC.enter (fn := Tryd.f18) Tryd.func18 rfl ?_
  refine W.rg [(0, v1), (1, .string ⟨s.toArray⟩), (2, .bool true)] fun TA => ?_
  refine W.seq (W.region ?_)
  refine RW.v ?_
  refine RW.nil ?_
  refine W.rg [(0, v1), (1, .string ⟨s.toArray⟩), (2, .bool true)] fun TA => ?_
  refine W.seq ?_
  refine W.seq (W.region ?_)
  refine RW.v ?_
  refine RW.cl ?_
  refine ⟨_, _, (s_valid (hU.le (fun b y h => H.old _ _ (le0 b y h))) h16 (Nat.le_trans hs (by decide))), ?_⟩
  refine RW.v ?_
  refine RW.nil ?_
  refine W.rg [(0, v1), (1, .string ⟨s.toArray⟩), (2, .bool true), (12, .bool (!(validD s)))] fun TA => ?_
  refine W.cond rfl (fun hc1 => ?_) (fun hc1 => ?_)
  ·have hc1b := hc1
   have hvs : validD s = false := by simpa using hc1b
   refine W.seq (W.region ?_)
   refine RW.v ?_
   refine RW.nil ?_
   refine W.ret ?_
   refine seqQ_ret ?_
   refine endG (by rfl) (by exact resL_tmp rfl) ?_
   have ea : partC true l s = [] := by unfold partC; rw [if_neg (by rw [hvs]; exact Bool.false_ne_true)]
   rw [ea]
   exact ⟨F, le0, .nil _ rfl, H⟩
  ·have hc1b := hc1
   have hvs : validD s = true := by simpa using hc1b
   refine W.skip ?_
   refine W.seq (W.region ?_)
   refine RW.v ?_
   refine RW.cl ?_
   refine ((by_wc (fold := true) H).mono ?_)
   clear H
   rintro _ _ ⟨rfl, H⟩
   refine RW.mk H (.row ⟨[.nilFunc], 47, false⟩) ?_
   clear H; intro _ b2 _ H
   refine RW.st H 0 [.func (.func 84) #[] #[]] [.func (.func 84) #[] #[]] ?_
   clear H; intro _ _ H; dsimp only [setL, delL] at H
   refine RW.nil ?_
   refine W.rg [(0, v1), (1, .string ⟨s.toArray⟩), (7, .pointer (some ⟨b2, 0, none⟩))] fun TA => ?_
   refine W.seq (W.region ?_)
   refine RW.v ?_
   refine RW.convR H (Nat.le_trans hs (by decide)) (by kernel_rfl) (by kernel_rfl) rfl rfl rfl rfl rfl (by kernel_rfl) ?_
   clear H; intro _ cv3 H
   obtain ⟨F, le, hk4, H⟩ := H.freezeK 0 rfl
   dsimp only [setL, delL] at H
   replace le0 := fun b y h => le b y (le0 b y h)
   refine RW.cl ?_
   refine ((parts_wc hk4 (Nat.le_trans (runes_le s) (Nat.le_trans hs (by decide))) H).mono ?_)
   clear H
   rintro _ _ ⟨F, u, um, wsl, le, rfl, hu, al, hum, H⟩
   replace le0 := fun b y h => le b y (le0 b y h)
   replace hk4 := hk4.le le
   obtain ⟨ws, hws⟩ : ∃ ws, ws = (partsC (runes s)).1 := ⟨_, rfl⟩
   obtain ⟨ms, hms⟩ : ∃ ms, ms = (partsC (runes s)).2 := ⟨_, rfl⟩
   rw [← hws] at hu al
   rw [← hms] at hum
   have hwm : ws.length = ms.length + 1 := by rw [hws, hms]; exact partsG_len _ _
   have hmr : ms.length ≤ (runes s).length := by rw [hms]; exact partsG_small _ _
   have hwb : ∀ w ∈ ws, ∀ x ∈ w, 0 ≤ x ∧ x ≤ 1114111 := fun w hw x hx => by rw [hws] at hw; exact ((partsG_mem (runes s) []).1 w hw x hx).elim (fun h => absurd h (List.not_mem_nil)) (runes_in s x)
   have hmb : ∀ x ∈ ms, 0 ≤ x ∧ x ≤ 1114111 := fun x hx => by rw [hms] at hx; exact runes_in s x ((partsG_mem (runes s) []).2 x hx)
   have hrs : (runes s).length ≤ 16000 := Nat.le_trans (runes_le s) hs
   iterate 3 refine RW.v ?_
   refine RW.mk H (.row ⟨[.slice none 0 0], 49, false⟩) ?_
   clear H; intro _ b5 _ H
   refine RW.mk H (.row ⟨[.slice none 0 0], 50, false⟩) ?_
   clear H; intro _ b6 _ H
   refine RW.stL H 1 (vs := [u]) (cs' := [u]) (by kernel_rfl) (by kernel_rfl) rfl rfl rfl (slf_one hu.slf) (slf_all hu.slf) (by kernel_rfl) (Nat.le_of_ble_eq_true rfl) rfl (by kernel_rfl) ?_
   clear H; intro _ _ H; dsimp only [setL, delL] at H
   refine RW.stL H 0 (vs := [um]) (cs' := [um]) (by kernel_rfl) (by kernel_rfl) rfl rfl rfl (slf_one hum.slf) (slf_all hum.slf) (by kernel_rfl) (Nat.le_of_ble_eq_true rfl) rfl (by kernel_rfl) ?_
   clear H; intro _ _ H; dsimp only [setL, delL] at H
   refine RW.nil ?_
   refine W.rg [(0, v1), (7, .pointer (some ⟨b2, 0, none⟩)), (8, .pointer (some ⟨b5, 0, none⟩)), (9, .pointer (some ⟨b6, 0, none⟩))] fun TA => ?_
   refine W.seq (W.region ?_)
   refine RW.v ?_
   refine RW.cl ?_
   refine WC.enter (fn := Tryd.f58) Tryd.func58 rfl ?_
   refine W.rg [(0, v1)] fun TA => ?_
   refine W.seq (W.region ?_)
   refine RW.mk H (.row ⟨(v1).cells.toList, 22, false⟩) ?_
   clear H; intro _ b7 _ H
   rw [(slf_one (h1.le le0))] at H
   refine RW.v ?_
   refine RW.nil ?_
   refine W.rg [(1, .pointer (some ⟨b7, 0, none⟩))] fun TA => ?_
   refine W.seq (W.region ?_)
   refine RW.val (v := .func (.func 95) #[] #[.pointer (some ⟨b7, 0, none⟩)]) (by kernel_rfl) (by kernel_rfl) (by kernel_rfl) (by kernel_rfl) ?_
   refine RW.v ?_
   refine RW.nil ?_
   refine W.ret ?_
   refine endG (by rfl) (by exact resL_tmp rfl) ?_
   refine RW.val (v := .func (.func 59) #[] #[.pointer (some ⟨b2, 0, none⟩), .pointer (some ⟨b5, 0, none⟩), .pointer (some ⟨b6, 0, none⟩)]) (by kernel_rfl) (by kernel_rfl) (by kernel_rfl) (by kernel_rfl) ?_
   obtain ⟨F, le, hb7, H⟩ := H.freeze 3 rfl
   dsimp only [setL, delL] at H
   replace le0 := fun b y h => le b y (le0 b y h)
   replace hk4 := hk4.le le
   replace hu := hu.le le
   replace al := al.le le
   replace hum := hum.le le
   obtain ⟨F, le, hb8, H⟩ := H.freeze 2 rfl
   dsimp only [setL, delL] at H
   replace le0 := fun b y h => le b y (le0 b y h)
   replace hk4 := hk4.le le
   replace hu := hu.le le
   replace al := al.le le
   replace hum := hum.le le
   replace hb7 := le _ _ hb7
   obtain ⟨F, le, hb9, H⟩ := H.freeze 1 rfl
   dsimp only [setL, delL] at H
   replace le0 := fun b y h => le b y (le0 b y h)
   replace hk4 := hk4.le le
   replace hu := hu.le le
   replace al := al.le le
   replace hum := hum.le le
   replace hb7 := le _ _ hb7
   replace hb8 := le _ _ hb8
   obtain ⟨T, hTd⟩ : ∃ T, T = partC true l s := ⟨_, rfl⟩
   have hT0 : T = [] ++ (distG [] (l.drop 0)).filter (fun c => (matchC true (runes c) (runes s)).isSome) := by rw [hTd]; unfold partC; rw [if_pos hvs]; rfl
   have hme : ∀ c, (matchG true c ws ms).isSome = (matchC true c (runes s)).isSome := fun c => by rw [hws, hms]; rfl
   refine RW.cl ?_
   refine WC.enter (fn := Tryd.f57) Tryd.func57 rfl ?_
   refine W.rg [(0, .func (.func 95) #[] #[.pointer (some ⟨b7, 0, none⟩)]), (1, .func (.func 59) #[] #[.pointer (some ⟨b2, 0, none⟩), .pointer (some ⟨b5, 0, none⟩), .pointer (some ⟨b6, 0, none⟩)])] fun TA => ?_
   refine W.seq (W.region ?_)
   refine RW.mk H (.row ⟨[.func (.func 95) #[] #[pt b7]], 71, false⟩) ?_
   clear H; intro _ b8 _ H
   refine RW.mk H (.row ⟨[.func (.func 59) #[] #[pt b2, pt b5, pt b6]], 41, false⟩) ?_
   clear H; intro _ b9 _ H
   refine RW.v ?_
   refine RW.nil ?_
   refine W.rg [(2, .pointer (some ⟨b8, 0, none⟩)), (3, .pointer (some ⟨b9, 0, none⟩))] fun TA => ?_
   refine W.seq (W.region ?_)
   refine RW.val (v := .func (.func 94) #[] #[.pointer (some ⟨b8, 0, none⟩), .pointer (some ⟨b9, 0, none⟩)]) (by kernel_rfl) (by kernel_rfl) (by kernel_rfl) (by kernel_rfl) ?_
   refine RW.v ?_
   refine RW.nil ?_
   refine W.ret ?_
   refine endG (by rfl) (by exact resL_tmp rfl) ?_
   refine RW.cl ?_
   refine WC.enter (fn := Tryd.f56) Tryd.func56 rfl ?_
   refine W.rg [(0, .func (.func 94) #[] #[.pointer (some ⟨b8, 0, none⟩), .pointer (some ⟨b9, 0, none⟩)])] fun TA => ?_
   refine W.seq (W.region ?_)
   refine RW.v ?_
   refine RW.nil ?_
   refine W.rg [(0, .func (.func 94) #[] #[.pointer (some ⟨b8, 0, none⟩), .pointer (some ⟨b9, 0, none⟩)])] fun TA => ?_
   refine W.seq (W.region ?_)
   refine RW.v ?_
   refine RW.cl ?_
   refine WC.enterD (fn := Tryd.f93) Tryd.func93 rfl ?_
   refine W.rg [(0, .slice none 0 0), (1, .func (.func 94) #[] #[.pointer (some ⟨b8, 0, none⟩), .pointer (some ⟨b9, 0, none⟩)])] fun TA => ?_
   refine W.seq (W.region ?_)
   refine RW.mk H (.row ⟨[.slice none 0 0], 22, false⟩) ?_
   clear H; intro _ b10 _ H
   refine RW.v ?_
   refine RW.nil ?_
   refine W.rg [(1, .func (.func 94) #[] #[.pointer (some ⟨b8, 0, none⟩), .pointer (some ⟨b9, 0, none⟩)]), (2, .pointer (some ⟨b10, 0, none⟩))] fun TA => ?_
   refine W.seq ?_
   refine W.seq (W.region ?_)
   refine RW.v ?_
   refine RW.nil ?_
   refine W.rg [(2, .pointer (some ⟨b10, 0, none⟩)), (6, .func (.func 94) #[] #[.pointer (some ⟨b8, 0, none⟩), .pointer (some ⟨b9, 0, none⟩)])] fun TA => ?_
   refine W.block ?_
   refine W.rst [(2, .pointer (some ⟨b10, 0, none⟩)), (6, .func (.func 94) #[] #[.pointer (some ⟨b8, 0, none⟩), .pointer (some ⟨b9, 0, none⟩)])] ⟨rfl, rfl, trivial⟩ fun TL15 => ?_
   refine W.rangeL H rfl (fun _ h => nomatch h) (fun _ h => nomatch h) (by kernel_rfl) fun _ d11 b12 lp13 hl14 H => ?_
   refine WC.enterD (fn := Tryd.f94) Tryd.func94 rfl ?_
   refine W.rg [(0, .func (.yield b12) #[] #[]), (1, .pointer (some ⟨b8, 0, none⟩)), (2, .pointer (some ⟨b9, 0, none⟩))] fun TA => ?_
   refine W.seq (W.region ?_)
   refine RW.mk H (.row ⟨[.func (.yield b12) #[] #[]], 41, false⟩) ?_
   clear H; intro _ b16 _ H
   refine RW.nil ?_
   refine W.rg [(1, .pointer (some ⟨b8, 0, none⟩)), (2, .pointer (some ⟨b9, 0, none⟩)), (3, .pointer (some ⟨b16, 0, none⟩))] fun TA => ?_
   refine W.seq (W.region ?_)
   refine RW.ld H 5 1 ?_
   refine RW.nil ?_
   refine W.rg [(2, .pointer (some ⟨b9, 0, none⟩)), (3, .pointer (some ⟨b16, 0, none⟩)), (5, .func (.func 95) #[] #[.pointer (some ⟨b7, 0, none⟩)])] fun TA => ?_
   refine W.block ?_
   refine W.rst [(2, .pointer (some ⟨b9, 0, none⟩)), (3, .pointer (some ⟨b16, 0, none⟩)), (5, .func (.func 95) #[] #[.pointer (some ⟨b7, 0, none⟩)])] ⟨rfl, rfl, rfl, trivial⟩ fun TL21 => ?_
   refine W.rangeL H rfl (fun _ h => nomatch h) (fun _ h => nomatch h) (by kernel_rfl) fun _ d17 b18 lp19 hl20 H => ?_
   refine WC.enter (fn := Tryd.f95) Tryd.func95 rfl ?_
   refine W.rg [(0, .func (.yield b18) #[] #[]), (1, .pointer (some ⟨b7, 0, none⟩))] fun TA => ?_
   refine W.seq (W.region ?_)
   refine RW.mkM H ?_
   clear H; intro _ b22 _ H
   refine RW.v ?_
   refine RW.nil ?_
   refine W.rg [(0, .func (.yield b18) #[] #[]), (1, .pointer (some ⟨b7, 0, none⟩)), (3, .map (some b22))] fun TA => ?_
   refine W.seq (W.region ?_)
   refine RW.ld H 9 1 ?_
   refine RW.len (by kernel_rfl) (by kernel_rfl) rfl rfl rfl rfl ((h1.le le0).len (e := 9) (by kernel_rfl)) (by kernel_rfl) ?_
   refine RW.v ?_
   refine RW.nil ?_
   refine W.rg [(0, .func (.yield b18) #[] #[]), (3, .map (some b22)), (7, v1), (8, .int .i64 (l.length : Int)), (9, .int .i64 0)] fun TA => ?_
   refine W.block ?_
   replace H := H.nilSl 9 1
   refine W.loop (fun mm ta σ => ∃ (i : Nat) (seen : List (List UInt8)) (acc : List (List UInt8)) (u : Value), (mm + i = l.length) ∧ (acc.length ≤ i) ∧ (T = acc ++ (distG seen (l.drop i)).filter (fun c => (matchC true (runes c) (runes s)).isSome)) ∧ Lies G A F σ (.sl 9 1 u acc.length (acc.map strV) :: .at_ b22 (.ents (seenE seen) seen.length) :: .at_ b18 lp19 :: .at_ d17 (.defs true) :: .at_ b16 (.row ⟨[.func (.yield b12) #[] #[]], 41, false⟩) :: .at_ b12 lp13 :: .at_ d11 (.defs true) :: .at_ b10 (.row ⟨[u], 22, false⟩) :: .at_ b9 (.row ⟨[.func (.func 59) #[] #[.pointer (some ⟨b2, 0, none⟩), .pointer (some ⟨b5, 0, none⟩), .pointer (some ⟨b6, 0, none⟩)]], 41, false⟩) :: .at_ b8 (.row ⟨[.func (.func 95) #[] #[.pointer (some ⟨b7, 0, none⟩)]], 71, false⟩) :: .at_ b7 (.row ⟨[v1], 22, false⟩) :: (L)) ∧ ta 0 = .func (.yield b18) #[] #[] ∧ ta 3 = .map (some b22) ∧ ta 7 = v1 ∧ ta 8 = .int .i64 (l.length : Int) ∧ ta 9 = .int .i64 ((i : Nat) : Int)) l.length ?_ ?_
   ·exact ⟨0, [], [], .slice none 0 0, (by omega), (Nat.zero_le _), hT0, H, rfl, rfl, rfl, rfl, rfl⟩
   clear H
   rintro mm ta _ ⟨i, seen, acc, u, hm, hac, hT, H, e0, e3, e7, e8, e9⟩
   refine W.rst [(0, .func (.yield b18) #[] #[]), (3, .map (some b22)), (7, v1), (8, .int .i64 (l.length : Int)), (9, .int .i64 ((i : Nat) : Int))] ⟨e0, e3, e7, e8, e9, trivial⟩ fun TA => ?_
   clear e0 e3 e7 e8 e9
   refine W.seq (W.region ?_)
   refine RW.v ?_
   refine RW.nil ?_
   refine W.rg [(0, .func (.yield b18) #[] #[]), (3, .map (some b22)), (7, v1), (8, .int .i64 (l.length : Int)), (9, .int .i64 ((i : Nat) : Int)), (10, .bool (decide (((i : Nat) : Int) < (l.length : Int))))] fun TA => ?_
   refine W.seq ?_
   refine W.cond rfl (fun hc23 => ?_) (fun hc23 => ?_)
   ·have hc23b := hc23
    have hc23 := of_decide_eq_true hc23
    have hil : i < l.length := by omega
    refine W.skip ?_
    refine W.seq ?_
    refine W.block ?_
    refine W.seq (W.region ?_)
    refine RW.idxF (h1.le le0) (by kernel_rfl) (by kernel_rfl) rfl Tryd.underlying22 (by kernel_rfl) rfl rfl ⟨by omega, by omega⟩ (by kernel_rfl) ?_
    intro b24 q25 r26 hF27 hE28
    rw [strs_at (l := l) (j := i) (i := ((i : Nat) : Int)) (by omega) (by omega)] at hE28
    refine RW.loads 1 (by kernel_rfl) (by kernel_rfl) rfl rfl (H.old _ _ hF27) hE28 rfl (by kernel_rfl) ?_
    refine RW.v ?_
    refine RW.nil ?_
    refine W.rg [(0, .func (.yield b18) #[] #[]), (3, .map (some b22)), (5, .string ⟨(l.getD i []).toArray⟩), (7, v1), (8, .int .i64 (l.length : Int)), (9, .int .i64 ((i : Nat) : Int))] fun TA => ?_
    refine W.seq ?_
    refine W.seq (W.region ?_)
    iterate 2 refine RW.v ?_
    refine RW.lkL H 1 (.bool (decide ((l.getD i []) ∈ seen))) ?_ (hv := look_seen rfl rfl (by kernel_rfl))
    refine RW.v ?_
    refine RW.both _ _ rfl rfl rfl (fun hc29 => ?_) (fun hc29 => ?_)
    ·have hc29b := hc29
     have hc29 := of_decide_eq_true hc29
     have hskip : (l.getD i []) ∈ seen ∨ validD (l.getD i []) = false := .inl hc29
     iterate 3 refine RW.s ?_
     refine RW.v ?_
     refine RW.nil ?_
     refine W.c1 ?_
     refine W.exit _ ?_
     refine seqQ_exit ?_
     refine blkQ_here ?_
     refine W.region ?_
     refine RW.valE (v' := .int .i64 (((i : Nat) : Int) + 1)) (by kernel_rfl) (by kernel_rfl) rfl (congrArg (Value.int .i64) (wrap_in (by omega) (by omega))) (by kernel_rfl) ?_
     refine RW.v ?_
     refine RW.nil ?_
     exact ⟨rfl, mm - 1, by omega, i + 1, seen, acc, u, (by omega), (by omega), (by rw [hT, dist_skip hil hskip]), H, rfl, rfl, rfl, rfl, rfl⟩
    ·have hc29b := hc29
     have hc29 := of_decide_eq_false hc29
     have hnew := hc29
     refine RW.w ?_
     refine RW.cl (hw := by rfl) ?_
     refine ⟨_, _, (s_valid (hU.le (fun b y h => H.old _ _ (le0 b y h))) h16 (hsm _ (mem_of (by omega)))), ?_⟩
     refine RW.w ?_
     refine RW.v ?_
     refine RW.nil ?_
     refine W.rg [(0, .func (.yield b18) #[] #[]), (3, .map (some b22)), (5, .string ⟨(l.getD i []).toArray⟩), (7, v1), (8, .int .i64 (l.length : Int)), (9, .int .i64 ((i : Nat) : Int)), (20, .bool (!(validD (l.getD i []))))] fun TA => ?_
     refine W.cond rfl (fun hc30 => ?_) (fun hc30 => ?_)
     ·have hc30b := hc30
      have hval : validD (l.getD i []) = false := by simpa using hc30b
      have hskip : (l.getD i []) ∈ seen ∨ validD (l.getD i []) = false := .inr hval
      refine W.exit _ ?_
      refine seqQ_exit ?_
      refine blkQ_here ?_
      refine W.region ?_
      refine RW.valE (v' := .int .i64 (((i : Nat) : Int) + 1)) (by kernel_rfl) (by kernel_rfl) rfl (congrArg (Value.int .i64) (wrap_in (by omega) (by omega))) (by kernel_rfl) ?_
      refine RW.v ?_
      refine RW.nil ?_
      exact ⟨rfl, mm - 1, by omega, i + 1, seen, acc, u, (by omega), (by omega), (by rw [hT, dist_skip hil hskip]), H, rfl, rfl, rfl, rfl, rfl⟩
     ·have hc30b := hc30
      have hval : validD (l.getD i []) = true := by simpa using hc30b
      refine W.skip ?_
      refine W.seq (W.region ?_)
      iterate 2 refine RW.v ?_
      refine RW.upL H 1 (seenE (seen ++ [(l.getD i [])])) (seen.length + 1) ?_ (hv := upd_seen rfl rfl hnew)
      clear H; intro _ _ H; dsimp only [setL, delL] at H
      refine RW.nil ?_
      refine W.rg [(0, .func (.yield b18) #[] #[]), (3, .map (some b22)), (5, .string ⟨(l.getD i []).toArray⟩), (7, v1), (8, .int .i64 (l.length : Int)), (9, .int .i64 ((i : Nat) : Int))] fun TA => ?_
      refine W.seq (W.region ?_)
      iterate 2 refine RW.v ?_
      refine RW.yieldL H 2 rfl hl20 (by kernel_rfl) (by kernel_rfl) rfl rfl rfl rfl rfl (by kernel_rfl) ?_
      refine W.rg [(2, .pointer (some ⟨b9, 0, none⟩)), (3, .pointer (some ⟨b16, 0, none⟩)), (5, .func (.func 95) #[] #[.pointer (some ⟨b7, 0, none⟩)]), (6, .string ⟨(l.getD i []).toArray⟩)] fun TA => ?_
      refine W.region ?_
      refine RW.v ?_
      refine RW.nil ?_
      refine ⟨rfl, _, _, _, 2, H, rfl, ?_⟩
      clear H; intro _ lq31 hq32 H
      dsimp only [setL, delL] at H
      refine W.rg [(2, .pointer (some ⟨b9, 0, none⟩)), (3, .pointer (some ⟨b16, 0, none⟩)), (4, .string ⟨(l.getD i []).toArray⟩), (5, .func (.func 95) #[] #[.pointer (some ⟨b7, 0, none⟩)]), (6, .string ⟨(l.getD i []).toArray⟩)] fun TA => ?_
      refine W.block ?_
      refine W.seq (W.region ?_)
      refine RW.ld H 8 1 ?_
      refine RW.v ?_
      refine RW.cl ?_
      refine ((cl_part (fold := true) (s := (l.getD i [])) hb7 hb8 hb9 hu al hum (by omega) hwm hwb (hsm _ (mem_of (by omega))) H).mono ?_)
      clear H
      rintro _ _ ⟨rfl, H⟩
      rw [hme]
      refine RW.v ?_
      refine RW.both _ _ rfl rfl rfl (fun hc33 => ?_) (fun hc33 => ?_)
      ·have hc33b := hc33
       refine RW.ldL H 4 1 (by rfl) (by kernel_rfl) rfl rfl rfl rfl rfl (by kernel_rfl) ?_
       refine RW.w ?_
       refine RW.yieldL H 5 rfl hl14 (by rfl) (by kernel_rfl) rfl rfl rfl rfl rfl (by kernel_rfl) ?_
       refine W.rg [(2, .pointer (some ⟨b10, 0, none⟩)), (6, .func (.func 94) #[] #[.pointer (some ⟨b8, 0, none⟩), .pointer (some ⟨b9, 0, none⟩)]), (7, .string ⟨(l.getD i []).toArray⟩)] fun TA => ?_
       refine W.region ?_
       refine RW.v ?_
       refine RW.nil ?_
       refine ⟨rfl, _, _, _, 5, H, rfl, ?_⟩
       clear H; intro _ lq34 hq35 H
       dsimp only [setL, delL] at H
       refine W.rg [(2, .pointer (some ⟨b10, 0, none⟩)), (5, .string ⟨(l.getD i []).toArray⟩), (6, .func (.func 94) #[] #[.pointer (some ⟨b8, 0, none⟩), .pointer (some ⟨b9, 0, none⟩)]), (7, .string ⟨(l.getD i []).toArray⟩)] fun TA => ?_
       refine W.block ?_
       refine W.region ?_
       refine RW.ld H 7 1 ?_
       refine RW.v ?_
       refine RW.mkL H (x := .row ⟨[.string ⟨(l.getD i []).toArray⟩], 9, false⟩) (fm := fun b => .slice (some ⟨b, 0, none⟩) 1 1) (by kernel_rfl) (by kernel_rfl) (by kernel_rfl) (by kernel_rfl) ?_
       clear H; intro _ b36 _ H
       refine RW.appL H 1 0 (n := 1) (e2 := 9) (by kernel_rfl) (by kernel_rfl) rfl rfl rfl rfl rfl rfl rfl rfl (by kernel_rfl) (by kernel_rfl) (by kernel_rfl) (by decide) (by decide) rfl rfl (by omega) (by kernel_rfl) ?_
       clear H; intro _ v37 _ H
       dsimp only [setL, delL] at H
       refine RW.stL H 7 (vs := [v37]) (cs' := [v37]) (by kernel_rfl) (by kernel_rfl) rfl rfl rfl (H.sl 0 rfl).one (gr_all (H.sl 0 rfl)) (by kernel_rfl) (Nat.le_of_ble_eq_true rfl) rfl (by kernel_rfl) ?_
       clear H; intro _ _ H; dsimp only [setL, delL] at H
       refine RW.nil ?_
       refine bQn ?_
       refine ⟨_, _, _, 5, true, .ready, none, H, rfl, rfl, ?_⟩
       clear H; intro _ lr38 _ hr39 H
       dsimp only [setL, delL] at H
       refine RW.w ?_
       refine RW.v ?_
       refine RW.nil ?_
       refine W.c0 ?_
       refine W.skip ?_
       refine bQn ?_
       refine ⟨_, _, _, 2, true, .ready, none, H, rfl, rfl, ?_⟩
       clear H; intro _ lr40 _ hr41 H
       dsimp only [setL, delL] at H
       refine RW.v ?_
       refine RW.nil ?_
       refine W.c0 ?_
       refine W.skip ?_
       refine bQn ?_
       refine W.region ?_
       refine RW.valE (v' := .int .i64 (((i : Nat) : Int) + 1)) (by kernel_rfl) (by kernel_rfl) rfl (congrArg (Value.int .i64) (wrap_in (by omega) (by omega))) (by kernel_rfl) ?_
       refine RW.v ?_
       refine RW.nil ?_
       rw [show lr40 = lp19 from hr41.trans hl20.symm] at H
       rw [show lr38 = lp13 from hr39.trans hl14.symm] at H
       rw [show seen.length + 1 = (seen ++ [(l.getD i [])]).length by rw [List.length_append]; rfl] at H
       rw [acc_snoc (x := (l.getD i []))] at H
       rw [show acc.length + 1 = (acc ++ [(l.getD i [])]).length by rw [List.length_append]; rfl] at H
       exact ⟨rfl, mm - 1, by omega, i + 1, (seen ++ [(l.getD i [])]), (acc ++ [(l.getD i [])]), v37, (by omega), (by rw [List.length_append, List.length_singleton]; omega), (by rw [hT, dist_take hil hnew hval, List.filter_cons_of_pos (p := (fun c => (matchC true (runes c) (runes s)).isSome)) hc33b, List.append_assoc]; rfl), H, rfl, rfl, rfl, rfl, rfl⟩
      ·have hc33b := hc33
       iterate 4 refine RW.s ?_
       refine RW.v ?_
       refine RW.nil ?_
       refine W.c0 ?_
       refine W.skip ?_
       refine bQn ?_
       refine ⟨_, _, _, 2, true, .ready, none, H, rfl, rfl, ?_⟩
       clear H; intro _ lr42 _ hr43 H
       dsimp only [setL, delL] at H
       refine RW.v ?_
       refine RW.nil ?_
       refine W.c0 ?_
       refine W.skip ?_
       refine bQn ?_
       refine W.region ?_
       refine RW.valE (v' := .int .i64 (((i : Nat) : Int) + 1)) (by kernel_rfl) (by kernel_rfl) rfl (congrArg (Value.int .i64) (wrap_in (by omega) (by omega))) (by kernel_rfl) ?_
       refine RW.v ?_
       refine RW.nil ?_
       rw [show lr42 = lp19 from hr43.trans hl20.symm] at H
       rw [show seen.length + 1 = (seen ++ [(l.getD i [])]).length by rw [List.length_append]; rfl] at H
       exact ⟨rfl, mm - 1, by omega, i + 1, (seen ++ [(l.getD i [])]), acc, u, (by omega), (by omega), (by rw [hT, dist_take hil hnew hval, List.filter_cons_of_neg (p := (fun c => (matchC true (runes c) (runes s)).isSome)) (by rw [hc33b]; exact Bool.false_ne_true)]), H, rfl, rfl, rfl, rfl, rfl⟩
   ·have hc23b := hc23
    have hc23 := of_decide_eq_false hc23
    refine W.exit _ ?_
    refine seqQ_exit ?_
    refine rndQ_exit ?_
    have hR : T = acc := by rw [hT, List.drop_eq_nil_of_le (by omega)]; exact List.append_nil _
    refine blkQ_here ?_
    refine endG (by rfl) (by exact rfl) ?_
    refine ⟨_, _, _, 2, _, _, _, _, H, rfl, hl20, rfl, rfl, ?_⟩
    clear H; intro _ H
    dsimp only [setL, delL] at H
    refine bQn ?_
    refine endMark H 2 rfl fun _ H => ?_
    dsimp only [setL, delL] at H
    refine endGD0 (by rfl) (by exact rfl) ?_
    refine ⟨_, _, _, 3, _, _, _, _, H, rfl, hl14, rfl, rfl, ?_⟩
    clear H; intro _ H
    dsimp only [setL, delL] at H
    refine bQn ?_
    refine W.seq (W.region ?_)
    refine RW.ld H 4 1 ?_
    refine RW.v ?_
    refine RW.nil ?_
    replace H := (((H.del 4).del 2).del 1)
    dsimp only [setL, delL] at H
    refine W.ret ?_
    refine endMark H 1 rfl fun _ H => ?_
    dsimp only [setL, delL] at H
    refine endGD0 (by rfl) (by exact resL_tmp rfl) ?_
    refine RW.v ?_
    refine RW.nil ?_
    refine W.ret ?_
    refine endG (by rfl) (by exact resL_tmp rfl) ?_
    refine RW.v ?_
    refine RW.nil ?_
    replace H := (((H.del 3).del 2).del 1)
    dsimp only [setL, delL] at H
    refine W.ret ?_
    refine endG (by rfl) (by exact resL_tmp rfl) ?_
    rw [← hTd, hR]
    obtain ⟨F', le, hv, H⟩ := H.freezeSl 0 rfl
    dsimp only [setL, delL] at H
    exact ⟨F', fun b y h => le b y (le0 b y h), hv, H⟩
 | false =>
  obtain ⟨F0, hF⟩ : ∃ F0, F0 = F := ⟨_, rfl⟩
  have le0 : Le F0 F := fun b y h => hF ▸ h
  rw [← hF] at h1 hU ⊢
  refine WC.enter (fn := Tryd.f18) Tryd.func18 rfl ?_
  refine W.rg [(0, v1), (1, .string ⟨s.toArray⟩), (2, .bool false)] fun TA => ?_
  refine W.seq (W.region ?_)
  refine RW.v ?_
  refine RW.nil ?_
  refine W.rg [(0, v1), (1, .string ⟨s.toArray⟩), (2, .bool false)] fun TA => ?_
  refine W.seq ?_
  refine W.seq (W.region ?_)
  refine RW.v ?_
  refine RW.cl ?_
  refine ⟨_, _, (s_valid (hU.le (fun b y h => H.old _ _ (le0 b y h))) h16 (Nat.le_trans hs (by decide))), ?_⟩
  refine RW.v ?_
  refine RW.nil ?_
  refine W.rg [(0, v1), (1, .string ⟨s.toArray⟩), (2, .bool false), (12, .bool (!(validD s)))] fun TA => ?_
  refine W.cond rfl (fun hc1 => ?_) (fun hc1 => ?_)
  ·have hc1b := hc1
   have hvs : validD s = false := by simpa using hc1b
   refine W.seq (W.region ?_)
   refine RW.v ?_
   refine RW.nil ?_
   refine W.ret ?_
   refine seqQ_ret ?_
   refine endG (by rfl) (by exact resL_tmp rfl) ?_
   have ea : partC false l s = [] := by unfold partC; rw [if_neg (by rw [hvs]; exact Bool.false_ne_true)]
   rw [ea]
   exact ⟨F, le0, .nil _ rfl, H⟩
  ·have hc1b := hc1
   have hvs : validD s = true := by simpa using hc1b
   refine W.skip ?_
   refine W.seq (W.region ?_)
   refine RW.v ?_
   refine RW.cl ?_
   refine ((by_wc (fold := false) H).mono ?_)
   clear H
   rintro _ _ ⟨rfl, H⟩
   refine RW.mk H (.row ⟨[.nilFunc], 47, false⟩) ?_
   clear H; intro _ b2 _ H
   refine RW.st H 0 [.func (.func 86) #[] #[]] [.func (.func 86) #[] #[]] ?_
   clear H; intro _ _ H; dsimp only [setL, delL] at H
   refine RW.nil ?_
   refine W.rg [(0, v1), (1, .string ⟨s.toArray⟩), (7, .pointer (some ⟨b2, 0, none⟩))] fun TA => ?_
   refine W.seq (W.region ?_)
   refine RW.v ?_
   refine RW.convR H (Nat.le_trans hs (by decide)) (by kernel_rfl) (by kernel_rfl) rfl rfl rfl rfl rfl (by kernel_rfl) ?_
   clear H; intro _ cv3 H
   obtain ⟨F, le, hk4, H⟩ := H.freezeK 0 rfl
   dsimp only [setL, delL] at H
   replace le0 := fun b y h => le b y (le0 b y h)
   refine RW.cl ?_
   refine ((parts_wc hk4 (Nat.le_trans (runes_le s) (Nat.le_trans hs (by decide))) H).mono ?_)
   clear H
   rintro _ _ ⟨F, u, um, wsl, le, rfl, hu, al, hum, H⟩
   replace le0 := fun b y h => le b y (le0 b y h)
   replace hk4 := hk4.le le
   obtain ⟨ws, hws⟩ : ∃ ws, ws = (partsC (runes s)).1 := ⟨_, rfl⟩
   obtain ⟨ms, hms⟩ : ∃ ms, ms = (partsC (runes s)).2 := ⟨_, rfl⟩
   rw [← hws] at hu al
   rw [← hms] at hum
   have hwm : ws.length = ms.length + 1 := by rw [hws, hms]; exact partsG_len _ _
   have hmr : ms.length ≤ (runes s).length := by rw [hms]; exact partsG_small _ _
   have hwb : ∀ w ∈ ws, ∀ x ∈ w, 0 ≤ x ∧ x ≤ 1114111 := fun w hw x hx => by rw [hws] at hw; exact ((partsG_mem (runes s) []).1 w hw x hx).elim (fun h => absurd h (List.not_mem_nil)) (runes_in s x)
   have hmb : ∀ x ∈ ms, 0 ≤ x ∧ x ≤ 1114111 := fun x hx => by rw [hms] at hx; exact runes_in s x ((partsG_mem (runes s) []).2 x hx)
   have hrs : (runes s).length ≤ 16000 := Nat.le_trans (runes_le s) hs
   iterate 3 refine RW.v ?_
   refine RW.mk H (.row ⟨[.slice none 0 0], 49, false⟩) ?_
   clear H; intro _ b5 _ H
   refine RW.mk H (.row ⟨[.slice none 0 0], 50, false⟩) ?_
   clear H; intro _ b6 _ H
   refine RW.stL H 1 (vs := [u]) (cs' := [u]) (by kernel_rfl) (by kernel_rfl) rfl rfl rfl (slf_one hu.slf) (slf_all hu.slf) (by kernel_rfl) (Nat.le_of_ble_eq_true rfl) rfl (by kernel_rfl) ?_
   clear H; intro _ _ H; dsimp only [setL, delL] at H
   refine RW.stL H 0 (vs := [um]) (cs' := [um]) (by kernel_rfl) (by kernel_rfl) rfl rfl rfl (slf_one hum.slf) (slf_all hum.slf) (by kernel_rfl) (Nat.le_of_ble_eq_true rfl) rfl (by kernel_rfl) ?_
   clear H; intro _ _ H; dsimp only [setL, delL] at H
   refine RW.nil ?_
   refine W.rg [(0, v1), (7, .pointer (some ⟨b2, 0, none⟩)), (8, .pointer (some ⟨b5, 0, none⟩)), (9, .pointer (some ⟨b6, 0, none⟩))] fun TA => ?_
   refine W.seq (W.region ?_)
   refine RW.v ?_
   refine RW.cl ?_
   refine WC.enter (fn := Tryd.f58) Tryd.func58 rfl ?_
   refine W.rg [(0, v1)] fun TA => ?_
   refine W.seq (W.region ?_)
   refine RW.mk H (.row ⟨(v1).cells.toList, 22, false⟩) ?_
   clear H; intro _ b7 _ H
   rw [(slf_one (h1.le le0))] at H
   refine RW.v ?_
   refine RW.nil ?_
   refine W.rg [(1, .pointer (some ⟨b7, 0, none⟩))] fun TA => ?_
   refine W.seq (W.region ?_)
   refine RW.val (v := .func (.func 95) #[] #[.pointer (some ⟨b7, 0, none⟩)]) (by kernel_rfl) (by kernel_rfl) (by kernel_rfl) (by kernel_rfl) ?_
   refine RW.v ?_
   refine RW.nil ?_
   refine W.ret ?_
   refine endG (by rfl) (by exact resL_tmp rfl) ?_
   refine RW.val (v := .func (.func 59) #[] #[.pointer (some ⟨b2, 0, none⟩), .pointer (some ⟨b5, 0, none⟩), .pointer (some ⟨b6, 0, none⟩)]) (by kernel_rfl) (by kernel_rfl) (by kernel_rfl) (by kernel_rfl) ?_
   obtain ⟨F, le, hb7, H⟩ := H.freeze 3 rfl
   dsimp only [setL, delL] at H
   replace le0 := fun b y h => le b y (le0 b y h)
   replace hk4 := hk4.le le
   replace hu := hu.le le
   replace al := al.le le
   replace hum := hum.le le
   obtain ⟨F, le, hb8, H⟩ := H.freeze 2 rfl
   dsimp only [setL, delL] at H
   replace le0 := fun b y h => le b y (le0 b y h)
   replace hk4 := hk4.le le
   replace hu := hu.le le
   replace al := al.le le
   replace hum := hum.le le
   replace hb7 := le _ _ hb7
   obtain ⟨F, le, hb9, H⟩ := H.freeze 1 rfl
   dsimp only [setL, delL] at H
   replace le0 := fun b y h => le b y (le0 b y h)
   replace hk4 := hk4.le le
   replace hu := hu.le le
   replace al := al.le le
   replace hum := hum.le le
   replace hb7 := le _ _ hb7
   replace hb8 := le _ _ hb8
   obtain ⟨T, hTd⟩ : ∃ T, T = partC false l s := ⟨_, rfl⟩
   have hT0 : T = [] ++ (distG [] (l.drop 0)).filter (fun c => (matchC false (runes c) (runes s)).isSome) := by rw [hTd]; unfold partC; rw [if_pos hvs]; rfl
   have hme : ∀ c, (matchG false c ws ms).isSome = (matchC false c (runes s)).isSome := fun c => by rw [hws, hms]; rfl
   refine RW.cl ?_
   refine WC.enter (fn := Tryd.f57) Tryd.func57 rfl ?_
   refine W.rg [(0, .func (.func 95) #[] #[.pointer (some ⟨b7, 0, none⟩)]), (1, .func (.func 59) #[] #[.pointer (some ⟨b2, 0, none⟩), .pointer (some ⟨b5, 0, none⟩), .pointer (some ⟨b6, 0, none⟩)])] fun TA => ?_
   refine W.seq (W.region ?_)
   refine RW.mk H (.row ⟨[.func (.func 95) #[] #[pt b7]], 71, false⟩) ?_
   clear H; intro _ b8 _ H
   refine RW.mk H (.row ⟨[.func (.func 59) #[] #[pt b2, pt b5, pt b6]], 41, false⟩) ?_
   clear H; intro _ b9 _ H
   refine RW.v ?_
   refine RW.nil ?_
   refine W.rg [(2, .pointer (some ⟨b8, 0, none⟩)), (3, .pointer (some ⟨b9, 0, none⟩))] fun TA => ?_
   refine W.seq (W.region ?_)
   refine RW.val (v := .func (.func 94) #[] #[.pointer (some ⟨b8, 0, none⟩), .pointer (some ⟨b9, 0, none⟩)]) (by kernel_rfl) (by kernel_rfl) (by kernel_rfl) (by kernel_rfl) ?_
   refine RW.v ?_
   refine RW.nil ?_
   refine W.ret ?_
   refine endG (by rfl) (by exact resL_tmp rfl) ?_
   refine RW.cl ?_
   refine WC.enter (fn := Tryd.f56) Tryd.func56 rfl ?_
   refine W.rg [(0, .func (.func 94) #[] #[.pointer (some ⟨b8, 0, none⟩), .pointer (some ⟨b9, 0, none⟩)])] fun TA => ?_
   refine W.seq (W.region ?_)
   refine RW.v ?_
   refine RW.nil ?_
   refine W.rg [(0, .func (.func 94) #[] #[.pointer (some ⟨b8, 0, none⟩), .pointer (some ⟨b9, 0, none⟩)])] fun TA => ?_
   refine W.seq (W.region ?_)
   refine RW.v ?_
   refine RW.cl ?_
   refine WC.enterD (fn := Tryd.f93) Tryd.func93 rfl ?_
   refine W.rg [(0, .slice none 0 0), (1, .func (.func 94) #[] #[.pointer (some ⟨b8, 0, none⟩), .pointer (some ⟨b9, 0, none⟩)])] fun TA => ?_
   refine W.seq (W.region ?_)
   refine RW.mk H (.row ⟨[.slice none 0 0], 22, false⟩) ?_
   clear H; intro _ b10 _ H
   refine RW.v ?_
   refine RW.nil ?_
   refine W.rg [(1, .func (.func 94) #[] #[.pointer (some ⟨b8, 0, none⟩), .pointer (some ⟨b9, 0, none⟩)]), (2, .pointer (some ⟨b10, 0, none⟩))] fun TA => ?_
   refine W.seq ?_
   refine W.seq (W.region ?_)
   refine RW.v ?_
   refine RW.nil ?_
   refine W.rg [(2, .pointer (some ⟨b10, 0, none⟩)), (6, .func (.func 94) #[] #[.pointer (some ⟨b8, 0, none⟩), .pointer (some ⟨b9, 0, none⟩)])] fun TA => ?_
   refine W.block ?_
   refine W.rst [(2, .pointer (some ⟨b10, 0, none⟩)), (6, .func (.func 94) #[] #[.pointer (some ⟨b8, 0, none⟩), .pointer (some ⟨b9, 0, none⟩)])] ⟨rfl, rfl, trivial⟩ fun TL15 => ?_
   refine W.rangeL H rfl (fun _ h => nomatch h) (fun _ h => nomatch h) (by kernel_rfl) fun _ d11 b12 lp13 hl14 H => ?_
   refine WC.enterD (fn := Tryd.f94) Tryd.func94 rfl ?_
   refine W.rg [(0, .func (.yield b12) #[] #[]), (1, .pointer (some ⟨b8, 0, none⟩)), (2, .pointer (some ⟨b9, 0, none⟩))] fun TA => ?_
   refine W.seq (W.region ?_)
   refine RW.mk H (.row ⟨[.func (.yield b12) #[] #[]], 41, false⟩) ?_
   clear H; intro _ b16 _ H
   refine RW.nil ?_
   refine W.rg [(1, .pointer (some ⟨b8, 0, none⟩)), (2, .pointer (some ⟨b9, 0, none⟩)), (3, .pointer (some ⟨b16, 0, none⟩))] fun TA => ?_
   refine W.seq (W.region ?_)
   refine RW.ld H 5 1 ?_
   refine RW.nil ?_
   refine W.rg [(2, .pointer (some ⟨b9, 0, none⟩)), (3, .pointer (some ⟨b16, 0, none⟩)), (5, .func (.func 95) #[] #[.pointer (some ⟨b7, 0, none⟩)])] fun TA => ?_
   refine W.block ?_
   refine W.rst [(2, .pointer (some ⟨b9, 0, none⟩)), (3, .pointer (some ⟨b16, 0, none⟩)), (5, .func (.func 95) #[] #[.pointer (some ⟨b7, 0, none⟩)])] ⟨rfl, rfl, rfl, trivial⟩ fun TL21 => ?_
   refine W.rangeL H rfl (fun _ h => nomatch h) (fun _ h => nomatch h) (by kernel_rfl) fun _ d17 b18 lp19 hl20 H => ?_
   refine WC.enter (fn := Tryd.f95) Tryd.func95 rfl ?_
   refine W.rg [(0, .func (.yield b18) #[] #[]), (1, .pointer (some ⟨b7, 0, none⟩))] fun TA => ?_
   refine W.seq (W.region ?_)
   refine RW.mkM H ?_
   clear H; intro _ b22 _ H
   refine RW.v ?_
   refine RW.nil ?_
   refine W.rg [(0, .func (.yield b18) #[] #[]), (1, .pointer (some ⟨b7, 0, none⟩)), (3, .map (some b22))] fun TA => ?_
   refine W.seq (W.region ?_)
   refine RW.ld H 9 1 ?_
   refine RW.len (by kernel_rfl) (by kernel_rfl) rfl rfl rfl rfl ((h1.le le0).len (e := 9) (by kernel_rfl)) (by kernel_rfl) ?_
   refine RW.v ?_
   refine RW.nil ?_
   refine W.rg [(0, .func (.yield b18) #[] #[]), (3, .map (some b22)), (7, v1), (8, .int .i64 (l.length : Int)), (9, .int .i64 0)] fun TA => ?_
   refine W.block ?_
   replace H := H.nilSl 9 1
   refine W.loop (fun mm ta σ => ∃ (i : Nat) (seen : List (List UInt8)) (acc : List (List UInt8)) (u : Value), (mm + i = l.length) ∧ (acc.length ≤ i) ∧ (T = acc ++ (distG seen (l.drop i)).filter (fun c => (matchC false (runes c) (runes s)).isSome)) ∧ Lies G A F σ (.sl 9 1 u acc.length (acc.map strV) :: .at_ b22 (.ents (seenE seen) seen.length) :: .at_ b18 lp19 :: .at_ d17 (.defs true) :: .at_ b16 (.row ⟨[.func (.yield b12) #[] #[]], 41, false⟩) :: .at_ b12 lp13 :: .at_ d11 (.defs true) :: .at_ b10 (.row ⟨[u], 22, false⟩) :: .at_ b9 (.row ⟨[.func (.func 59) #[] #[.pointer (some ⟨b2, 0, none⟩), .pointer (some ⟨b5, 0, none⟩), .pointer (some ⟨b6, 0, none⟩)]], 41, false⟩) :: .at_ b8 (.row ⟨[.func (.func 95) #[] #[.pointer (some ⟨b7, 0, none⟩)]], 71, false⟩) :: .at_ b7 (.row ⟨[v1], 22, false⟩) :: (L)) ∧ ta 0 = .func (.yield b18) #[] #[] ∧ ta 3 = .map (some b22) ∧ ta 7 = v1 ∧ ta 8 = .int .i64 (l.length : Int) ∧ ta 9 = .int .i64 ((i : Nat) : Int)) l.length ?_ ?_
   ·exact ⟨0, [], [], .slice none 0 0, (by omega), (Nat.zero_le _), hT0, H, rfl, rfl, rfl, rfl, rfl⟩
   clear H
   rintro mm ta _ ⟨i, seen, acc, u, hm, hac, hT, H, e0, e3, e7, e8, e9⟩
   refine W.rst [(0, .func (.yield b18) #[] #[]), (3, .map (some b22)), (7, v1), (8, .int .i64 (l.length : Int)), (9, .int .i64 ((i : Nat) : Int))] ⟨e0, e3, e7, e8, e9, trivial⟩ fun TA => ?_
   clear e0 e3 e7 e8 e9
   refine W.seq (W.region ?_)
   refine RW.v ?_
   refine RW.nil ?_
   refine W.rg [(0, .func (.yield b18) #[] #[]), (3, .map (some b22)), (7, v1), (8, .int .i64 (l.length : Int)), (9, .int .i64 ((i : Nat) : Int)), (10, .bool (decide (((i : Nat) : Int) < (l.length : Int))))] fun TA => ?_
   refine W.seq ?_
   refine W.cond rfl (fun hc23 => ?_) (fun hc23 => ?_)
   ·have hc23b := hc23
    have hc23 := of_decide_eq_true hc23
    have hil : i < l.length := by omega
    refine W.skip ?_
    refine W.seq ?_
    refine W.block ?_
    refine W.seq (W.region ?_)
    refine RW.idxF (h1.le le0) (by kernel_rfl) (by kernel_rfl) rfl Tryd.underlying22 (by kernel_rfl) rfl rfl ⟨by omega, by omega⟩ (by kernel_rfl) ?_
    intro b24 q25 r26 hF27 hE28
    rw [strs_at (l := l) (j := i) (i := ((i : Nat) : Int)) (by omega) (by omega)] at hE28
    refine RW.loads 1 (by kernel_rfl) (by kernel_rfl) rfl rfl (H.old _ _ hF27) hE28 rfl (by kernel_rfl) ?_
    refine RW.v ?_
    refine RW.nil ?_
    refine W.rg [(0, .func (.yield b18) #[] #[]), (3, .map (some b22)), (5, .string ⟨(l.getD i []).toArray⟩), (7, v1), (8, .int .i64 (l.length : Int)), (9, .int .i64 ((i : Nat) : Int))] fun TA => ?_
    refine W.seq ?_
    refine W.seq (W.region ?_)
    iterate 2 refine RW.v ?_
    refine RW.lkL H 1 (.bool (decide ((l.getD i []) ∈ seen))) ?_ (hv := look_seen rfl rfl (by kernel_rfl))
    refine RW.v ?_
    refine RW.both _ _ rfl rfl rfl (fun hc29 => ?_) (fun hc29 => ?_)
    ·have hc29b := hc29
     have hc29 := of_decide_eq_true hc29
     have hskip : (l.getD i []) ∈ seen ∨ validD (l.getD i []) = false := .inl hc29
     iterate 3 refine RW.s ?_
     refine RW.v ?_
     refine RW.nil ?_
     refine W.c1 ?_
     refine W.exit _ ?_
     refine seqQ_exit ?_
     refine blkQ_here ?_
     refine W.region ?_
     refine RW.valE (v' := .int .i64 (((i : Nat) : Int) + 1)) (by kernel_rfl) (by kernel_rfl) rfl (congrArg (Value.int .i64) (wrap_in (by omega) (by omega))) (by kernel_rfl) ?_
     refine RW.v ?_
     refine RW.nil ?_
     exact ⟨rfl, mm - 1, by omega, i + 1, seen, acc, u, (by omega), (by omega), (by rw [hT, dist_skip hil hskip]), H, rfl, rfl, rfl, rfl, rfl⟩
    ·have hc29b := hc29
     have hc29 := of_decide_eq_false hc29
     have hnew := hc29
     refine RW.w ?_
     refine RW.cl (hw := by rfl) ?_
     refine ⟨_, _, (s_valid (hU.le (fun b y h => H.old _ _ (le0 b y h))) h16 (hsm _ (mem_of (by omega)))), ?_⟩
     refine RW.w ?_
     refine RW.v ?_
     refine RW.nil ?_
     refine W.rg [(0, .func (.yield b18) #[] #[]), (3, .map (some b22)), (5, .string ⟨(l.getD i []).toArray⟩), (7, v1), (8, .int .i64 (l.length : Int)), (9, .int .i64 ((i : Nat) : Int)), (20, .bool (!(validD (l.getD i []))))] fun TA => ?_
     refine W.cond rfl (fun hc30 => ?_) (fun hc30 => ?_)
     ·have hc30b := hc30
      have hval : validD (l.getD i []) = false := by simpa using hc30b
      have hskip : (l.getD i []) ∈ seen ∨ validD (l.getD i []) = false := .inr hval
      refine W.exit _ ?_
      refine seqQ_exit ?_
      refine blkQ_here ?_
      refine W.region ?_
      refine RW.valE (v' := .int .i64 (((i : Nat) : Int) + 1)) (by kernel_rfl) (by kernel_rfl) rfl (congrArg (Value.int .i64) (wrap_in (by omega) (by omega))) (by kernel_rfl) ?_
      refine RW.v ?_
      refine RW.nil ?_
      exact ⟨rfl, mm - 1, by omega, i + 1, seen, acc, u, (by omega), (by omega), (by rw [hT, dist_skip hil hskip]), H, rfl, rfl, rfl, rfl, rfl⟩
     ·have hc30b := hc30
      have hval : validD (l.getD i []) = true := by simpa using hc30b
      refine W.skip ?_
      refine W.seq (W.region ?_)
      iterate 2 refine RW.v ?_
      refine RW.upL H 1 (seenE (seen ++ [(l.getD i [])])) (seen.length + 1) ?_ (hv := upd_seen rfl rfl hnew)
      clear H; intro _ _ H; dsimp only [setL, delL] at H
      refine RW.nil ?_
      refine W.rg [(0, .func (.yield b18) #[] #[]), (3, .map (some b22)), (5, .string ⟨(l.getD i []).toArray⟩), (7, v1), (8, .int .i64 (l.length : Int)), (9, .int .i64 ((i : Nat) : Int))] fun TA => ?_
      refine W.seq (W.region ?_)
      iterate 2 refine RW.v ?_
      refine RW.yieldL H 2 rfl hl20 (by kernel_rfl) (by kernel_rfl) rfl rfl rfl rfl rfl (by kernel_rfl) ?_
      refine W.rg [(2, .pointer (some ⟨b9, 0, none⟩)), (3, .pointer (some ⟨b16, 0, none⟩)), (5, .func (.func 95) #[] #[.pointer (some ⟨b7, 0, none⟩)]), (6, .string ⟨(l.getD i []).toArray⟩)] fun TA => ?_
      refine W.region ?_
      refine RW.v ?_
      refine RW.nil ?_
      refine ⟨rfl, _, _, _, 2, H, rfl, ?_⟩
      clear H; intro _ lq31 hq32 H
      dsimp only [setL, delL] at H
      refine W.rg [(2, .pointer (some ⟨b9, 0, none⟩)), (3, .pointer (some ⟨b16, 0, none⟩)), (4, .string ⟨(l.getD i []).toArray⟩), (5, .func (.func 95) #[] #[.pointer (some ⟨b7, 0, none⟩)]), (6, .string ⟨(l.getD i []).toArray⟩)] fun TA => ?_
      refine W.block ?_
      refine W.seq (W.region ?_)
      refine RW.ld H 8 1 ?_
      refine RW.v ?_
      refine RW.cl ?_
      refine ((cl_part (fold := false) (s := (l.getD i [])) hb7 hb8 hb9 hu al hum (by omega) hwm hwb (hsm _ (mem_of (by omega))) H).mono ?_)
      clear H
      rintro _ _ ⟨rfl, H⟩
      rw [hme]
      refine RW.v ?_
      refine RW.both _ _ rfl rfl rfl (fun hc33 => ?_) (fun hc33 => ?_)
      ·have hc33b := hc33
       refine RW.ldL H 4 1 (by rfl) (by kernel_rfl) rfl rfl rfl rfl rfl (by kernel_rfl) ?_
       refine RW.w ?_
       refine RW.yieldL H 5 rfl hl14 (by rfl) (by kernel_rfl) rfl rfl rfl rfl rfl (by kernel_rfl) ?_
       refine W.rg [(2, .pointer (some ⟨b10, 0, none⟩)), (6, .func (.func 94) #[] #[.pointer (some ⟨b8, 0, none⟩), .pointer (some ⟨b9, 0, none⟩)]), (7, .string ⟨(l.getD i []).toArray⟩)] fun TA => ?_
       refine W.region ?_
       refine RW.v ?_
       refine RW.nil ?_
       refine ⟨rfl, _, _, _, 5, H, rfl, ?_⟩
       clear H; intro _ lq34 hq35 H
       dsimp only [setL, delL] at H
       refine W.rg [(2, .pointer (some ⟨b10, 0, none⟩)), (5, .string ⟨(l.getD i []).toArray⟩), (6, .func (.func 94) #[] #[.pointer (some ⟨b8, 0, none⟩), .pointer (some ⟨b9, 0, none⟩)]), (7, .string ⟨(l.getD i []).toArray⟩)] fun TA => ?_
       refine W.block ?_
       refine W.region ?_
       refine RW.ld H 7 1 ?_
       refine RW.v ?_
       refine RW.mkL H (x := .row ⟨[.string ⟨(l.getD i []).toArray⟩], 9, false⟩) (fm := fun b => .slice (some ⟨b, 0, none⟩) 1 1) (by kernel_rfl) (by kernel_rfl) (by kernel_rfl) (by kernel_rfl) ?_
       clear H; intro _ b36 _ H
       refine RW.appL H 1 0 (n := 1) (e2 := 9) (by kernel_rfl) (by kernel_rfl) rfl rfl rfl rfl rfl rfl rfl rfl (by kernel_rfl) (by kernel_rfl) (by kernel_rfl) (by decide) (by decide) rfl rfl (by omega) (by kernel_rfl) ?_
       clear H; intro _ v37 _ H
       dsimp only [setL, delL] at H
       refine RW.stL H 7 (vs := [v37]) (cs' := [v37]) (by kernel_rfl) (by kernel_rfl) rfl rfl rfl (H.sl 0 rfl).one (gr_all (H.sl 0 rfl)) (by kernel_rfl) (Nat.le_of_ble_eq_true rfl) rfl (by kernel_rfl) ?_
       clear H; intro _ _ H; dsimp only [setL, delL] at H
       refine RW.nil ?_
       refine bQn ?_
       refine ⟨_, _, _, 5, true, .ready, none, H, rfl, rfl, ?_⟩
       clear H; intro _ lr38 _ hr39 H
       dsimp only [setL, delL] at H
       refine RW.w ?_
       refine RW.v ?_
       refine RW.nil ?_
       refine W.c0 ?_
       refine W.skip ?_
       refine bQn ?_
       refine ⟨_, _, _, 2, true, .ready, none, H, rfl, rfl, ?_⟩
       clear H; intro _ lr40 _ hr41 H
       dsimp only [setL, delL] at H
       refine RW.v ?_
       refine RW.nil ?_
       refine W.c0 ?_
       refine W.skip ?_
       refine bQn ?_
       refine W.region ?_
       refine RW.valE (v' := .int .i64 (((i : Nat) : Int) + 1)) (by kernel_rfl) (by kernel_rfl) rfl (congrArg (Value.int .i64) (wrap_in (by omega) (by omega))) (by kernel_rfl) ?_
       refine RW.v ?_
       refine RW.nil ?_
       rw [show lr40 = lp19 from hr41.trans hl20.symm] at H
       rw [show lr38 = lp13 from hr39.trans hl14.symm] at H
       rw [show seen.length + 1 = (seen ++ [(l.getD i [])]).length by rw [List.length_append]; rfl] at H
       rw [acc_snoc (x := (l.getD i []))] at H
       rw [show acc.length + 1 = (acc ++ [(l.getD i [])]).length by rw [List.length_append]; rfl] at H
       exact ⟨rfl, mm - 1, by omega, i + 1, (seen ++ [(l.getD i [])]), (acc ++ [(l.getD i [])]), v37, (by omega), (by rw [List.length_append, List.length_singleton]; omega), (by rw [hT, dist_take hil hnew hval, List.filter_cons_of_pos (p := (fun c => (matchC false (runes c) (runes s)).isSome)) hc33b, List.append_assoc]; rfl), H, rfl, rfl, rfl, rfl, rfl⟩
      ·have hc33b := hc33
       iterate 4 refine RW.s ?_
       refine RW.v ?_
       refine RW.nil ?_
       refine W.c0 ?_
       refine W.skip ?_
       refine bQn ?_
       refine ⟨_, _, _, 2, true, .ready, none, H, rfl, rfl, ?_⟩
       clear H; intro _ lr42 _ hr43 H
       dsimp only [setL, delL] at H
       refine RW.v ?_
       refine RW.nil ?_
       refine W.c0 ?_
       refine W.skip ?_
       refine bQn ?_
       refine W.region ?_
       refine RW.valE (v' := .int .i64 (((i : Nat) : Int) + 1)) (by kernel_rfl) (by kernel_rfl) rfl (congrArg (Value.int .i64) (wrap_in (by omega) (by omega))) (by kernel_rfl) ?_
       refine RW.v ?_
       refine RW.nil ?_
       rw [show lr42 = lp19 from hr43.trans hl20.symm] at H
       rw [show seen.length + 1 = (seen ++ [(l.getD i [])]).length by rw [List.length_append]; rfl] at H
       exact ⟨rfl, mm - 1, by omega, i + 1, (seen ++ [(l.getD i [])]), acc, u, (by omega), (by omega), (by rw [hT, dist_take hil hnew hval, List.filter_cons_of_neg (p := (fun c => (matchC false (runes c) (runes s)).isSome)) (by rw [hc33b]; exact Bool.false_ne_true)]), H, rfl, rfl, rfl, rfl, rfl⟩
   ·have hc23b := hc23
    have hc23 := of_decide_eq_false hc23
    refine W.exit _ ?_
    refine seqQ_exit ?_
    refine rndQ_exit ?_
    have hR : T = acc := by rw [hT, List.drop_eq_nil_of_le (by omega)]; exact List.append_nil _
    refine blkQ_here ?_
    refine endG (by rfl) (by exact rfl) ?_
    refine ⟨_, _, _, 2, _, _, _, _, H, rfl, hl20, rfl, rfl, ?_⟩
    clear H; intro _ H
    dsimp only [setL, delL] at H
    refine bQn ?_
    refine endMark H 2 rfl fun _ H => ?_
    dsimp only [setL, delL] at H
    refine endGD0 (by rfl) (by exact rfl) ?_
    refine ⟨_, _, _, 3, _, _, _, _, H, rfl, hl14, rfl, rfl, ?_⟩
    clear H; intro _ H
    dsimp only [setL, delL] at H
    refine bQn ?_
    refine W.seq (W.region ?_)
    refine RW.ld H 4 1 ?_
    refine RW.v ?_
    refine RW.nil ?_
    replace H := (((H.del 4).del 2).del 1)
    dsimp only [setL, delL] at H
    refine W.ret ?_
    refine endMark H 1 rfl fun _ H => ?_
    dsimp only [setL, delL] at H
    refine endGD0 (by rfl) (by exact resL_tmp rfl) ?_
    refine RW.v ?_
    refine RW.nil ?_
    refine W.ret ?_
    refine endG (by rfl) (by exact resL_tmp rfl) ?_
    refine RW.v ?_
    refine RW.nil ?_
    replace H := (((H.del 3).del 2).del 1)
    dsimp only [setL, delL] at H
    refine W.ret ?_
    refine endG (by rfl) (by exact resL_tmp rfl) ?_
    rw [← hTd, hR]
    obtain ⟨F', le, hv, H⟩ := H.freezeSl 0 rfl
    dsimp only [setL, delL] at H
    exact ⟨F', fun b y h => le b y (le0 b y h), hv, H⟩
end
end Go.Proofs.YtjcmdifpkafdkaaDoor
