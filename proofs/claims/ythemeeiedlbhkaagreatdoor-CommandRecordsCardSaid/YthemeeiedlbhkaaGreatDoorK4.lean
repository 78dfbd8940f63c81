/-
 Both recorders are called alike. Conditions: none.
 Both recorders are in the same state. Conditions: none.
 CommandRecords in the second memory. Conditions: none.
-/
import Derived.Test.YthemeeiedlbhkaaGreatDoorK3
namespace Go.Proofs.YthemeeiedlbhkaaGreatDoor
set_option maxRecDepth 100000
def StP (F : Nat → Option Blk2) (ev mv : Value) (s : RS) : Prop := MacF F mv s.M ∧ (s.E.length = 0 → ev = .slice none 0 0)
def StR (F : Nat → Option Blk2) (mr nv v : Value) (s : RS) : Prop := MacF F mr s.M ∧ NowK F nv v
theorem StP.le {F F' : Nat → Option Blk2} {ev mv : Value} {s : RS} (h : StP F ev mv s) (k : Le F F') : StP F' ev mv s := ⟨h.1.le k, h.2⟩
theorem StR.le {F F' : Nat → Option Blk2} {mr nv v : Value} {s : RS} (h : StR F mr nv v s) (k : Le F F') : StR F' mr nv v s := ⟨h.1.le k, h.2.le k⟩
section
variable {A : Abs} {σ : Mem} {F : Nat → Option Blk2} {L : List Ent} {q r w : Nat} {ev mv mr nv v : Value} {s : RS}
theorem RS.Ok.getD (h : s.Ok) : (s.M.getD 0 []).length ≤ 10000 := by
 rcases Nat.eq_zero_or_pos s.M.length with h0 | h0
 ·rw [List.eq_nil_of_length_eq_zero h0]
  exact Nat.zero_le _
 ·exact (mac_in h.2.2.2.1 h0).2
theorem start_ok {x : Bool} (h : s.Ok) : (start s x).2.Ok := by
 unfold start
 split
 ·exact h
 ·split
  ·exact h
  ·refine ⟨fun e => (by cases e), ?_, h.2.2.1, h.2.2.2.1, h.2.2.2.2⟩
   show (if x = true then s.M.getD 0 [] else []).length ≤ 10000
   split
   ·exact h.getD
   ·exact Nat.zero_le _
theorem record_ok {n : Int} (h : s.Ok) : (record s n).2.Ok := by
 unfold record
 split
 ·exact h
 ·rename_i h1
  split
  ·exact h
  ·refine ⟨fun e => absurd e h1, ?_, h.2.2.1, h.2.2.2.1, h.2.2.2.2⟩
   show (s.E ++ [n]).length ≤ 10000
   have := h.2.1
   rw [List.length_append, List.length_singleton]
   omega
theorem stop_ok {d : Int} (h : s.Ok) : (stop s d).2.Ok := by
 unfold stop
 split
 ·exact h
 ·split
  ·exact h
  ·rename_i h1
   refine ⟨fun _ => rfl, Nat.zero_le _, ?_, ?_, h.2.2.2.2⟩
   ·show (if (s.E.length : Int) - d = 0 then s.M else (s.E.take ((s.E.length : Int) - d).toNat :: s.M).take (min (1 + s.M.length) 20)).length ≤ 20
    split
    ·exact h.2.2.1
    ·rw [List.length_take]
     omega
   ·show ∀ x ∈ (if (s.E.length : Int) - d = 0 then s.M else (s.E.take ((s.E.length : Int) - d).toNat :: s.M).take (min (1 + s.M.length) 20)), 0 < x.length ∧ x.length ≤ 10000
    split
    ·exact h.2.2.2.1
    ·rename_i h2
     intro x hx
     rcases List.mem_cons.1 (List.mem_of_mem_take hx) with rfl | hx
     ·have := h.2.1
      rw [List.length_take]
      omega
     ·exact h.2.2.2.1 x hx
theorem cancel_ok (h : s.Ok) : (cancel s).2.Ok := by
 unfold cancel
 split
 ·exact h
 ·exact ⟨fun _ => rfl, Nat.zero_le _, h.2.2.1, h.2.2.2.1, h.2.2.2.2⟩
theorem drop_ok (h : s.Ok) : (drop s).2.Ok := by
 unfold drop
 split
 ·exact h
 ·refine ⟨h.1, h.2.1, ?_, fun x hx => h.2.2.2.1 x (List.mem_of_mem_drop hx), h.2.2.2.2⟩
  show (s.M.drop 1).length ≤ 20
  have := h.2.2.1
  rw [List.length_drop]
  omega
theorem rotate_ok {n : Int} (h : s.Ok) : (rotate s n).2.Ok := by
 unfold rotate
 split
 ·exact h
 ·rename_i h1
  refine ⟨h.1, h.2.1, ?_, fun x hx => (List.mem_append.1 hx).elim (fun hx => h.2.2.2.1 x (List.mem_of_mem_drop hx)) fun hx => h.2.2.2.1 x (List.mem_of_mem_take hx), h.2.2.2.2⟩
  show (s.M.drop (rotN n s.M.length) ++ s.M.take (rotN n s.M.length)).length ≤ 20
  have := h.2.2.1
  have := rotN_lt n (show 0 < s.M.length by omega)
  rw [List.length_append, List.length_drop, List.length_take]
  omega
theorem count_ok {x : Bool} {n : Int} (h : s.Ok) : (count s x n).2.Ok := by
 obtain ⟨on, E, M, ct⟩ := s
 have h5 := h.2.2.2.2
 dsimp only at h5
 unfold count
 dsimp only
 have hc : -2305843009213693952 ≤ (if x = true then 0 else ct) ∧ (if x = true then 0 else ct) ≤ 2305843009213693951 := by split <;> omega
 generalize (if x = true then 0 else ct) = c at hc ⊢
 split
 ·exact h
 ·refine ⟨h.1, h.2.1, h.2.2.1, h.2.2.2.1, ?_⟩
  dsimp only
  omega
theorem play_ok {n : Int} (h : s.Ok) : (play s n).2.2.Ok := by
 have h5 := h.2.2.2.2
 unfold play
 split
 ·exact h
 ·split
  ·exact h
  ·split
   ·exact h
   ·split
    ·exact h
    ·refine ⟨h.1, h.2.1, h.2.2.1, h.2.2.2.1, ?_⟩
     show _ ≤ min s.ct (2305843009213693951 - n) + n ∧ min s.ct (2305843009213693951 - n) + n ≤ _
     omega
theorem play_len {n : Int} (h : s.Ok) : (play s n).2.1.length ≤ 1000000 := by
 unfold play
 split
 ·exact Nat.zero_le _
 ·split
  ·exact Nat.zero_le _
  ·split
   ·exact Nat.zero_le _
   ·split
    ·exact Nat.zero_le _
    ·rename_i h1 h2
     show (rep n.toNat (s.M.getD 0 [])).length ≤ _
     obtain ⟨k, rfl⟩ : ∃ k : Nat, n = (k : Int) := ⟨n.toNat, by omega⟩
     have e : (k : Int) * ((s.M.getD 0 []).length : Int) = (((s.M.getD 0 []).length * k : Nat) : Int) := by push_cast; exact Int.mul_comm _ _
     rw [e] at h2
     rw [rep_len, Int.toNat_natCast]
     omega
theorem P_start (x : Bool) (ok : s.Ok) (hp : StP F ev mv s) (H : Lies G65 A F σ (PE q r ev mv s ++ L)) : WC G65 Tryz.prog 14 #[.pointer (some ⟨q, 0, none⟩), .bool x] σ fun u σ' => u = .int .i64 (start s x).1 ∧ ∃ F' ev' mv', Le F F' ∧ StP F' ev' mv' (start s x).2 ∧ Lies G65 A F' σ' (PE q r ev' mv' (start s x).2 ++ L) := by
 obtain ⟨on, E, M, ct⟩ := s
 exact (p_start (x := x) (n := 0) (d := 0) ok.2.2.2.1 ok.2.2.1 ok.2.1 hp.1 hp.2 H).mono fun _ _ ⟨h1, F', ev', mv', h2, h3, h4, h5⟩ => ⟨h1, F', ev', mv', h2, ⟨h3, h4⟩, h5⟩
theorem P_record (n : Int) (ok : s.Ok) (hp : StP F ev mv s) (H : Lies G65 A F σ (PE q r ev mv s ++ L)) : WC G65 Tryz.prog 15 #[.pointer (some ⟨q, 0, none⟩), .int .i64 n] σ fun u σ' => u = .int .i64 (record s n).1 ∧ ∃ F' ev' mv', Le F F' ∧ StP F' ev' mv' (record s n).2 ∧ Lies G65 A F' σ' (PE q r ev' mv' (record s n).2 ++ L) := by
 obtain ⟨on, E, M, ct⟩ := s
 exact (p_record (x := true) (n := n) (d := 0) ok.2.2.2.1 ok.2.2.1 ok.2.1 hp.1 hp.2 H).mono fun _ _ ⟨h1, F', ev', mv', h2, h3, h4, h5⟩ => ⟨h1, F', ev', mv', h2, ⟨h3, h4⟩, h5⟩
theorem P_stop (d : Int) (ok : s.Ok) (hp : StP F ev mv s) (H : Lies G65 A F σ (PE q r ev mv s ++ L)) : WC G65 Tryz.prog 16 #[.pointer (some ⟨q, 0, none⟩), .int .i64 d] σ fun u σ' => u = .int .i64 (stop s d).1 ∧ ∃ F' ev' mv', Le F F' ∧ StP F' ev' mv' (stop s d).2 ∧ Lies G65 A F' σ' (PE q r ev' mv' (stop s d).2 ++ L) := by
 obtain ⟨on, E, M, ct⟩ := s
 exact (p_stop (x := true) (n := 0) (d := d) ok.2.2.2.1 ok.2.2.1 ok.2.1 hp.1 hp.2 H).mono fun _ _ ⟨h1, F', ev', mv', h2, h3, h4, h5⟩ => ⟨h1, F', ev', mv', h2, ⟨h3, h4⟩, h5⟩
theorem P_cancel  (ok : s.Ok) (hp : StP F ev mv s) (H : Lies G65 A F σ (PE q r ev mv s ++ L)) : WC G65 Tryz.prog 52 #[.pointer (some ⟨q, 0, none⟩)] σ fun u σ' => u = .int .i64 (cancel s).1 ∧ ∃ F' ev' mv', Le F F' ∧ StP F' ev' mv' (cancel s).2 ∧ Lies G65 A F' σ' (PE q r ev' mv' (cancel s).2 ++ L) := by
 obtain ⟨on, E, M, ct⟩ := s
 exact (p_cancel (x := true) (n := 0) (d := 0) ok.2.2.2.1 ok.2.2.1 ok.2.1 hp.1 hp.2 H).mono fun _ _ ⟨h1, F', ev', mv', h2, h3, h4, h5⟩ => ⟨h1, F', ev', mv', h2, ⟨h3, h4⟩, h5⟩
theorem P_drop  (ok : s.Ok) (hp : StP F ev mv s) (H : Lies G65 A F σ (PE q r ev mv s ++ L)) : WC G65 Tryz.prog 56 #[.pointer (some ⟨q, 0, none⟩)] σ fun u σ' => u = .int .i64 (drop s).1 ∧ ∃ F' ev' mv', Le F F' ∧ StP F' ev' mv' (drop s).2 ∧ Lies G65 A F' σ' (PE q r ev' mv' (drop s).2 ++ L) := by
 obtain ⟨on, E, M, ct⟩ := s
 exact (p_drop (x := true) (n := 0) (d := 0) ok.2.2.2.1 ok.2.2.1 ok.2.1 hp.1 hp.2 H).mono fun _ _ ⟨h1, F', ev', mv', h2, h3, h4, h5⟩ => ⟨h1, F', ev', mv', h2, ⟨h3, h4⟩, h5⟩
theorem P_rotate (n : Int) (ok : s.Ok) (hp : StP F ev mv s) (H : Lies G65 A F σ (PE q r ev mv s ++ L)) : WC G65 Tryz.prog 27 #[.pointer (some ⟨q, 0, none⟩), .int .i64 n] σ fun u σ' => u = .int .i64 (rotate s n).1 ∧ ∃ F' ev' mv', Le F F' ∧ StP F' ev' mv' (rotate s n).2 ∧ Lies G65 A F' σ' (PE q r ev' mv' (rotate s n).2 ++ L) := by
 obtain ⟨on, E, M, ct⟩ := s
 exact (p_rotate (x := true) (n := n) (d := 0) ok.2.2.2.1 ok.2.2.1 ok.2.1 hp.1 hp.2 H).mono fun _ _ ⟨h1, F', ev', mv', h2, h3, h4, h5⟩ => ⟨h1, F', ev', mv', h2, ⟨h3, h4⟩, h5⟩
theorem P_count (x : Bool) {n : Int} (hn1 : -9223372036854775808 ≤ n) (hn2 : n ≤ 9223372036854775807) (ok : s.Ok) (hp : StP F ev mv s) (H : Lies G65 A F σ (PE q r ev mv s ++ L)) : WC G65 Tryz.prog 58 #[.pointer (some ⟨q, 0, none⟩), .bool x, .int .i64 n] σ fun u σ' => u = .int .i64 (count s x n).1 ∧ ∃ F' ev' mv', Le F F' ∧ StP F' ev' mv' (count s x n).2 ∧ Lies G65 A F' σ' (PE q r ev' mv' (count s x n).2 ++ L) := by
 obtain ⟨on, E, M, ct⟩ := s
 exact (p_count (x := x) (n := n) (d := 0) hn1 hn2 ok.2.2.2.2.1 ok.2.2.2.2.2 hp.1 hp.2 H).mono fun _ _ ⟨h1, F', ev', mv', h2, h3, h4, h5⟩ => ⟨h1, F', ev', mv', h2, ⟨h3, h4⟩, h5⟩
theorem R_start (x : Bool) (ok : s.Ok) (hr : StR F mr nv v s) (H : Lies G65 A F σ (RE w mr nv v s ++ L)) : WC G65 Tryz.prog 49 #[.pointer (some ⟨w, 0, none⟩), .bool x] σ fun u σ' => u = .int .i64 (start s x).1 ∧ ∃ F' mr' nv' v', Le F F' ∧ StR F' mr' nv' v' (start s x).2 ∧ Lies G65 A F' σ' (RE w mr' nv' v' (start s x).2 ++ L) := by
 obtain ⟨on, E, M, ct⟩ := s
 exact (r_start (x := x) (n := 0) (d := 0) ok.2.2.2.1 ok.2.2.1 ok.2.1 hr.1 hr.2 H).mono fun _ _ ⟨h1, F', mr', nv', v', h2, h3, h4, h5⟩ => ⟨h1, F', mr', nv', v', h2, ⟨h3, h4⟩, h5⟩
theorem R_record (n : Int) (ok : s.Ok) (hr : StR F mr nv v s) (H : Lies G65 A F σ (RE w mr nv v s ++ L)) : WC G65 Tryz.prog 50 #[.pointer (some ⟨w, 0, none⟩), .int .i64 n] σ fun u σ' => u = .int .i64 (record s n).1 ∧ ∃ F' mr' nv' v', Le F F' ∧ StR F' mr' nv' v' (record s n).2 ∧ Lies G65 A F' σ' (RE w mr' nv' v' (record s n).2 ++ L) := by
 obtain ⟨on, E, M, ct⟩ := s
 exact (r_record (n := n) ok.2.2.2.1 ok.2.2.1 ok.2.1 hr.1 hr.2 H).mono fun _ _ ⟨h1, F', mr', nv', v', h2, h3, h4, h5⟩ => ⟨h1, F', mr', nv', v', h2, ⟨h3, h4⟩, h5⟩
theorem R_stop (d : Int) (ok : s.Ok) (hr : StR F mr nv v s) (H : Lies G65 A F σ (RE w mr nv v s ++ L)) : WC G65 Tryz.prog 51 #[.pointer (some ⟨w, 0, none⟩), .int .i64 d] σ fun u σ' => u = .int .i64 (stop s d).1 ∧ ∃ F' mr' nv' v', Le F F' ∧ StR F' mr' nv' v' (stop s d).2 ∧ Lies G65 A F' σ' (RE w mr' nv' v' (stop s d).2 ++ L) := by
 obtain ⟨on, E, M, ct⟩ := s
 exact (r_stop (x := true) (n := 0) (d := d) ok.2.2.2.1 ok.2.2.1 ok.2.1 hr.1 hr.2 H).mono fun _ _ ⟨h1, F', mr', nv', v', h2, h3, h4, h5⟩ => ⟨h1, F', mr', nv', v', h2, ⟨h3, h4⟩, h5⟩
theorem R_cancel  (ok : s.Ok) (hr : StR F mr nv v s) (H : Lies G65 A F σ (RE w mr nv v s ++ L)) : WC G65 Tryz.prog 53 #[.pointer (some ⟨w, 0, none⟩)] σ fun u σ' => u = .int .i64 (cancel s).1 ∧ ∃ F' mr' nv' v', Le F F' ∧ StR F' mr' nv' v' (cancel s).2 ∧ Lies G65 A F' σ' (RE w mr' nv' v' (cancel s).2 ++ L) := by
 obtain ⟨on, E, M, ct⟩ := s
 exact (r_cancel (x := true) (n := 0) (d := 0) ok.2.2.2.1 ok.2.2.1 ok.2.1 hr.1 hr.2 H).mono fun _ _ ⟨h1, F', mr', nv', v', h2, h3, h4, h5⟩ => ⟨h1, F', mr', nv', v', h2, ⟨h3, h4⟩, h5⟩
theorem R_drop  (ok : s.Ok) (hr : StR F mr nv v s) (H : Lies G65 A F σ (RE w mr nv v s ++ L)) : WC G65 Tryz.prog 57 #[.pointer (some ⟨w, 0, none⟩)] σ fun u σ' => u = .int .i64 (drop s).1 ∧ ∃ F' mr' nv' v', Le F F' ∧ StR F' mr' nv' v' (drop s).2 ∧ Lies G65 A F' σ' (RE w mr' nv' v' (drop s).2 ++ L) := by
 obtain ⟨on, E, M, ct⟩ := s
 exact (r_drop (x := true) (n := 0) (d := 0) ok.2.2.2.1 ok.2.2.1 ok.2.1 hr.1 hr.2 H).mono fun _ _ ⟨h1, F', mr', nv', v', h2, h3, h4, h5⟩ => ⟨h1, F', mr', nv', v', h2, ⟨h3, h4⟩, h5⟩
theorem R_rotate (n : Int) (ok : s.Ok) (hr : StR F mr nv v s) (H : Lies G65 A F σ (RE w mr nv v s ++ L)) : WC G65 Tryz.prog 55 #[.pointer (some ⟨w, 0, none⟩), .int .i64 n] σ fun u σ' => u = .int .i64 (rotate s n).1 ∧ ∃ F' mr' nv' v', Le F F' ∧ StR F' mr' nv' v' (rotate s n).2 ∧ Lies G65 A F' σ' (RE w mr' nv' v' (rotate s n).2 ++ L) := by
 obtain ⟨on, E, M, ct⟩ := s
 exact (r_rotate (x := true) (n := n) (d := 0) ok.2.2.2.1 ok.2.2.1 ok.2.1 hr.1 hr.2 H).mono fun _ _ ⟨h1, F', mr', nv', v', h2, h3, h4, h5⟩ => ⟨h1, F', mr', nv', v', h2, ⟨h3, h4⟩, h5⟩
theorem R_count (x : Bool) {n : Int} (hn1 : -9223372036854775808 ≤ n) (hn2 : n ≤ 9223372036854775807) (ok : s.Ok) (hr : StR F mr nv v s) (H : Lies G65 A F σ (RE w mr nv v s ++ L)) : WC G65 Tryz.prog 59 #[.pointer (some ⟨w, 0, none⟩), .bool x, .int .i64 n] σ fun u σ' => u = .int .i64 (count s x n).1 ∧ ∃ F' mr' nv' v', Le F F' ∧ StR F' mr' nv' v' (count s x n).2 ∧ Lies G65 A F' σ' (RE w mr' nv' v' (count s x n).2 ++ L) := by
 obtain ⟨on, E, M, ct⟩ := s
 exact (r_count (x := x) (n := n) (d := 0) hn1 hn2 ok.2.2.2.2.1 ok.2.2.2.2.2 hr.1 hr.2 H).mono fun _ _ ⟨h1, F', mr', nv', v', h2, h3, h4, h5⟩ => ⟨h1, F', mr', nv', v', h2, ⟨h3, h4⟩, h5⟩
theorem P_play (n : Int) (ok : s.Ok) (hp : StP F ev mv s) (H : Lies G65 A F σ (PE q r ev mv s ++ L)) : WC G65 Tryz.prog 23 #[.pointer (some ⟨q, 0, none⟩), .int .i64 n] σ fun u σ' => ∃ rv, u = .tuple #[rv, .int .i64 (play s n).1] ∧ ∃ F' ev' mv', Le F F' ∧ SlF F' 1 rv (play s n).2.1.length ((play s n).2.1.map (Value.int .i64)) ∧ StP F' ev' mv' (play s n).2.2 ∧ Lies G65 A F' σ' (PE q r ev' mv' (play s n).2.2 ++ L) := by
 obtain ⟨on, E, M, ct⟩ := s
 exact (p_play (x := true) (n := n) (d := 0) ok.2.2.2.2.1 ok.2.2.2.2.2 ok.2.2.2.1 ok.2.2.1 hp.1 hp.2 H).mono fun _ _ ⟨rv, h1, F', ev', mv', h2, h0, h3, h4, h5⟩ => ⟨rv, h1, F', ev', mv', h2, h0, ⟨h3, h4⟩, h5⟩
theorem R_play (n : Int) (ok : s.Ok) (hr : StR F mr nv v s) (H : Lies G65 A F σ (RE w mr nv v s ++ L)) : WC G65 Tryz.prog 54 #[.pointer (some ⟨w, 0, none⟩), .int .i64 n] σ fun u σ' => ∃ rv, u = .tuple #[rv, .int .i64 (play s n).1] ∧ ∃ F' mr' nv' v', Le F F' ∧ SlF F' 1 rv (play s n).2.1.length ((play s n).2.1.map (Value.int .i64)) ∧ StR F' mr' nv' v' (play s n).2.2 ∧ Lies G65 A F' σ' (RE w mr' nv' v' (play s n).2.2 ++ L) := by
 obtain ⟨on, E, M, ct⟩ := s
 exact (r_play (x := true) (n := n) (d := 0) ok.2.2.2.2.1 ok.2.2.2.2.2 ok.2.2.2.1 ok.2.2.1 hr.1 hr.2 H).mono fun _ _ ⟨rv, h1, F', mr', nv', v', h2, h0, h3, h4, h5⟩ => ⟨rv, h1, F', mr', nv', v', h2, h0, ⟨h3, h4⟩, h5⟩
set_option maxHeartbeats 16000000 in
theorem acts_wc {k n : Int} (ok : s.Ok) (hn1 : -9223372036854775808 ≤ n) (hn2 : n ≤ 9223372036854775807) (hk1 : -9223372036854775808 ≤ k) (hk2 : k ≤ 9223372036854775807) (hp : StP F ev mv s) (hr : StR F mr nv v s) (H : Lies G65 A F σ (PE q r ev mv s ++ (RE w mr nv v s ++ L))) : WC G65 Tryz.prog 17 #[.pointer (some ⟨q, 0, none⟩), .pointer (some ⟨w, 0, none⟩), .agg #[.int .i64 k, .int .i64 n]] σ fun u σ' => u = .bool true ∧ ∃ F' s' ev' mv' mr' nv' v', Le F F' ∧ s'.Ok ∧ StP F' ev' mv' s' ∧ StR F' mr' nv' v' s' ∧ Lies G65 A F' σ' (PE q r ev' mv' s' ++ (RE w mr' nv' v' s' ++ L)) := by
 have le0 : Le F F := fun _ _ h => h
 refine WC.enter (fn := Tryz.f17) Tryz.func17 rfl ?_
 refine W.rg [(0, pp q), (1, pp w), (2, .agg #[.int .i64 k, .int .i64 n])] fun TA => ?_
 refine W.seq (W.region ?_)
 refine RW.mk H (.row ⟨[.int .i64 k, .int .i64 n], 30, false⟩) ?_
 clear H; intro _ b1 _ H
 refine RW.v ?_
 refine RW.nil ?_
 refine W.rg [(0, pp q), (1, pp w), (5, pp b1)] fun TA => ?_
 refine W.seq ?_
 refine W.seq (W.region ?_)
 refine RW.v ?_
 refine RW.ld H 0 1 ?_
 refine RW.cl ?_
 refine ⟨_, _, (s_pick (G := G65) (k) 12 (by omega) (by omega) (by decide) (by decide)), ?_⟩
 refine RW.nil ?_
 refine W.rg [(0, pp q), (1, pp w), (5, pp b1), (13, .int .i64 (pickOf k 12))] fun TA => ?_
 refine W.block ?_
 refine W.seq (W.region ?_)
 iterate 2 refine RW.v ?_
 refine RW.nil ?_
 refine W.rg [(0, pp q), (1, pp w), (5, pp b1), (13, .int .i64 (pickOf k 12)), (14, .bool ((pickOf k 12) == 0))] fun TA => ?_
 refine W.cond rfl (fun hc2 => ?_) (fun hc2 => ?_)
 ·have hc2b := hc2
  have hc2 := eq_of_beq hc2
  refine W.seq ?_
  refine W.drawn (by kernel_rfl) (by kernel_rfl) H.gn ?_
  have H3 := H
  iterate 2 refine RW.v ?_
  refine RW.ld H3 0 1 ?_
  have hr4 := tmod_in n (show 0 < 2 by omega)
  refine RW.vop (v := .int .i64 (Int.tmod n 2)) (by kernel_rfl) (by kernel_rfl) (vop_fastBin rfl rfl rfl (rem_fast (by omega))) (by kernel_rfl) ?_
  refine RW.v ?_
  refine RW.cl ?_
  refine ((P_start ((Int.tmod n 2) != 0) ok hp (Lies.rot (B := ([.at_ b1 (.row ⟨[.int .i64 k, .int .i64 n], 30, false⟩)])) (X := PE q r ev mv s) H3)).mono ?_)
  rintro _ _ ⟨rfl, F, ev5, mv6, le, hp, K7⟩
  have H8 : Lies G65 (A) F _ (.at_ b1 (.row ⟨[.int .i64 k, .int .i64 n], 30, false⟩) :: (PE q r ev5 mv6 (start s ((Int.tmod n 2) != 0)).2 ++ (RE w mr nv v s ++ (L)))) := Lies.rot (B := PE q r ev5 mv6 (start s ((Int.tmod n 2) != 0)).2) (X := ([.at_ b1 (.row ⟨[.int .i64 k, .int .i64 n], 30, false⟩)])) K7
  clear K7
  replace le0 := fun b y h => le b y (le0 b y h)
  replace hr := hr.le le
  iterate 2 refine RW.v ?_
  refine RW.ld H8 0 1 ?_
  have hr9 := tmod_in n (show 0 < 2 by omega)
  refine RW.vop (v := .int .i64 (Int.tmod n 2)) (by kernel_rfl) (by kernel_rfl) (vop_fastBin rfl rfl rfl (rem_fast (by omega))) (by kernel_rfl) ?_
  refine RW.v ?_
  refine RW.cl ?_
  refine ((R_start ((Int.tmod n 2) != 0) ok hr (Lies.rot (B := ([.at_ b1 (.row ⟨[.int .i64 k, .int .i64 n], 30, false⟩)] ++ (PE q r ev5 mv6 (start s ((Int.tmod n 2) != 0)).2))) (X := RE w mr nv v s) H8)).mono ?_)
  rintro _ _ ⟨rfl, F, mr10, nv11, vv12, le, hr, K13⟩
  have H14 : Lies G65 (A) F _ (.at_ b1 (.row ⟨[.int .i64 k, .int .i64 n], 30, false⟩) :: (PE q r ev5 mv6 (start s ((Int.tmod n 2) != 0)).2 ++ (RE w mr10 nv11 vv12 (start s ((Int.tmod n 2) != 0)).2 ++ (L)))) := Lies.rot (B := RE w mr10 nv11 vv12 (start s ((Int.tmod n 2) != 0)).2) (X := ([.at_ b1 (.row ⟨[.int .i64 k, .int .i64 n], 30, false⟩)] ++ (PE q r ev5 mv6 (start s ((Int.tmod n 2) != 0)).2))) K13
  clear K13
  replace le0 := fun b y h => le b y (le0 b y h)
  replace hp := hp.le le
  refine RW.valE (v' := .bool true) (by kernel_rfl) (by kernel_rfl) rfl (congrArg Value.bool (beq_iff_eq.2 (by rfl))) (by kernel_rfl) ?_
  refine RW.v ?_
  refine RW.nil ?_
  refine ⟨⟨by kernel_rfl, ⟨trivial, trivial, dyn_row (H3.get 0 rfl) (H14.get 0 rfl) ⟨fun h => Bool.noConfusion h, fun h => Bool.noConfusion h, fun h => Bool.noConfusion h, fun h => Bool.noConfusion h, fun h => Bool.noConfusion h, fun _ => H3.get 0 rfl, fun h => Bool.noConfusion h, fun h => Bool.noConfusion h, fun h => Bool.noConfusion h, fun h => Bool.noConfusion h, fun h => Bool.noConfusion h, fun _ => H8.get 0 rfl, fun h => Bool.noConfusion h, fun h => Bool.noConfusion h, trivial⟩, trivial, trivial, trivial, trivial, trivial, dyn_row (H8.get 0 rfl) (H14.get 0 rfl) ⟨fun h => Bool.noConfusion h, fun h => Bool.noConfusion h, fun h => Bool.noConfusion h, fun h => Bool.noConfusion h, fun h => Bool.noConfusion h, fun _ => H3.get 0 rfl, fun h => Bool.noConfusion h, fun h => Bool.noConfusion h, fun h => Bool.noConfusion h, fun h => Bool.noConfusion h, fun h => Bool.noConfusion h, fun _ => H8.get 0 rfl, fun h => Bool.noConfusion h, fun h => Bool.noConfusion h, trivial⟩, trivial, trivial, trivial, trivial, trivial, trivial⟩⟩, ?_⟩
  replace H := H14
  clear H3 H8 H14
  replace H := (H.del 0)
  dsimp only [setL, delL] at H
  refine W.ret ?_
  refine blkQ_ret ?_
  refine seqQ_ret ?_
  refine endG (by rfl) (by exact resL_tmp rfl) ?_
  exact ⟨rfl, F, (start s ((Int.tmod n 2) != 0)).2, _, _, _, _, _, le0, (start_ok ok), hp, hr, H⟩
 ·have hc2b := hc2
  have hc2 := ne_of_beq_false hc2
  refine W.seq ?_
  refine W.seq (W.region ?_)
  iterate 2 refine RW.v ?_
  refine RW.nil ?_
  refine W.rg [(0, pp q), (1, pp w), (5, pp b1), (13, .int .i64 (pickOf k 12)), (29, .bool ((pickOf k 12) == 1))] fun TA => ?_
  refine W.cond rfl (fun hc15 => ?_) (fun hc15 => ?_)
  ·have hc15b := hc15
   have hc15 := eq_of_beq hc15
   refine W.skip ?_
   refine W.cond (b := true) (congrArg Value.bool hc15b) (fun _ => ?_) (fun h => by cases h)
   refine W.seq ?_
   refine W.drawn (by kernel_rfl) (by kernel_rfl) H.gn ?_
   have H16 := H
   iterate 2 refine RW.v ?_
   refine RW.ld H16 0 1 ?_
   refine RW.cl ?_
   refine ((P_record n ok hp (Lies.rot (B := ([.at_ b1 (.row ⟨[.int .i64 k, .int .i64 n], 30, false⟩)])) (X := PE q r ev mv s) H16)).mono ?_)
   rintro _ _ ⟨rfl, F, ev17, mv18, le, hp, K19⟩
   have H20 : Lies G65 (A) F _ (.at_ b1 (.row ⟨[.int .i64 k, .int .i64 n], 30, false⟩) :: (PE q r ev17 mv18 (record s n).2 ++ (RE w mr nv v s ++ (L)))) := Lies.rot (B := PE q r ev17 mv18 (record s n).2) (X := ([.at_ b1 (.row ⟨[.int .i64 k, .int .i64 n], 30, false⟩)])) K19
   clear K19
   replace le0 := fun b y h => le b y (le0 b y h)
   replace hr := hr.le le
   iterate 2 refine RW.v ?_
   refine RW.ld H20 0 1 ?_
   refine RW.cl ?_
   refine ((R_record n ok hr (Lies.rot (B := ([.at_ b1 (.row ⟨[.int .i64 k, .int .i64 n], 30, false⟩)] ++ (PE q r ev17 mv18 (record s n).2))) (X := RE w mr nv v s) H20)).mono ?_)
   rintro _ _ ⟨rfl, F, mr21, nv22, vv23, le, hr, K24⟩
   have H25 : Lies G65 (A) F _ (.at_ b1 (.row ⟨[.int .i64 k, .int .i64 n], 30, false⟩) :: (PE q r ev17 mv18 (record s n).2 ++ (RE w mr21 nv22 vv23 (record s n).2 ++ (L)))) := Lies.rot (B := RE w mr21 nv22 vv23 (record s n).2) (X := ([.at_ b1 (.row ⟨[.int .i64 k, .int .i64 n], 30, false⟩)] ++ (PE q r ev17 mv18 (record s n).2))) K24
   clear K24
   replace le0 := fun b y h => le b y (le0 b y h)
   replace hp := hp.le le
   refine RW.valE (v' := .bool true) (by kernel_rfl) (by kernel_rfl) rfl (congrArg Value.bool (beq_iff_eq.2 (by rfl))) (by kernel_rfl) ?_
   refine RW.v ?_
   refine RW.nil ?_
   refine ⟨⟨by kernel_rfl, ⟨trivial, trivial, dyn_row (H16.get 0 rfl) (H25.get 0 rfl) ⟨fun h => Bool.noConfusion h, fun h => Bool.noConfusion h, fun h => Bool.noConfusion h, fun _ => H16.get 0 rfl, fun h => Bool.noConfusion h, fun h => Bool.noConfusion h, fun h => Bool.noConfusion h, fun _ => H20.get 0 rfl, fun h => Bool.noConfusion h, fun h => Bool.noConfusion h, trivial⟩, trivial, trivial, trivial, dyn_row (H20.get 0 rfl) (H25.get 0 rfl) ⟨fun h => Bool.noConfusion h, fun h => Bool.noConfusion h, fun h => Bool.noConfusion h, fun _ => H16.get 0 rfl, fun h => Bool.noConfusion h, fun h => Bool.noConfusion h, fun h => Bool.noConfusion h, fun _ => H20.get 0 rfl, fun h => Bool.noConfusion h, fun h => Bool.noConfusion h, trivial⟩, trivial, trivial, trivial, trivial⟩⟩, ?_⟩
   replace H := H25
   clear H16 H20 H25
   replace H := (H.del 0)
   dsimp only [setL, delL] at H
   refine W.ret ?_
   refine blkQ_ret ?_
   refine seqQ_ret ?_
   refine endG (by rfl) (by exact resL_tmp rfl) ?_
   exact ⟨rfl, F, (record s n).2, _, _, _, _, _, le0, (record_ok ok), hp, hr, H⟩
  ·have hc15b := hc15
   have hc15 := ne_of_beq_false hc15
   refine W.seq (W.region ?_)
   iterate 2 refine RW.v ?_
   refine RW.nil ?_
   refine W.rg [(0, pp q), (1, pp w), (5, pp b1), (13, .int .i64 (pickOf k 12)), (29, .bool ((pickOf k 12) == 2))] fun TA => ?_
   refine W.cond rfl (fun hc26 => ?_) (fun hc26 => ?_)
   ·have hc26b := hc26
    have hc26 := eq_of_beq hc26
    refine W.skip ?_
    refine W.cond (b := true) (congrArg Value.bool hc26b) (fun _ => ?_) (fun h => by cases h)
    refine W.seq ?_
    refine W.drawn (by kernel_rfl) (by kernel_rfl) H.gn ?_
    have H27 := H
    iterate 2 refine RW.v ?_
    refine RW.ld H27 0 1 ?_
    refine RW.cl ?_
    refine ((P_record n ok hp (Lies.rot (B := ([.at_ b1 (.row ⟨[.int .i64 k, .int .i64 n], 30, false⟩)])) (X := PE q r ev mv s) H27)).mono ?_)
    rintro _ _ ⟨rfl, F, ev28, mv29, le, hp, K30⟩
    have H31 : Lies G65 (A) F _ (.at_ b1 (.row ⟨[.int .i64 k, .int .i64 n], 30, false⟩) :: (PE q r ev28 mv29 (record s n).2 ++ (RE w mr nv v s ++ (L)))) := Lies.rot (B := PE q r ev28 mv29 (record s n).2) (X := ([.at_ b1 (.row ⟨[.int .i64 k, .int .i64 n], 30, false⟩)])) K30
    clear K30
    replace le0 := fun b y h => le b y (le0 b y h)
    replace hr := hr.le le
    iterate 2 refine RW.v ?_
    refine RW.ld H31 0 1 ?_
    refine RW.cl ?_
    refine ((R_record n ok hr (Lies.rot (B := ([.at_ b1 (.row ⟨[.int .i64 k, .int .i64 n], 30, false⟩)] ++ (PE q r ev28 mv29 (record s n).2))) (X := RE w mr nv v s) H31)).mono ?_)
    rintro _ _ ⟨rfl, F, mr32, nv33, vv34, le, hr, K35⟩
    have H36 : Lies G65 (A) F _ (.at_ b1 (.row ⟨[.int .i64 k, .int .i64 n], 30, false⟩) :: (PE q r ev28 mv29 (record s n).2 ++ (RE w mr32 nv33 vv34 (record s n).2 ++ (L)))) := Lies.rot (B := RE w mr32 nv33 vv34 (record s n).2) (X := ([.at_ b1 (.row ⟨[.int .i64 k, .int .i64 n], 30, false⟩)] ++ (PE q r ev28 mv29 (record s n).2))) K35
    clear K35
    replace le0 := fun b y h => le b y (le0 b y h)
    replace hp := hp.le le
    refine RW.valE (v' := .bool true) (by kernel_rfl) (by kernel_rfl) rfl (congrArg Value.bool (beq_iff_eq.2 (by rfl))) (by kernel_rfl) ?_
    refine RW.v ?_
    refine RW.nil ?_
    refine ⟨⟨by kernel_rfl, ⟨trivial, trivial, dyn_row (H27.get 0 rfl) (H36.get 0 rfl) ⟨fun h => Bool.noConfusion h, fun h => Bool.noConfusion h, fun h => Bool.noConfusion h, fun _ => H27.get 0 rfl, fun h => Bool.noConfusion h, fun h => Bool.noConfusion h, fun h => Bool.noConfusion h, fun _ => H31.get 0 rfl, fun h => Bool.noConfusion h, fun h => Bool.noConfusion h, trivial⟩, trivial, trivial, trivial, dyn_row (H31.get 0 rfl) (H36.get 0 rfl) ⟨fun h => Bool.noConfusion h, fun h => Bool.noConfusion h, fun h => Bool.noConfusion h, fun _ => H27.get 0 rfl, fun h => Bool.noConfusion h, fun h => Bool.noConfusion h, fun h => Bool.noConfusion h, fun _ => H31.get 0 rfl, fun h => Bool.noConfusion h, fun h => Bool.noConfusion h, trivial⟩, trivial, trivial, trivial, trivial⟩⟩, ?_⟩
    replace H := H36
    clear H27 H31 H36
    replace H := (H.del 0)
    dsimp only [setL, delL] at H
    refine W.ret ?_
    refine blkQ_ret ?_
    refine seqQ_ret ?_
    refine endG (by rfl) (by exact resL_tmp rfl) ?_
    exact ⟨rfl, F, (record s n).2, _, _, _, _, _, le0, (record_ok ok), hp, hr, H⟩
   ·have hc26b := hc26
    have hc26 := ne_of_beq_false hc26
    refine W.seq (W.region ?_)
    iterate 2 refine RW.v ?_
    refine RW.nil ?_
    refine W.rg [(0, pp q), (1, pp w), (5, pp b1), (13, .int .i64 (pickOf k 12)), (29, .bool ((pickOf k 12) == 3))] fun TA => ?_
    refine W.cond rfl (fun hc37 => ?_) (fun hc37 => ?_)
    ·have hc37b := hc37
     have hc37 := eq_of_beq hc37
     refine W.skip ?_
     refine W.cond (b := true) (congrArg Value.bool hc37b) (fun _ => ?_) (fun h => by cases h)
     refine W.seq ?_
     refine W.drawn (by kernel_rfl) (by kernel_rfl) H.gn ?_
     have H38 := H
     iterate 2 refine RW.v ?_
     refine RW.ld H38 0 1 ?_
     refine RW.cl ?_
     refine ((P_record n ok hp (Lies.rot (B := ([.at_ b1 (.row ⟨[.int .i64 k, .int .i64 n], 30, false⟩)])) (X := PE q r ev mv s) H38)).mono ?_)
     rintro _ _ ⟨rfl, F, ev39, mv40, le, hp, K41⟩
     have H42 : Lies G65 (A) F _ (.at_ b1 (.row ⟨[.int .i64 k, .int .i64 n], 30, false⟩) :: (PE q r ev39 mv40 (record s n).2 ++ (RE w mr nv v s ++ (L)))) := Lies.rot (B := PE q r ev39 mv40 (record s n).2) (X := ([.at_ b1 (.row ⟨[.int .i64 k, .int .i64 n], 30, false⟩)])) K41
     clear K41
     replace le0 := fun b y h => le b y (le0 b y h)
     replace hr := hr.le le
     iterate 2 refine RW.v ?_
     refine RW.ld H42 0 1 ?_
     refine RW.cl ?_
     refine ((R_record n ok hr (Lies.rot (B := ([.at_ b1 (.row ⟨[.int .i64 k, .int .i64 n], 30, false⟩)] ++ (PE q r ev39 mv40 (record s n).2))) (X := RE w mr nv v s) H42)).mono ?_)
     rintro _ _ ⟨rfl, F, mr43, nv44, vv45, le, hr, K46⟩
     have H47 : Lies G65 (A) F _ (.at_ b1 (.row ⟨[.int .i64 k, .int .i64 n], 30, false⟩) :: (PE q r ev39 mv40 (record s n).2 ++ (RE w mr43 nv44 vv45 (record s n).2 ++ (L)))) := Lies.rot (B := RE w mr43 nv44 vv45 (record s n).2) (X := ([.at_ b1 (.row ⟨[.int .i64 k, .int .i64 n], 30, false⟩)] ++ (PE q r ev39 mv40 (record s n).2))) K46
     clear K46
     replace le0 := fun b y h => le b y (le0 b y h)
     replace hp := hp.le le
     refine RW.valE (v' := .bool true) (by kernel_rfl) (by kernel_rfl) rfl (congrArg Value.bool (beq_iff_eq.2 (by rfl))) (by kernel_rfl) ?_
     refine RW.v ?_
     refine RW.nil ?_
     refine ⟨⟨by kernel_rfl, ⟨trivial, trivial, dyn_row (H38.get 0 rfl) (H47.get 0 rfl) ⟨fun h => Bool.noConfusion h, fun h => Bool.noConfusion h, fun h => Bool.noConfusion h, fun _ => H38.get 0 rfl, fun h => Bool.noConfusion h, fun h => Bool.noConfusion h, fun h => Bool.noConfusion h, fun _ => H42.get 0 rfl, fun h => Bool.noConfusion h, fun h => Bool.noConfusion h, trivial⟩, trivial, trivial, trivial, dyn_row (H42.get 0 rfl) (H47.get 0 rfl) ⟨fun h => Bool.noConfusion h, fun h => Bool.noConfusion h, fun h => Bool.noConfusion h, fun _ => H38.get 0 rfl, fun h => Bool.noConfusion h, fun h => Bool.noConfusion h, fun h => Bool.noConfusion h, fun _ => H42.get 0 rfl, fun h => Bool.noConfusion h, fun h => Bool.noConfusion h, trivial⟩, trivial, trivial, trivial, trivial⟩⟩, ?_⟩
     replace H := H47
     clear H38 H42 H47
     replace H := (H.del 0)
     dsimp only [setL, delL] at H
     refine W.ret ?_
     refine blkQ_ret ?_
     refine seqQ_ret ?_
     refine endG (by rfl) (by exact resL_tmp rfl) ?_
     exact ⟨rfl, F, (record s n).2, _, _, _, _, _, le0, (record_ok ok), hp, hr, H⟩
    ·have hc37b := hc37
     have hc37 := ne_of_beq_false hc37
     refine W.region ?_
     iterate 2 refine RW.v ?_
     refine RW.nil ?_
     refine W.rg [(0, pp q), (1, pp w), (5, pp b1), (13, .int .i64 (pickOf k 12)), (29, .bool ((pickOf k 12) == 4))] fun TA => ?_
     refine W.cond rfl (fun hc48 => ?_) (fun hc48 => ?_)
     ·have hc48b := hc48
      have hc48 := eq_of_beq hc48
      refine W.seq ?_
      refine W.drawn (by kernel_rfl) (by kernel_rfl) H.gn ?_
      have H49 := H
      iterate 2 refine RW.v ?_
      refine RW.ld H49 0 1 ?_
      refine RW.cl ?_
      refine ((P_record n ok hp (Lies.rot (B := ([.at_ b1 (.row ⟨[.int .i64 k, .int .i64 n], 30, false⟩)])) (X := PE q r ev mv s) H49)).mono ?_)
      rintro _ _ ⟨rfl, F, ev50, mv51, le, hp, K52⟩
      have H53 : Lies G65 (A) F _ (.at_ b1 (.row ⟨[.int .i64 k, .int .i64 n], 30, false⟩) :: (PE q r ev50 mv51 (record s n).2 ++ (RE w mr nv v s ++ (L)))) := Lies.rot (B := PE q r ev50 mv51 (record s n).2) (X := ([.at_ b1 (.row ⟨[.int .i64 k, .int .i64 n], 30, false⟩)])) K52
      clear K52
      replace le0 := fun b y h => le b y (le0 b y h)
      replace hr := hr.le le
      iterate 2 refine RW.v ?_
      refine RW.ld H53 0 1 ?_
      refine RW.cl ?_
      refine ((R_record n ok hr (Lies.rot (B := ([.at_ b1 (.row ⟨[.int .i64 k, .int .i64 n], 30, false⟩)] ++ (PE q r ev50 mv51 (record s n).2))) (X := RE w mr nv v s) H53)).mono ?_)
      rintro _ _ ⟨rfl, F, mr54, nv55, vv56, le, hr, K57⟩
      have H58 : Lies G65 (A) F _ (.at_ b1 (.row ⟨[.int .i64 k, .int .i64 n], 30, false⟩) :: (PE q r ev50 mv51 (record s n).2 ++ (RE w mr54 nv55 vv56 (record s n).2 ++ (L)))) := Lies.rot (B := RE w mr54 nv55 vv56 (record s n).2) (X := ([.at_ b1 (.row ⟨[.int .i64 k, .int .i64 n], 30, false⟩)] ++ (PE q r ev50 mv51 (record s n).2))) K57
      clear K57
      replace le0 := fun b y h => le b y (le0 b y h)
      replace hp := hp.le le
      refine RW.valE (v' := .bool true) (by kernel_rfl) (by kernel_rfl) rfl (congrArg Value.bool (beq_iff_eq.2 (by rfl))) (by kernel_rfl) ?_
      refine RW.v ?_
      refine RW.nil ?_
      refine ⟨⟨by kernel_rfl, ⟨trivial, trivial, dyn_row (H49.get 0 rfl) (H58.get 0 rfl) ⟨fun h => Bool.noConfusion h, fun h => Bool.noConfusion h, fun h => Bool.noConfusion h, fun _ => H49.get 0 rfl, fun h => Bool.noConfusion h, fun h => Bool.noConfusion h, fun h => Bool.noConfusion h, fun _ => H53.get 0 rfl, fun h => Bool.noConfusion h, fun h => Bool.noConfusion h, trivial⟩, trivial, trivial, trivial, dyn_row (H53.get 0 rfl) (H58.get 0 rfl) ⟨fun h => Bool.noConfusion h, fun h => Bool.noConfusion h, fun h => Bool.noConfusion h, fun _ => H49.get 0 rfl, fun h => Bool.noConfusion h, fun h => Bool.noConfusion h, fun h => Bool.noConfusion h, fun _ => H53.get 0 rfl, fun h => Bool.noConfusion h, fun h => Bool.noConfusion h, trivial⟩, trivial, trivial, trivial, trivial⟩⟩, ?_⟩
      replace H := H58
      clear H49 H53 H58
      replace H := (H.del 0)
      dsimp only [setL, delL] at H
      refine W.ret ?_
      refine blkQ_ret ?_
      refine seqQ_ret ?_
      refine endG (by rfl) (by exact resL_tmp rfl) ?_
      exact ⟨rfl, F, (record s n).2, _, _, _, _, _, le0, (record_ok ok), hp, hr, H⟩
     ·have hc48b := hc48
      have hc48 := ne_of_beq_false hc48
      refine W.seq (W.region ?_)
      iterate 2 refine RW.v ?_
      refine RW.nil ?_
      refine W.rg [(0, pp q), (1, pp w), (5, pp b1), (13, .int .i64 (pickOf k 12)), (43, .bool ((pickOf k 12) == 5))] fun TA => ?_
      refine W.cond rfl (fun hc59 => ?_) (fun hc59 => ?_)
      ·have hc59b := hc59
       have hc59 := eq_of_beq hc59
       refine W.seq ?_
       refine W.drawn (by kernel_rfl) (by kernel_rfl) H.gn ?_
       have H60 := H
       iterate 2 refine RW.v ?_
       refine RW.ld H60 0 1 ?_
       refine RW.cl ?_
       refine ((P_stop n ok hp (Lies.rot (B := ([.at_ b1 (.row ⟨[.int .i64 k, .int .i64 n], 30, false⟩)])) (X := PE q r ev mv s) H60)).mono ?_)
       rintro _ _ ⟨rfl, F, ev61, mv62, le, hp, K63⟩
       have H64 : Lies G65 (A) F _ (.at_ b1 (.row ⟨[.int .i64 k, .int .i64 n], 30, false⟩) :: (PE q r ev61 mv62 (stop s n).2 ++ (RE w mr nv v s ++ (L)))) := Lies.rot (B := PE q r ev61 mv62 (stop s n).2) (X := ([.at_ b1 (.row ⟨[.int .i64 k, .int .i64 n], 30, false⟩)])) K63
       clear K63
       replace le0 := fun b y h => le b y (le0 b y h)
       replace hr := hr.le le
       iterate 2 refine RW.v ?_
       refine RW.ld H64 0 1 ?_
       refine RW.cl ?_
       refine ((R_stop n ok hr (Lies.rot (B := ([.at_ b1 (.row ⟨[.int .i64 k, .int .i64 n], 30, false⟩)] ++ (PE q r ev61 mv62 (stop s n).2))) (X := RE w mr nv v s) H64)).mono ?_)
       rintro _ _ ⟨rfl, F, mr65, nv66, vv67, le, hr, K68⟩
       have H69 : Lies G65 (A) F _ (.at_ b1 (.row ⟨[.int .i64 k, .int .i64 n], 30, false⟩) :: (PE q r ev61 mv62 (stop s n).2 ++ (RE w mr65 nv66 vv67 (stop s n).2 ++ (L)))) := Lies.rot (B := RE w mr65 nv66 vv67 (stop s n).2) (X := ([.at_ b1 (.row ⟨[.int .i64 k, .int .i64 n], 30, false⟩)] ++ (PE q r ev61 mv62 (stop s n).2))) K68
       clear K68
       replace le0 := fun b y h => le b y (le0 b y h)
       replace hp := hp.le le
       refine RW.valE (v' := .bool true) (by kernel_rfl) (by kernel_rfl) rfl (congrArg Value.bool (beq_iff_eq.2 (by rfl))) (by kernel_rfl) ?_
       refine RW.v ?_
       refine RW.nil ?_
       refine ⟨⟨by kernel_rfl, ⟨trivial, trivial, dyn_row (H60.get 0 rfl) (H69.get 0 rfl) ⟨fun h => Bool.noConfusion h, fun h => Bool.noConfusion h, fun h => Bool.noConfusion h, fun _ => H60.get 0 rfl, fun h => Bool.noConfusion h, fun h => Bool.noConfusion h, fun h => Bool.noConfusion h, fun _ => H64.get 0 rfl, fun h => Bool.noConfusion h, fun h => Bool.noConfusion h, trivial⟩, trivial, trivial, trivial, dyn_row (H64.get 0 rfl) (H69.get 0 rfl) ⟨fun h => Bool.noConfusion h, fun h => Bool.noConfusion h, fun h => Bool.noConfusion h, fun _ => H60.get 0 rfl, fun h => Bool.noConfusion h, fun h => Bool.noConfusion h, fun h => Bool.noConfusion h, fun _ => H64.get 0 rfl, fun h => Bool.noConfusion h, fun h => Bool.noConfusion h, trivial⟩, trivial, trivial, trivial, trivial⟩⟩, ?_⟩
       replace H := H69
       clear H60 H64 H69
       replace H := (H.del 0)
       dsimp only [setL, delL] at H
       refine W.ret ?_
       refine blkQ_ret ?_
       refine seqQ_ret ?_
       refine endG (by rfl) (by exact resL_tmp rfl) ?_
       exact ⟨rfl, F, (stop s n).2, _, _, _, _, _, le0, (stop_ok ok), hp, hr, H⟩
      ·have hc59b := hc59
       have hc59 := ne_of_beq_false hc59
       refine W.seq (W.region ?_)
       iterate 2 refine RW.v ?_
       refine RW.nil ?_
       refine W.rg [(0, pp q), (1, pp w), (5, pp b1), (13, .int .i64 (pickOf k 12)), (54, .bool ((pickOf k 12) == 6))] fun TA => ?_
       refine W.cond rfl (fun hc70 => ?_) (fun hc70 => ?_)
       ·have hc70b := hc70
        have hc70 := eq_of_beq hc70
        refine W.seq (W.region ?_)
        refine RW.v ?_
        refine RW.cl ?_
        refine ((P_cancel  ok hp (Lies.rot (B := ([.at_ b1 (.row ⟨[.int .i64 k, .int .i64 n], 30, false⟩)])) (X := PE q r ev mv s) H)).mono ?_)
        rintro _ _ ⟨rfl, F, ev71, mv72, le, hp, K73⟩
        clear H
        have H : Lies G65 (A) F _ (.at_ b1 (.row ⟨[.int .i64 k, .int .i64 n], 30, false⟩) :: (PE q r ev71 mv72 (cancel s).2 ++ (RE w mr nv v s ++ (L)))) := Lies.rot (B := PE q r ev71 mv72 (cancel s).2) (X := ([.at_ b1 (.row ⟨[.int .i64 k, .int .i64 n], 30, false⟩)])) K73
        clear K73
        replace le0 := fun b y h => le b y (le0 b y h)
        replace hr := hr.le le
        refine RW.v ?_
        refine RW.cl ?_
        refine ((R_cancel  ok hr (Lies.rot (B := ([.at_ b1 (.row ⟨[.int .i64 k, .int .i64 n], 30, false⟩)] ++ (PE q r ev71 mv72 (cancel s).2))) (X := RE w mr nv v s) H)).mono ?_)
        rintro _ _ ⟨rfl, F, mr74, nv75, vv76, le, hr, K77⟩
        clear H
        have H : Lies G65 (A) F _ (.at_ b1 (.row ⟨[.int .i64 k, .int .i64 n], 30, false⟩) :: (PE q r ev71 mv72 (cancel s).2 ++ (RE w mr74 nv75 vv76 (cancel s).2 ++ (L)))) := Lies.rot (B := RE w mr74 nv75 vv76 (cancel s).2) (X := ([.at_ b1 (.row ⟨[.int .i64 k, .int .i64 n], 30, false⟩)] ++ (PE q r ev71 mv72 (cancel s).2))) K77
        clear K77
        replace le0 := fun b y h => le b y (le0 b y h)
        replace hp := hp.le le
        refine RW.valE (v' := .bool true) (by kernel_rfl) (by kernel_rfl) rfl (congrArg Value.bool (beq_iff_eq.2 (by rfl))) (by kernel_rfl) ?_
        refine RW.v ?_
        refine RW.nil ?_
        replace H := (H.del 0)
        dsimp only [setL, delL] at H
        refine W.ret ?_
        refine blkQ_ret ?_
        refine seqQ_ret ?_
        refine endG (by rfl) (by exact resL_tmp rfl) ?_
        exact ⟨rfl, F, (cancel s).2, _, _, _, _, _, le0, (cancel_ok ok), hp, hr, H⟩
       ·have hc70b := hc70
        have hc70 := ne_of_beq_false hc70
        refine W.seq (W.region ?_)
        iterate 2 refine RW.v ?_
        refine RW.nil ?_
        refine W.rg [(0, pp q), (1, pp w), (5, pp b1), (13, .int .i64 (pickOf k 12)), (61, .bool ((pickOf k 12) == 7))] fun TA => ?_
        refine W.cond rfl (fun hc78 => ?_) (fun hc78 => ?_)
        ·have hc78b := hc78
         have hc78 := eq_of_beq hc78
         refine W.seq ?_
         refine W.seq (W.region ?_)
         refine RW.v ?_
         refine RW.ld H 0 1 ?_
         iterate 2 refine RW.v ?_
         refine RW.both _ _ rfl rfl rfl (fun hc79 => ?_) (fun hc79 => ?_)
         ·have hc79b := hc79
          have hc79 := of_decide_eq_true hc79
          refine RW.val (by rfl) (by kernel_rfl) rfl (by kernel_rfl) ?_
          refine RW.ldL H 0 1 (by rfl) (by kernel_rfl) rfl rfl rfl rfl rfl (by kernel_rfl) ?_
          refine RW.val (by rfl) (by kernel_rfl) rfl (by kernel_rfl) ?_
          refine RW.v ?_
          refine RW.nil ?_
          refine W.rg [(0, pp q), (1, pp w), (5, pp b1), (70, .bool (decide (n < 1048576)))] fun TA => ?_
          refine W.cond rfl (fun hc80 => ?_) (fun hc80 => ?_)
          ·have hc80b := hc80
           have hc80 := of_decide_eq_true hc80
           refine W.seq (W.region ?_)
           refine RW.v ?_
           refine RW.nil ?_
           replace H := (H.del 0)
           dsimp only [setL, delL] at H
           refine W.ret ?_
           refine seqQ_ret ?_
           refine blkQ_ret ?_
           refine seqQ_ret ?_
           refine endG (by rfl) (by exact resL_tmp rfl) ?_
           exact ⟨rfl, F, s, _, _, _, _, _, le0, ok, hp, hr, H⟩
          ·have hc80b := hc80
           have hc80 := of_decide_eq_false hc80
           refine W.skip ?_
           refine W.seq (W.region ?_)
           iterate 2 refine RW.v ?_
           refine RW.ld H 0 1 ?_
           refine RW.cl ?_
           refine ((P_play n ok hp (Lies.rot (B := ([.at_ b1 (.row ⟨[.int .i64 k, .int .i64 n], 30, false⟩)])) (X := PE q r ev mv s) H)).mono ?_)
           rintro _ _ ⟨rv81, rfl, F, ev83, mv84, le, hrv82, hp, K85⟩
           clear H
           have H : Lies G65 (A) F _ (.at_ b1 (.row ⟨[.int .i64 k, .int .i64 n], 30, false⟩) :: (PE q r ev83 mv84 (play s n).2.2 ++ (RE w mr nv v s ++ (L)))) := Lies.rot (B := PE q r ev83 mv84 (play s n).2.2) (X := ([.at_ b1 (.row ⟨[.int .i64 k, .int .i64 n], 30, false⟩)])) K85
           clear K85
           replace le0 := fun b y h => le b y (le0 b y h)
           replace hr := hr.le le
           iterate 5 refine RW.v ?_
           refine RW.nil ?_
           refine W.rg [(1, pp w), (5, pp b1), (7, rv81), (8, .int .i64 ((play s n).1))] fun TA => ?_
           refine W.seq (W.region ?_)
           iterate 2 refine RW.v ?_
           refine RW.ld H 0 1 ?_
           refine RW.cl ?_
           refine ((R_play n ok hr (Lies.rot (B := ([.at_ b1 (.row ⟨[.int .i64 k, .int .i64 n], 30, false⟩)] ++ (PE q r ev83 mv84 (play s n).2.2))) (X := RE w mr nv v s) H)).mono ?_)
           rintro _ _ ⟨rv86, rfl, F, mr88, nv89, vv90, le, hrv87, hr, K91⟩
           clear H
           have H : Lies G65 (A) F _ (.at_ b1 (.row ⟨[.int .i64 k, .int .i64 n], 30, false⟩) :: (PE q r ev83 mv84 (play s n).2.2 ++ (RE w mr88 nv89 vv90 (play s n).2.2 ++ (L)))) := Lies.rot (B := RE w mr88 nv89 vv90 (play s n).2.2) (X := ([.at_ b1 (.row ⟨[.int .i64 k, .int .i64 n], 30, false⟩)] ++ (PE q r ev83 mv84 (play s n).2.2))) K91
           clear K91
           replace le0 := fun b y h => le b y (le0 b y h)
           replace hp := hp.le le
           replace hrv82 := hrv82.le le
           iterate 5 refine RW.v ?_
           refine RW.nil ?_
           replace H := (H.del 0)
           dsimp only [setL, delL] at H
           refine W.rg [(7, rv81), (8, .int .i64 ((play s n).1)), (9, rv86), (10, .int .i64 ((play s n).1))] fun TA => ?_
           refine W.seq (W.region ?_)
           iterate 2 refine RW.v ?_
           refine RW.cl ?_
           refine ((same_int (l := (play s n).2.1) hrv82 hrv87 (play_len ok) H).mono ?_)
           clear H
           rintro _ _ ⟨rfl, H⟩
           refine RW.v ?_
           refine RW.val (by rfl) (by kernel_rfl) rfl (by kernel_rfl) ?_
           refine RW.val (by rfl) (by kernel_rfl) rfl (by kernel_rfl) ?_
           refine RW.valE (v' := .bool true) (by rfl) (by kernel_rfl) rfl (congrArg Value.bool (beq_iff_eq.2 (by rfl))) (by kernel_rfl) ?_
           iterate 2 refine RW.v ?_
           refine RW.nil ?_
           refine W.ret ?_
           refine blkQ_ret ?_
           refine seqQ_ret ?_
           refine endG (by rfl) (by exact resL_tmp rfl) ?_
           exact ⟨rfl, F, (play s n).2.2, _, _, _, _, _, le0, (play_ok ok), hp, hr, H⟩
         ·have hc79b := hc79
          have hc79 := of_decide_eq_false hc79
          refine RW.skip (by rfl) (by kernel_rfl) ?_
          refine RW.skip (by rfl) (by kernel_rfl) ?_
          refine RW.skip (by rfl) (by kernel_rfl) ?_
          refine RW.v ?_
          refine RW.nil ?_
          refine W.c0 ?_
          refine W.skip ?_
          refine W.seq (W.region ?_)
          iterate 2 refine RW.v ?_
          refine RW.ld H 0 1 ?_
          refine RW.cl ?_
          refine ((P_play n ok hp (Lies.rot (B := ([.at_ b1 (.row ⟨[.int .i64 k, .int .i64 n], 30, false⟩)])) (X := PE q r ev mv s) H)).mono ?_)
          rintro _ _ ⟨rv93, rfl, F, ev95, mv96, le, hrv94, hp, K97⟩
          clear H
          have H : Lies G65 (A) F _ (.at_ b1 (.row ⟨[.int .i64 k, .int .i64 n], 30, false⟩) :: (PE q r ev95 mv96 (play s n).2.2 ++ (RE w mr nv v s ++ (L)))) := Lies.rot (B := PE q r ev95 mv96 (play s n).2.2) (X := ([.at_ b1 (.row ⟨[.int .i64 k, .int .i64 n], 30, false⟩)])) K97
          clear K97
          replace le0 := fun b y h => le b y (le0 b y h)
          replace hr := hr.le le
          iterate 5 refine RW.v ?_
          refine RW.nil ?_
          refine W.rg [(1, pp w), (5, pp b1), (7, rv93), (8, .int .i64 ((play s n).1))] fun TA => ?_
          refine W.seq (W.region ?_)
          iterate 2 refine RW.v ?_
          refine RW.ld H 0 1 ?_
          refine RW.cl ?_
          refine ((R_play n ok hr (Lies.rot (B := ([.at_ b1 (.row ⟨[.int .i64 k, .int .i64 n], 30, false⟩)] ++ (PE q r ev95 mv96 (play s n).2.2))) (X := RE w mr nv v s) H)).mono ?_)
          rintro _ _ ⟨rv98, rfl, F, mr100, nv101, vv102, le, hrv99, hr, K103⟩
          clear H
          have H : Lies G65 (A) F _ (.at_ b1 (.row ⟨[.int .i64 k, .int .i64 n], 30, false⟩) :: (PE q r ev95 mv96 (play s n).2.2 ++ (RE w mr100 nv101 vv102 (play s n).2.2 ++ (L)))) := Lies.rot (B := RE w mr100 nv101 vv102 (play s n).2.2) (X := ([.at_ b1 (.row ⟨[.int .i64 k, .int .i64 n], 30, false⟩)] ++ (PE q r ev95 mv96 (play s n).2.2))) K103
          clear K103
          replace le0 := fun b y h => le b y (le0 b y h)
          replace hp := hp.le le
          replace hrv94 := hrv94.le le
          iterate 5 refine RW.v ?_
          refine RW.nil ?_
          replace H := (H.del 0)
          dsimp only [setL, delL] at H
          refine W.rg [(7, rv93), (8, .int .i64 ((play s n).1)), (9, rv98), (10, .int .i64 ((play s n).1))] fun TA => ?_
          refine W.seq (W.region ?_)
          iterate 2 refine RW.v ?_
          refine RW.cl ?_
          refine ((same_int (l := (play s n).2.1) hrv94 hrv99 (play_len ok) H).mono ?_)
          clear H
          rintro _ _ ⟨rfl, H⟩
          refine RW.v ?_
          refine RW.val (by rfl) (by kernel_rfl) rfl (by kernel_rfl) ?_
          refine RW.val (by rfl) (by kernel_rfl) rfl (by kernel_rfl) ?_
          refine RW.valE (v' := .bool true) (by rfl) (by kernel_rfl) rfl (congrArg Value.bool (beq_iff_eq.2 (by rfl))) (by kernel_rfl) ?_
          iterate 2 refine RW.v ?_
          refine RW.nil ?_
          refine W.ret ?_
          refine blkQ_ret ?_
          refine seqQ_ret ?_
          refine endG (by rfl) (by exact resL_tmp rfl) ?_
          exact ⟨rfl, F, (play s n).2.2, _, _, _, _, _, le0, (play_ok ok), hp, hr, H⟩
        ·have hc78b := hc78
         have hc78 := ne_of_beq_false hc78
         refine W.seq (W.region ?_)
         iterate 2 refine RW.v ?_
         refine RW.nil ?_
         refine W.rg [(0, pp q), (1, pp w), (5, pp b1), (13, .int .i64 (pickOf k 12)), (93, .bool ((pickOf k 12) == 8))] fun TA => ?_
         refine W.cond rfl (fun hc105 => ?_) (fun hc105 => ?_)
         ·have hc105b := hc105
          have hc105 := eq_of_beq hc105
          refine W.seq ?_
          refine W.drawn (by kernel_rfl) (by kernel_rfl) H.gn ?_
          have H106 := H
          iterate 2 refine RW.v ?_
          refine RW.ld H106 0 1 ?_
          refine RW.cl ?_
          refine ((P_rotate n ok hp (Lies.rot (B := ([.at_ b1 (.row ⟨[.int .i64 k, .int .i64 n], 30, false⟩)])) (X := PE q r ev mv s) H106)).mono ?_)
          rintro _ _ ⟨rfl, F, ev107, mv108, le, hp, K109⟩
          have H110 : Lies G65 (A) F _ (.at_ b1 (.row ⟨[.int .i64 k, .int .i64 n], 30, false⟩) :: (PE q r ev107 mv108 (rotate s n).2 ++ (RE w mr nv v s ++ (L)))) := Lies.rot (B := PE q r ev107 mv108 (rotate s n).2) (X := ([.at_ b1 (.row ⟨[.int .i64 k, .int .i64 n], 30, false⟩)])) K109
          clear K109
          replace le0 := fun b y h => le b y (le0 b y h)
          replace hr := hr.le le
          iterate 2 refine RW.v ?_
          refine RW.ld H110 0 1 ?_
          refine RW.cl ?_
          refine ((R_rotate n ok hr (Lies.rot (B := ([.at_ b1 (.row ⟨[.int .i64 k, .int .i64 n], 30, false⟩)] ++ (PE q r ev107 mv108 (rotate s n).2))) (X := RE w mr nv v s) H110)).mono ?_)
          rintro _ _ ⟨rfl, F, mr111, nv112, vv113, le, hr, K114⟩
          have H115 : Lies G65 (A) F _ (.at_ b1 (.row ⟨[.int .i64 k, .int .i64 n], 30, false⟩) :: (PE q r ev107 mv108 (rotate s n).2 ++ (RE w mr111 nv112 vv113 (rotate s n).2 ++ (L)))) := Lies.rot (B := RE w mr111 nv112 vv113 (rotate s n).2) (X := ([.at_ b1 (.row ⟨[.int .i64 k, .int .i64 n], 30, false⟩)] ++ (PE q r ev107 mv108 (rotate s n).2))) K114
          clear K114
          replace le0 := fun b y h => le b y (le0 b y h)
          replace hp := hp.le le
          refine RW.valE (v' := .bool true) (by kernel_rfl) (by kernel_rfl) rfl (congrArg Value.bool (beq_iff_eq.2 (by rfl))) (by kernel_rfl) ?_
          refine RW.v ?_
          refine RW.nil ?_
          refine ⟨⟨by kernel_rfl, ⟨trivial, trivial, dyn_row (H106.get 0 rfl) (H115.get 0 rfl) ⟨fun h => Bool.noConfusion h, fun h => Bool.noConfusion h, fun h => Bool.noConfusion h, fun _ => H106.get 0 rfl, fun h => Bool.noConfusion h, fun h => Bool.noConfusion h, fun h => Bool.noConfusion h, fun _ => H110.get 0 rfl, fun h => Bool.noConfusion h, fun h => Bool.noConfusion h, trivial⟩, trivial, trivial, trivial, dyn_row (H110.get 0 rfl) (H115.get 0 rfl) ⟨fun h => Bool.noConfusion h, fun h => Bool.noConfusion h, fun h => Bool.noConfusion h, fun _ => H106.get 0 rfl, fun h => Bool.noConfusion h, fun h => Bool.noConfusion h, fun h => Bool.noConfusion h, fun _ => H110.get 0 rfl, fun h => Bool.noConfusion h, fun h => Bool.noConfusion h, trivial⟩, trivial, trivial, trivial, trivial⟩⟩, ?_⟩
          replace H := H115
          clear H106 H110 H115
          replace H := (H.del 0)
          dsimp only [setL, delL] at H
          refine W.ret ?_
          refine blkQ_ret ?_
          refine seqQ_ret ?_
          refine endG (by rfl) (by exact resL_tmp rfl) ?_
          exact ⟨rfl, F, (rotate s n).2, _, _, _, _, _, le0, (rotate_ok ok), hp, hr, H⟩
         ·have hc105b := hc105
          have hc105 := ne_of_beq_false hc105
          refine W.seq (W.region ?_)
          iterate 2 refine RW.v ?_
          refine RW.nil ?_
          refine W.rg [(0, pp q), (1, pp w), (5, pp b1), (13, .int .i64 (pickOf k 12)), (104, .bool ((pickOf k 12) == 9))] fun TA => ?_
          refine W.cond rfl (fun hc116 => ?_) (fun hc116 => ?_)
          ·have hc116b := hc116
           have hc116 := eq_of_beq hc116
           refine W.seq (W.region ?_)
           refine RW.v ?_
           refine RW.cl ?_
           refine ((P_drop  ok hp (Lies.rot (B := ([.at_ b1 (.row ⟨[.int .i64 k, .int .i64 n], 30, false⟩)])) (X := PE q r ev mv s) H)).mono ?_)
           rintro _ _ ⟨rfl, F, ev117, mv118, le, hp, K119⟩
           clear H
           have H : Lies G65 (A) F _ (.at_ b1 (.row ⟨[.int .i64 k, .int .i64 n], 30, false⟩) :: (PE q r ev117 mv118 (drop s).2 ++ (RE w mr nv v s ++ (L)))) := Lies.rot (B := PE q r ev117 mv118 (drop s).2) (X := ([.at_ b1 (.row ⟨[.int .i64 k, .int .i64 n], 30, false⟩)])) K119
           clear K119
           replace le0 := fun b y h => le b y (le0 b y h)
           replace hr := hr.le le
           refine RW.v ?_
           refine RW.cl ?_
           refine ((R_drop  ok hr (Lies.rot (B := ([.at_ b1 (.row ⟨[.int .i64 k, .int .i64 n], 30, false⟩)] ++ (PE q r ev117 mv118 (drop s).2))) (X := RE w mr nv v s) H)).mono ?_)
           rintro _ _ ⟨rfl, F, mr120, nv121, vv122, le, hr, K123⟩
           clear H
           have H : Lies G65 (A) F _ (.at_ b1 (.row ⟨[.int .i64 k, .int .i64 n], 30, false⟩) :: (PE q r ev117 mv118 (drop s).2 ++ (RE w mr120 nv121 vv122 (drop s).2 ++ (L)))) := Lies.rot (B := RE w mr120 nv121 vv122 (drop s).2) (X := ([.at_ b1 (.row ⟨[.int .i64 k, .int .i64 n], 30, false⟩)] ++ (PE q r ev117 mv118 (drop s).2))) K123
           clear K123
           replace le0 := fun b y h => le b y (le0 b y h)
           replace hp := hp.le le
           refine RW.valE (v' := .bool true) (by kernel_rfl) (by kernel_rfl) rfl (congrArg Value.bool (beq_iff_eq.2 (by rfl))) (by kernel_rfl) ?_
           refine RW.v ?_
           refine RW.nil ?_
           replace H := (H.del 0)
           dsimp only [setL, delL] at H
           refine W.ret ?_
           refine blkQ_ret ?_
           refine seqQ_ret ?_
           refine endG (by rfl) (by exact resL_tmp rfl) ?_
           exact ⟨rfl, F, (drop s).2, _, _, _, _, _, le0, (drop_ok ok), hp, hr, H⟩
          ·have hc116b := hc116
           have hc116 := ne_of_beq_false hc116
           refine W.seq (W.region ?_)
           iterate 2 refine RW.v ?_
           refine RW.nil ?_
           refine W.rg [(0, pp q), (1, pp w), (5, pp b1), (111, .bool ((pickOf k 12) == 10))] fun TA => ?_
           refine W.cond rfl (fun hc124 => ?_) (fun hc124 => ?_)
           ·have hc124b := hc124
            have hc124 := eq_of_beq hc124
            refine W.seq ?_
            refine W.drawn (by kernel_rfl) (by kernel_rfl) H.gn ?_
            have H125 := H
            iterate 2 refine RW.v ?_
            refine RW.ld H125 0 1 ?_
            refine RW.cl ?_
            refine ((P_count true (n := n) hn1 hn2 ok hp (Lies.rot (B := ([.at_ b1 (.row ⟨[.int .i64 k, .int .i64 n], 30, false⟩)])) (X := PE q r ev mv s) H125)).mono ?_)
            rintro _ _ ⟨rfl, F, ev126, mv127, le, hp, K128⟩
            have H129 : Lies G65 (A) F _ (.at_ b1 (.row ⟨[.int .i64 k, .int .i64 n], 30, false⟩) :: (PE q r ev126 mv127 (count s true n).2 ++ (RE w mr nv v s ++ (L)))) := Lies.rot (B := PE q r ev126 mv127 (count s true n).2) (X := ([.at_ b1 (.row ⟨[.int .i64 k, .int .i64 n], 30, false⟩)])) K128
            clear K128
            replace le0 := fun b y h => le b y (le0 b y h)
            replace hr := hr.le le
            iterate 2 refine RW.v ?_
            refine RW.ld H129 0 1 ?_
            refine RW.cl ?_
            refine ((R_count true (n := n) hn1 hn2 ok hr (Lies.rot (B := ([.at_ b1 (.row ⟨[.int .i64 k, .int .i64 n], 30, false⟩)] ++ (PE q r ev126 mv127 (count s true n).2))) (X := RE w mr nv v s) H129)).mono ?_)
            rintro _ _ ⟨rfl, F, mr130, nv131, vv132, le, hr, K133⟩
            have H134 : Lies G65 (A) F _ (.at_ b1 (.row ⟨[.int .i64 k, .int .i64 n], 30, false⟩) :: (PE q r ev126 mv127 (count s true n).2 ++ (RE w mr130 nv131 vv132 (count s true n).2 ++ (L)))) := Lies.rot (B := RE w mr130 nv131 vv132 (count s true n).2) (X := ([.at_ b1 (.row ⟨[.int .i64 k, .int .i64 n], 30, false⟩)] ++ (PE q r ev126 mv127 (count s true n).2))) K133
            clear K133
            replace le0 := fun b y h => le b y (le0 b y h)
            replace hp := hp.le le
            refine RW.valE (v' := .bool true) (by kernel_rfl) (by kernel_rfl) rfl (congrArg Value.bool (beq_iff_eq.2 (by rfl))) (by kernel_rfl) ?_
            refine RW.v ?_
            refine RW.nil ?_
            refine ⟨⟨by kernel_rfl, ⟨trivial, trivial, dyn_row (H125.get 0 rfl) (H134.get 0 rfl) ⟨fun h => Bool.noConfusion h, fun h => Bool.noConfusion h, fun h => Bool.noConfusion h, fun _ => H125.get 0 rfl, fun h => Bool.noConfusion h, fun h => Bool.noConfusion h, fun h => Bool.noConfusion h, fun _ => H129.get 0 rfl, fun h => Bool.noConfusion h, fun h => Bool.noConfusion h, trivial⟩, trivial, trivial, trivial, dyn_row (H129.get 0 rfl) (H134.get 0 rfl) ⟨fun h => Bool.noConfusion h, fun h => Bool.noConfusion h, fun h => Bool.noConfusion h, fun _ => H125.get 0 rfl, fun h => Bool.noConfusion h, fun h => Bool.noConfusion h, fun h => Bool.noConfusion h, fun _ => H129.get 0 rfl, fun h => Bool.noConfusion h, fun h => Bool.noConfusion h, trivial⟩, trivial, trivial, trivial, trivial⟩⟩, ?_⟩
            replace H := H134
            clear H125 H129 H134
            replace H := (H.del 0)
            dsimp only [setL, delL] at H
            refine W.ret ?_
            refine blkQ_ret ?_
            refine seqQ_ret ?_
            refine endG (by rfl) (by exact resL_tmp rfl) ?_
            exact ⟨rfl, F, (count s true n).2, _, _, _, _, _, le0, (count_ok ok), hp, hr, H⟩
           ·have hc124b := hc124
            have hc124 := ne_of_beq_false hc124
            refine W.skip ?_
            refine blkQ_normal ?_
            refine W.seq ?_
            refine W.drawn (by kernel_rfl) (by kernel_rfl) H.gn ?_
            have H135 := H
            iterate 2 refine RW.v ?_
            refine RW.ld H135 0 1 ?_
            refine RW.cl ?_
            refine ((P_count false (n := n) hn1 hn2 ok hp (Lies.rot (B := ([.at_ b1 (.row ⟨[.int .i64 k, .int .i64 n], 30, false⟩)])) (X := PE q r ev mv s) H135)).mono ?_)
            rintro _ _ ⟨rfl, F, ev136, mv137, le, hp, K138⟩
            have H139 : Lies G65 (A) F _ (.at_ b1 (.row ⟨[.int .i64 k, .int .i64 n], 30, false⟩) :: (PE q r ev136 mv137 (count s false n).2 ++ (RE w mr nv v s ++ (L)))) := Lies.rot (B := PE q r ev136 mv137 (count s false n).2) (X := ([.at_ b1 (.row ⟨[.int .i64 k, .int .i64 n], 30, false⟩)])) K138
            clear K138
            replace le0 := fun b y h => le b y (le0 b y h)
            replace hr := hr.le le
            iterate 2 refine RW.v ?_
            refine RW.ld H139 0 1 ?_
            refine RW.cl ?_
            refine ((R_count false (n := n) hn1 hn2 ok hr (Lies.rot (B := ([.at_ b1 (.row ⟨[.int .i64 k, .int .i64 n], 30, false⟩)] ++ (PE q r ev136 mv137 (count s false n).2))) (X := RE w mr nv v s) H139)).mono ?_)
            rintro _ _ ⟨rfl, F, mr140, nv141, vv142, le, hr, K143⟩
            have H144 : Lies G65 (A) F _ (.at_ b1 (.row ⟨[.int .i64 k, .int .i64 n], 30, false⟩) :: (PE q r ev136 mv137 (count s false n).2 ++ (RE w mr140 nv141 vv142 (count s false n).2 ++ (L)))) := Lies.rot (B := RE w mr140 nv141 vv142 (count s false n).2) (X := ([.at_ b1 (.row ⟨[.int .i64 k, .int .i64 n], 30, false⟩)] ++ (PE q r ev136 mv137 (count s false n).2))) K143
            clear K143
            replace le0 := fun b y h => le b y (le0 b y h)
            replace hp := hp.le le
            refine RW.valE (v' := .bool true) (by kernel_rfl) (by kernel_rfl) rfl (congrArg Value.bool (beq_iff_eq.2 (by rfl))) (by kernel_rfl) ?_
            refine RW.v ?_
            refine RW.nil ?_
            refine ⟨⟨by kernel_rfl, ⟨trivial, trivial, dyn_row (H135.get 0 rfl) (H144.get 0 rfl) ⟨fun h => Bool.noConfusion h, fun h => Bool.noConfusion h, fun h => Bool.noConfusion h, fun _ => H135.get 0 rfl, fun h => Bool.noConfusion h, fun h => Bool.noConfusion h, fun h => Bool.noConfusion h, fun _ => H139.get 0 rfl, fun h => Bool.noConfusion h, fun h => Bool.noConfusion h, trivial⟩, trivial, trivial, trivial, dyn_row (H139.get 0 rfl) (H144.get 0 rfl) ⟨fun h => Bool.noConfusion h, fun h => Bool.noConfusion h, fun h => Bool.noConfusion h, fun _ => H135.get 0 rfl, fun h => Bool.noConfusion h, fun h => Bool.noConfusion h, fun h => Bool.noConfusion h, fun _ => H139.get 0 rfl, fun h => Bool.noConfusion h, fun h => Bool.noConfusion h, trivial⟩, trivial, trivial, trivial, trivial⟩⟩, ?_⟩
            replace H := H144
            clear H135 H139 H144
            replace H := (H.del 0)
            dsimp only [setL, delL] at H
            refine W.ret ?_
            refine endG (by rfl) (by exact resL_tmp rfl) ?_
            exact ⟨rfl, F, (count s false n).2, _, _, _, _, _, le0, (count_ok ok), hp, hr, H⟩
end
end Go.Proofs.YthemeeiedlbhkaaGreatDoor
namespace Go.Proofs.YthemeeiedlbhkaaGreatDoor
set_option maxRecDepth 100000
section
variable {A : Abs} {σ : Mem} {F : Nat → Option Blk2} {L : List Ent} {q r w : Nat} {ev mv mr nv v : Value} {s : RS}
theorem ents_at : ∀ {us : List Value} {M : List (List Int)} {i : Nat}, us.length = M.length → i < M.length → ents (us.drop i) (M.drop i) = .sl 3 1 (us.getD i undef) (M.getD i []).length ((M.getD i []).map (Value.int .i64)) :: ents (us.drop (i + 1)) (M.drop (i + 1))
 | [], [], _, _, hi => absurd hi (Nat.not_lt_zero _)
 | _ :: _, _ :: _, 0, _, _ => rfl
 | _ :: us, _ :: M, i + 1, h, hi => ents_at (us := us) (M := M) (i := i) (by simpa using h) (by simpa using hi)
theorem two_out {B : List Ent} {us ws : List Value} {M : List (List Int)} {i : Nat} (hi : i < M.length) (hu : us.length = M.length) (hw : ws.length = M.length) (H : Lies G65 A F σ (B ++ (ents (ws.drop i) (M.drop i) ++ (ents (us.drop i) (M.drop i) ++ L)))) : Lies G65 A F σ (.sl 3 1 (us.getD i undef) (M.getD i []).length ((M.getD i []).map (Value.int .i64)) :: .sl 3 1 (ws.getD i undef) (M.getD i []).length ((M.getD i []).map (Value.int .i64)) :: (B ++ (ents (ws.drop (i + 1)) (M.drop (i + 1)) ++ (ents (us.drop (i + 1)) (M.drop (i + 1)) ++ L)))) := by
 rw [ents_at hw hi, ents_at hu hi, List.cons_append, List.cons_append] at H
 refine H.perm ?_
 generalize ents (us.drop (i + 1)) (M.drop (i + 1)) ++ L = Z
 generalize ents (ws.drop (i + 1)) (M.drop (i + 1)) = Y
 refine List.perm_middle.trans ?_
 refine (List.Perm.cons _ ?_).trans (List.Perm.swap ..)
 rw [← List.append_assoc, ← List.append_assoc]
 exact List.perm_middle
set_option maxHeartbeats 16000000 in
theorem alike_wc (ok : s.Ok) (hp : StP F ev mv s) (hr : StR F mr nv v s) (H : Lies G65 A F σ (PE q r ev mv s ++ (RE w mr nv v s ++ L))) : WC G65 Tryz.prog 18 #[.pointer (some ⟨q, 0, none⟩), .pointer (some ⟨w, 0, none⟩)] σ fun u σ' => u = .bool true ∧ Lies G65 A F σ' (PE q r ev mv s ++ (RE w mr nv v s ++ L)) := by
 obtain ⟨on, E, M, ct⟩ := s
 obtain ⟨vp, hmp, hap⟩ := hp.1
 obtain ⟨⟨vr, hmr, har⟩, hn⟩ := hr
 have hM := ok.2.2.2.1
 have hl := ok.2.2.1
 have hE := ok.2.1
 have hg0 := ok.getD
 dsimp only at hg0 hmp hap hmr har hM hl hE
 replace H : Lies G65 (A) F σ (.at_ r (.row ⟨[.bool on, ev, mv, .int .i64 ct], 90, false⟩) :: .at_ q (.row ⟨[.pointer (some ⟨r, 0, none⟩)], 92, false⟩) :: .sl 3 1 ev E.length (E.map (Value.int .i64)) :: .at_ w (.row ⟨[mr, .bool on, nv, .int .i64 ct], 94, false⟩) :: .sl 3 1 v E.length (E.map (Value.int .i64)) :: (L)) := H
 refine WC.enter (fn := Tryz.f18) Tryz.func18 rfl ?_
 refine W.rg [(0, pp q), (1, pp w)] fun TA => ?_
 refine W.seq (W.region ?_)
 refine RW.v ?_
 refine RW.nil ?_
 refine W.rg [(0, pp q), (1, pp w)] fun TA => ?_
 refine W.seq (W.region ?_)
 refine RW.v ?_
 refine RW.cl ?_
 refine ((p_recording (H.get 1 rfl) (H.get 0 rfl) ok.1 (gr_slf (H.sl 2 rfl)) (hmp.le H.old) (hap.le H.old) hM hl hE (Lies.start H.gn H.abs)).mono ?_)
 rintro _ _ ⟨rfl, K1⟩
 have H : Lies G65 (A) F _ (.at_ r (.row ⟨[.bool on, ev, mv, .int .i64 ct], 90, false⟩) :: .at_ q (.row ⟨[.pointer (some ⟨r, 0, none⟩)], 92, false⟩) :: .sl 3 1 ev E.length (E.map (Value.int .i64)) :: .at_ w (.row ⟨[mr, .bool on, nv, .int .i64 ct], 94, false⟩) :: .sl 3 1 v E.length (E.map (Value.int .i64)) :: (L)) := Lies.then H K1
 iterate 5 refine RW.v ?_
 refine RW.nil ?_
 refine W.rg [(0, pp q), (1, pp w), (5, .int .i64 (E.length : Int)), (6, .bool on)] fun TA => ?_
 refine W.seq (W.region ?_)
 refine RW.v ?_
 refine RW.cl ?_
 refine ((r_recording (H.get 3 rfl) ok.1 (now_slk hn H (H.sl 4 rfl)) (hmr.le H.old) (har.le H.old) hM hl hE (Lies.start H.gn H.abs)).mono ?_)
 rintro _ _ ⟨rfl, K2⟩
 have H : Lies G65 (A) F _ (.at_ r (.row ⟨[.bool on, ev, mv, .int .i64 ct], 90, false⟩) :: .at_ q (.row ⟨[.pointer (some ⟨r, 0, none⟩)], 92, false⟩) :: .sl 3 1 ev E.length (E.map (Value.int .i64)) :: .at_ w (.row ⟨[mr, .bool on, nv, .int .i64 ct], 94, false⟩) :: .sl 3 1 v E.length (E.map (Value.int .i64)) :: (L)) := Lies.then H K2
 iterate 5 refine RW.v ?_
 refine RW.nil ?_
 refine W.rg [(0, pp q), (1, pp w), (5, .int .i64 (E.length : Int)), (6, .bool on), (7, .int .i64 (E.length : Int)), (8, .bool on)] fun TA => ?_
 refine W.seq (W.region ?_)
 refine RW.v ?_
 refine RW.cl ?_
 refine ((p_ring (H.get 1 rfl) (H.get 0 rfl) (gr_slf (H.sl 2 rfl)) (hmp.le H.old) (hap.le H.old) hM hl hE (Lies.start H.gn H.abs)).mono ?_)
 rintro ra _ ⟨us, hu, K3⟩
 rw [List.append_nil] at K3
 replace H : Lies G65 (A) F _ (.at_ r (.row ⟨[.bool on, ev, mv, .int .i64 ct], 90, false⟩) :: .at_ q (.row ⟨[.pointer (some ⟨r, 0, none⟩)], 92, false⟩) :: .sl 3 1 ev E.length (E.map (Value.int .i64)) :: .at_ w (.row ⟨[mr, .bool on, nv, .int .i64 ct], 94, false⟩) :: .sl 3 1 v E.length (E.map (Value.int .i64)) :: .sl 48 1 ra M.length us :: (ents us M ++ (L))) := Lies.rot (B := .sl 48 1 ra M.length us :: ents us M) (X := [.at_ r (.row ⟨[.bool on, ev, mv, .int .i64 ct], 90, false⟩), .at_ q (.row ⟨[.pointer (some ⟨r, 0, none⟩)], 92, false⟩), .sl 3 1 ev E.length (E.map (Value.int .i64)), .at_ w (.row ⟨[mr, .bool on, nv, .int .i64 ct], 94, false⟩), .sl 3 1 v E.length (E.map (Value.int .i64))]) (H.then K3)
 refine RW.v ?_
 refine RW.cl ?_
 refine ((r_ring (H.get 3 rfl) (now_slk hn H (H.sl 4 rfl)) (hmr.le H.old) (har.le H.old) hM hl hE (Lies.start H.gn H.abs)).mono ?_)
 rintro rb _ ⟨ws, hw, K4⟩
 rw [List.append_nil] at K4
 replace H : Lies G65 (A) F _ (.at_ r (.row ⟨[.bool on, ev, mv, .int .i64 ct], 90, false⟩) :: .at_ q (.row ⟨[.pointer (some ⟨r, 0, none⟩)], 92, false⟩) :: .sl 3 1 ev E.length (E.map (Value.int .i64)) :: .at_ w (.row ⟨[mr, .bool on, nv, .int .i64 ct], 94, false⟩) :: .sl 3 1 v E.length (E.map (Value.int .i64)) :: .sl 48 1 ra M.length us :: .sl 48 1 rb M.length ws :: (ents ws M ++ (ents us M ++ (L)))) := Lies.rot (B := .sl 48 1 rb M.length ws :: ents ws M) (X := [.at_ r (.row ⟨[.bool on, ev, mv, .int .i64 ct], 90, false⟩), .at_ q (.row ⟨[.pointer (some ⟨r, 0, none⟩)], 92, false⟩), .sl 3 1 ev E.length (E.map (Value.int .i64)), .at_ w (.row ⟨[mr, .bool on, nv, .int .i64 ct], 94, false⟩), .sl 3 1 v E.length (E.map (Value.int .i64)), .sl 48 1 ra M.length us]) (H.then K4)
 iterate 2 refine RW.v ?_
 refine RW.nil ?_
 refine W.rg [(0, pp q), (1, pp w), (5, .int .i64 (E.length : Int)), (6, .bool on), (7, .int .i64 (E.length : Int)), (8, .bool on), (9, ra), (10, rb)] fun TA => ?_
 refine W.seq ?_
 refine W.seq ?_
 refine W.drawn (by kernel_rfl) (by kernel_rfl) H.gn ?_
 have H5 := H
 iterate 2 refine RW.v ?_
 refine RW.valE (v' := .bool false) (by kernel_rfl) (by kernel_rfl) rfl (congrArg Value.bool (bne_eq_false_iff_eq.2 (by rfl))) (by kernel_rfl) ?_
 refine RW.v ?_
 refine RW.val (by rfl) (by kernel_rfl) rfl (by kernel_rfl) ?_
 refine RW.val (by rfl) (by kernel_rfl) rfl (by kernel_rfl) ?_
 refine RW.valE (v' := .bool false) (by rfl) (by kernel_rfl) rfl (by cases on <;> rfl) (by kernel_rfl) ?_
 iterate 2 refine RW.v ?_
 refine RW.val (by rfl) (by kernel_rfl) rfl (by kernel_rfl) ?_
 refine RW.cl (hw := by rfl) ?_
 refine ((p_counter (H5.get 1 rfl) (H5.get 0 rfl) (gr_slf (H5.sl 2 rfl)) (hmp.le H5.old) (hap.le H5.old) hM hl hE (Lies.start H5.gn H5.abs)).mono ?_)
 rintro _ _ ⟨rfl, K6⟩
 have H7 : Lies G65 (A) F _ (.at_ r (.row ⟨[.bool on, ev, mv, .int .i64 ct], 90, false⟩) :: .at_ q (.row ⟨[.pointer (some ⟨r, 0, none⟩)], 92, false⟩) :: .sl 3 1 ev E.length (E.map (Value.int .i64)) :: .at_ w (.row ⟨[mr, .bool on, nv, .int .i64 ct], 94, false⟩) :: .sl 3 1 v E.length (E.map (Value.int .i64)) :: .sl 48 1 ra M.length us :: .sl 48 1 rb M.length ws :: (ents ws M ++ (ents us M ++ (L)))) := Lies.then H5 K6
 refine RW.val (by rfl) (by kernel_rfl) rfl (by kernel_rfl) ?_
 refine RW.val (by rfl) (by kernel_rfl) rfl (by kernel_rfl) ?_
 refine RW.val (by rfl) (by kernel_rfl) rfl (by kernel_rfl) ?_
 refine RW.ldL H7 3 1 (by rfl) (by kernel_rfl) rfl rfl rfl rfl rfl (by kernel_rfl) ?_
 refine RW.valE (v' := .bool false) (by rfl) (by kernel_rfl) rfl (congrArg Value.bool (bne_eq_false_iff_eq.2 (by rfl))) (by kernel_rfl) ?_
 iterate 2 refine RW.v ?_
 refine RW.val (by rfl) (by kernel_rfl) rfl (by kernel_rfl) ?_
 refine RW.cl (hw := by rfl) ?_
 refine ((p_last (H7.get 1 rfl) (H7.get 0 rfl) (gr_slf (H7.sl 2 rfl)) (hmp.le H7.old) (hap.le H7.old) hM hl hE (Lies.start H7.gn H7.abs)).mono ?_)
 rintro la8 _ K9
 have H10 : Lies G65 (A) F _ (.sl 3 1 la8 ((M.getD 0 []).length) ((M.getD 0 []).map (Value.int .i64)) :: .at_ r (.row ⟨[.bool on, ev, mv, .int .i64 ct], 90, false⟩) :: .at_ q (.row ⟨[.pointer (some ⟨r, 0, none⟩)], 92, false⟩) :: .sl 3 1 ev E.length (E.map (Value.int .i64)) :: .at_ w (.row ⟨[mr, .bool on, nv, .int .i64 ct], 94, false⟩) :: .sl 3 1 v E.length (E.map (Value.int .i64)) :: .sl 48 1 ra M.length us :: .sl 48 1 rb M.length ws :: (ents ws M ++ (ents us M ++ (L)))) := Lies.then H7 K9
 refine RW.val (by rfl) (by kernel_rfl) rfl (by kernel_rfl) ?_
 refine RW.cl (hw := by rfl) ?_
 refine ((r_last (H10.get 4 rfl) (now_slk hn H10 (H10.sl 5 rfl)) (hmr.le H10.old) (har.le H10.old) hM hl hE (Lies.start H10.gn H10.abs)).mono ?_)
 rintro la11 _ K12
 have H13 : Lies G65 (A) F _ (.sl 3 1 la11 ((M.getD 0 []).length) ((M.getD 0 []).map (Value.int .i64)) :: .sl 3 1 la8 ((M.getD 0 []).length) ((M.getD 0 []).map (Value.int .i64)) :: .at_ r (.row ⟨[.bool on, ev, mv, .int .i64 ct], 90, false⟩) :: .at_ q (.row ⟨[.pointer (some ⟨r, 0, none⟩)], 92, false⟩) :: .sl 3 1 ev E.length (E.map (Value.int .i64)) :: .at_ w (.row ⟨[mr, .bool on, nv, .int .i64 ct], 94, false⟩) :: .sl 3 1 v E.length (E.map (Value.int .i64)) :: .sl 48 1 ra M.length us :: .sl 48 1 rb M.length ws :: (ents ws M ++ (ents us M ++ (L)))) := Lies.then H10 K12
 refine RW.cl (hw := by rfl) ?_
 refine ((same_int (gr_slf (H13.sl 1 rfl)).slf (gr_slf (H13.sl 0 rfl)).slf (by omega) (Lies.start H13.gn H13.abs)).mono ?_)
 rintro _ _ ⟨rfl, K14⟩
 have H15 : Lies G65 (A) F _ (.sl 3 1 la11 ((M.getD 0 []).length) ((M.getD 0 []).map (Value.int .i64)) :: .sl 3 1 la8 ((M.getD 0 []).length) ((M.getD 0 []).map (Value.int .i64)) :: .at_ r (.row ⟨[.bool on, ev, mv, .int .i64 ct], 90, false⟩) :: .at_ q (.row ⟨[.pointer (some ⟨r, 0, none⟩)], 92, false⟩) :: .sl 3 1 ev E.length (E.map (Value.int .i64)) :: .at_ w (.row ⟨[mr, .bool on, nv, .int .i64 ct], 94, false⟩) :: .sl 3 1 v E.length (E.map (Value.int .i64)) :: .sl 48 1 ra M.length us :: .sl 48 1 rb M.length ws :: (ents ws M ++ (ents us M ++ (L)))) := Lies.then H13 K14
 refine RW.val (by rfl) (by kernel_rfl) rfl (by kernel_rfl) ?_
 iterate 2 refine RW.v ?_
 refine RW.val (by rfl) (by kernel_rfl) rfl (by kernel_rfl) ?_
 refine RW.len (by rfl) (by kernel_rfl) rfl rfl rfl rfl ((H15.sl 7 rfl).len (by kernel_rfl)) (by kernel_rfl) ?_
 refine RW.val (by rfl) (by kernel_rfl) rfl (by kernel_rfl) ?_
 refine RW.len (by rfl) (by kernel_rfl) rfl rfl rfl rfl ((H15.sl 8 rfl).len (by kernel_rfl)) (by kernel_rfl) ?_
 refine RW.valE (v' := .bool false) (by rfl) (by kernel_rfl) rfl (congrArg Value.bool (bne_eq_false_iff_eq.2 (by rfl))) (by kernel_rfl) ?_
 refine RW.v ?_
 refine RW.nil ?_
 refine ⟨⟨by kernel_rfl, ⟨trivial, trivial, trivial, trivial, trivial, trivial, trivial, trivial, trivial, trivial, trivial, trivial, trivial, trivial, dyn_row (H7.get 3 rfl) (H15.get 5 rfl) ⟨fun h => Bool.noConfusion h, fun h => Bool.noConfusion h, fun h => Bool.noConfusion h, fun h => Bool.noConfusion h, fun h => Bool.noConfusion h, fun h => Bool.noConfusion h, fun h => Bool.noConfusion h, fun h => Bool.noConfusion h, fun h => Bool.noConfusion h, fun h => Bool.noConfusion h, fun _ => H5.get 3 rfl, fun h => Bool.noConfusion h, fun h => Bool.noConfusion h, fun h => Bool.noConfusion h, fun h => Bool.noConfusion h, fun h => Bool.noConfusion h, fun h => Bool.noConfusion h, fun h => Bool.noConfusion h, fun h => Bool.noConfusion h, fun _ => H7.get 3 rfl, fun h => Bool.noConfusion h, fun _ => H10.get 4 rfl, fun _ => H13.get 5 rfl, fun h => Bool.noConfusion h, fun h => Bool.noConfusion h, fun h => Bool.noConfusion h, fun h => Bool.noConfusion h, fun h => Bool.noConfusion h, fun h => Bool.noConfusion h, fun h => Bool.noConfusion h, fun h => Bool.noConfusion h, fun h => Bool.noConfusion h, trivial⟩, trivial, trivial, trivial, trivial, trivial, trivial, trivial, trivial, trivial, trivial, trivial, trivial, trivial, trivial, trivial, trivial, trivial, trivial⟩⟩, ?_⟩
 replace H := H15
 clear H5 H7 H10 H13 H15
 refine W.c0 ?_
 refine W.skip ?_
 refine W.seq ?_
 refine W.seq (W.region ?_)
 refine RW.v ?_
 refine RW.nil ?_
 refine W.rg [(9, ra), (10, rb), (11, .int .i64 0)] fun TA => ?_
 refine W.block ?_
 replace H := ((H.del 1).del 0)
 refine W.loop (fun mm ta σ => ∃ (i : Nat), (mm + i = M.length) ∧ Lies G65 A F σ (.at_ r (.row ⟨[.bool on, ev, mv, .int .i64 ct], 90, false⟩) :: .at_ q (.row ⟨[.pointer (some ⟨r, 0, none⟩)], 92, false⟩) :: .sl 3 1 ev E.length (E.map (Value.int .i64)) :: .at_ w (.row ⟨[mr, .bool on, nv, .int .i64 ct], 94, false⟩) :: .sl 3 1 v E.length (E.map (Value.int .i64)) :: .sl 48 1 ra M.length us :: .sl 48 1 rb M.length ws :: (ents (ws.drop i) (M.drop i) ++ (ents (us.drop i) (M.drop i) ++ (L)))) ∧ ta 9 = ra ∧ ta 10 = rb ∧ ta 11 = .int .i64 ((i : Nat) : Int)) M.length ?_ ?_
 ·exact ⟨0, (by omega), H, rfl, rfl, rfl⟩
 clear H
 rintro mm ta _ ⟨i, hm, H, e9, e10, e11⟩
 refine W.rst [(9, ra), (10, rb), (11, .int .i64 ((i : Nat) : Int))] ⟨e9, e10, e11, trivial⟩ fun TA => ?_
 clear e9 e10 e11
 refine W.seq ?_
 refine W.seq (W.region ?_)
 iterate 2 refine RW.v ?_
 refine RW.len (by kernel_rfl) (by kernel_rfl) rfl rfl rfl rfl ((H.sl 5 rfl).len (by kernel_rfl)) (by kernel_rfl) ?_
 refine RW.v ?_
 refine RW.nil ?_
 refine W.rg [(9, ra), (10, rb), (11, .int .i64 ((i : Nat) : Int)), (62, .bool (decide (((i : Nat) : Int) < ((M.length : Nat) : Int))))] fun TA => ?_
 refine W.cond rfl (fun hc16 => ?_) (fun hc16 => ?_)
 ·have hc16b := hc16
  have hc16 := of_decide_eq_true hc16
  have hil : i < M.length := by omega
  have hz := mac_in hM hil
  replace H : Lies G65 (A) F _ (.sl 3 1 (us.getD i undef) ((M.getD i []).length) ((M.getD i []).map (Value.int .i64)) :: .sl 3 1 (ws.getD i undef) ((M.getD i []).length) ((M.getD i []).map (Value.int .i64)) :: .at_ r (.row ⟨[.bool on, ev, mv, .int .i64 ct], 90, false⟩) :: .at_ q (.row ⟨[.pointer (some ⟨r, 0, none⟩)], 92, false⟩) :: .sl 3 1 ev E.length (E.map (Value.int .i64)) :: .at_ w (.row ⟨[mr, .bool on, nv, .int .i64 ct], 94, false⟩) :: .sl 3 1 v E.length (E.map (Value.int .i64)) :: .sl 48 1 ra M.length us :: .sl 48 1 rb M.length ws :: (ents (ws.drop (i + 1)) (M.drop (i + 1)) ++ (ents (us.drop (i + 1)) (M.drop (i + 1)) ++ (L)))) := two_out (B := [.at_ r (.row ⟨[.bool on, ev, mv, .int .i64 ct], 90, false⟩), .at_ q (.row ⟨[.pointer (some ⟨r, 0, none⟩)], 92, false⟩), .sl 3 1 ev E.length (E.map (Value.int .i64)), .at_ w (.row ⟨[mr, .bool on, nv, .int .i64 ct], 94, false⟩), .sl 3 1 v E.length (E.map (Value.int .i64)), .sl 48 1 ra M.length us, .sl 48 1 rb M.length ws]) hil hu hw H
  refine W.skip ?_
  refine W.seq ?_
  refine W.block ?_
  refine W.seq ?_
  refine W.seq ?_
  refine W.drawn (by kernel_rfl) (by kernel_rfl) H.gn ?_
  have H17 := H
  iterate 2 refine RW.v ?_
  refine RW.idxG H17 7 rfl (by kernel_rfl) (by kernel_rfl) rfl Tryz.underlying54 (by kernel_rfl) rfl rfl ⟨by omega, by omega⟩ (by kernel_rfl) ?_
  intro b18 q19 r20 hF21 hE22
  rw [vs_at (vs := us) (j := i) (by omega)] at hE22
  refine RW.loads 1 (by kernel_rfl) (by kernel_rfl) rfl rfl (hF21) hE22 rfl (by kernel_rfl) ?_
  iterate 2 refine RW.v ?_
  refine RW.idxG H17 8 rfl (by kernel_rfl) (by kernel_rfl) rfl Tryz.underlying54 (by kernel_rfl) rfl rfl ⟨by omega, by omega⟩ (by kernel_rfl) ?_
  intro b23 q24 r25 hF26 hE27
  rw [vs_at (vs := ws) (j := i) (by omega)] at hE27
  refine RW.loads 1 (by kernel_rfl) (by kernel_rfl) rfl rfl (hF26) hE27 rfl (by kernel_rfl) ?_
  refine RW.cl ?_
  refine ((same_int (gr_slf (H17.sl 0 rfl)).slf (gr_slf (H17.sl 1 rfl)).slf (by omega) (Lies.start H17.gn H17.abs)).mono ?_)
  rintro _ _ ⟨rfl, K28⟩
  have H29 : Lies G65 (A) F _ (.sl 3 1 (us.getD i undef) ((M.getD i []).length) ((M.getD i []).map (Value.int .i64)) :: .sl 3 1 (ws.getD i undef) ((M.getD i []).length) ((M.getD i []).map (Value.int .i64)) :: .at_ r (.row ⟨[.bool on, ev, mv, .int .i64 ct], 90, false⟩) :: .at_ q (.row ⟨[.pointer (some ⟨r, 0, none⟩)], 92, false⟩) :: .sl 3 1 ev E.length (E.map (Value.int .i64)) :: .at_ w (.row ⟨[mr, .bool on, nv, .int .i64 ct], 94, false⟩) :: .sl 3 1 v E.length (E.map (Value.int .i64)) :: .sl 48 1 ra M.length us :: .sl 48 1 rb M.length ws :: (ents (ws.drop (i + 1)) (M.drop (i + 1)) ++ (ents (us.drop (i + 1)) (M.drop (i + 1)) ++ (L)))) := Lies.then H17 K28
  refine RW.v ?_
  refine RW.nil ?_
  refine ⟨⟨by kernel_rfl, ⟨trivial, trivial, trivial, dyn_row (hF21) ((K28.old _ _ hF21)) ⟨fun h => Bool.noConfusion h, fun h => Bool.noConfusion h, fun h => Bool.noConfusion h, fun h => Bool.noConfusion h, fun h => Bool.noConfusion h, fun h => Bool.noConfusion h, fun h => Bool.noConfusion h, fun h => Bool.noConfusion h, fun _ => hF21, fun h => Bool.noConfusion h, trivial⟩, trivial, trivial, trivial, dyn_row (hF26) ((K28.old _ _ hF26)) ⟨fun h => Bool.noConfusion h, fun h => Bool.noConfusion h, fun h => Bool.noConfusion h, fun h => Bool.noConfusion h, fun h => Bool.noConfusion h, fun h => Bool.noConfusion h, fun h => Bool.noConfusion h, fun h => Bool.noConfusion h, fun _ => hF26, fun h => Bool.noConfusion h, trivial⟩, trivial, trivial, trivial⟩⟩, ?_⟩
  replace H := H29
  clear H17 H29
  refine W.c0 ?_
  refine W.skip ?_
  refine W.seq (W.region ?_)
  refine RW.v ?_
  refine RW.nil ?_
  refine W.rg [(9, ra), (10, rb), (11, .int .i64 ((i : Nat) : Int)), (12, .int .i64 0)] fun TA => ?_
  refine W.block ?_
  refine W.loop (fun mm2 ta σ => ∃ (j : Nat) (ys : List Value), (mm2 + j = (M.getD i []).length) ∧ Lies G65 A F σ (.sl 3 1 (us.getD i undef) ((M.getD i []).length) ys :: .sl 3 1 (ws.getD i undef) ((M.getD i []).length) ((M.getD i []).map (Value.int .i64)) :: .at_ r (.row ⟨[.bool on, ev, mv, .int .i64 ct], 90, false⟩) :: .at_ q (.row ⟨[.pointer (some ⟨r, 0, none⟩)], 92, false⟩) :: .sl 3 1 ev E.length (E.map (Value.int .i64)) :: .at_ w (.row ⟨[mr, .bool on, nv, .int .i64 ct], 94, false⟩) :: .sl 3 1 v E.length (E.map (Value.int .i64)) :: .sl 48 1 ra M.length us :: .sl 48 1 rb M.length ws :: (ents (ws.drop (i + 1)) (M.drop (i + 1)) ++ (ents (us.drop (i + 1)) (M.drop (i + 1)) ++ (L)))) ∧ ta 9 = ra ∧ ta 10 = rb ∧ ta 11 = .int .i64 ((i : Nat) : Int) ∧ ta 12 = .int .i64 ((j : Nat) : Int)) ((M.getD i []).length) ?_ ?_
  ·exact ⟨0, _, (by omega), H, rfl, rfl, rfl, rfl⟩
  clear H
  rintro mm2 ta _ ⟨j, ys, hm2, H, e9, e10, e11, e12⟩
  refine W.rst [(9, ra), (10, rb), (11, .int .i64 ((i : Nat) : Int)), (12, .int .i64 ((j : Nat) : Int))] ⟨e9, e10, e11, e12, trivial⟩ fun TA => ?_
  clear e9 e10 e11 e12
  refine W.seq ?_
  refine W.seq (W.region ?_)
  iterate 3 refine RW.v ?_
  refine RW.idxG H 7 rfl (by kernel_rfl) (by kernel_rfl) rfl Tryz.underlying54 (by kernel_rfl) rfl rfl ⟨by omega, by omega⟩ (by kernel_rfl) ?_
  intro b30 q31 r32 hF33 hE34
  rw [vs_at (vs := us) (j := i) (by omega)] at hE34
  refine RW.loads 1 (by kernel_rfl) (by kernel_rfl) rfl rfl (hF33) hE34 rfl (by kernel_rfl) ?_
  refine RW.len (by kernel_rfl) (by kernel_rfl) rfl rfl rfl rfl ((H.sl 0 rfl).len (by kernel_rfl)) (by kernel_rfl) ?_
  refine RW.v ?_
  refine RW.nil ?_
  refine W.rg [(9, ra), (10, rb), (11, .int .i64 ((i : Nat) : Int)), (12, .int .i64 ((j : Nat) : Int)), (81, .bool (decide (((j : Nat) : Int) < (((M.getD i []).length : Nat) : Int))))] fun TA => ?_
  refine W.cond rfl (fun hc35 => ?_) (fun hc35 => ?_)
  ·have hc35b := hc35
   have hc35 := of_decide_eq_true hc35
   refine W.skip ?_
   refine W.seq ?_
   refine W.block ?_
   refine W.region ?_
   iterate 2 refine RW.v ?_
   refine RW.idxG H 7 rfl (by kernel_rfl) (by kernel_rfl) rfl Tryz.underlying54 (by kernel_rfl) rfl rfl ⟨by omega, by omega⟩ (by kernel_rfl) ?_
   intro b36 q37 r38 hF39 hE40
   rw [vs_at (vs := us) (j := i) (by omega)] at hE40
   refine RW.loads 1 (by kernel_rfl) (by kernel_rfl) rfl rfl (hF39) hE40 rfl (by kernel_rfl) ?_
   refine RW.v ?_
   refine RW.idxGS H 0 rfl (by kernel_rfl) (by kernel_rfl) rfl Tryz.underlying48 (by kernel_rfl) rfl rfl ⟨by omega, by omega⟩ (by kernel_rfl) ?_
   intro b41 q42 hb43 hq44
   refine RW.stG H 0 rfl hb43 (vs := [.int .i64 (-77)]) (by subst hq44; simp only [List.length_cons, List.length_nil]; omega) (by kernel_rfl) (by kernel_rfl) rfl rfl rfl rfl (by kernel_rfl) (by kernel_rfl) ?_
   clear H; intro _ H
   dsimp only [setL, delL] at H
   refine RW.nil ?_
   refine blkQ_normal ?_
   refine W.rg [(9, ra), (10, rb), (11, .int .i64 ((i : Nat) : Int)), (12, .int .i64 ((j : Nat) : Int))] fun TA => ?_
   refine W.region ?_
   refine RW.v ?_
   refine RW.valE (v' := .int .i64 (((j : Nat) : Int) + 1)) (by kernel_rfl) (by kernel_rfl) rfl (congrArg (Value.int .i64) (wrap_in (by omega) (by omega))) (by kernel_rfl) ?_
   refine RW.v ?_
   refine RW.nil ?_
   exact ⟨rfl, mm2 - 1, by omega, j + 1, _, (by omega), H, rfl, rfl, rfl, rfl⟩
  ·have hc35b := hc35
   have hc35 := of_decide_eq_false hc35
   refine W.exit _ ?_
   refine seqQ_exit ?_
   refine rndQ_exit ?_
   refine blkQ_here ?_
   refine blkQ_normal ?_
   refine W.region ?_
   refine RW.v ?_
   refine RW.valE (v' := .int .i64 (((i : Nat) : Int) + 1)) (by kernel_rfl) (by kernel_rfl) rfl (congrArg (Value.int .i64) (wrap_in (by omega) (by omega))) (by kernel_rfl) ?_
   refine RW.v ?_
   refine RW.nil ?_
   replace H := ((H.del 1).del 0)
   exact ⟨rfl, mm - 1, by omega, i + 1, (by omega), H, rfl, rfl, rfl⟩
 ·have hc16b := hc16
  have hc16 := of_decide_eq_false hc16
  refine W.exit _ ?_
  refine seqQ_exit ?_
  refine rndQ_exit ?_
  refine blkQ_here ?_
  refine W.seq (W.region ?_)
  refine RW.v ?_
  refine RW.nil ?_
  refine W.ret ?_
  refine endG (by rfl) (by exact resL_tmp rfl) ?_
  obtain rfl : i = M.length := by omega
  rw [show ws.drop M.length = [] from List.drop_of_length_le (by rw [hw]; exact Nat.le_refl _), show us.drop M.length = [] from List.drop_of_length_le (by rw [hu]; exact Nat.le_refl _), List.drop_length] at H
  exact ⟨rfl, ((H.del 6).del 5)⟩
end
end Go.Proofs.YthemeeiedlbhkaaGreatDoor
namespace Go.Proofs.YthemeeiedlbhkaaGreatDoor
set_option maxRecDepth 100000
section
variable {A : Abs} {σ : Mem} {F : Nat → Option Blk2} {L : List Ent} {q r w : Nat} {ev mv mr nv v : Value} {s : RS}
theorem P_copy (ok : s.Ok) (hp : StP F ev mv s) (H : Lies G65 A F σ (PE q r ev mv s ++ L)) : WC G65 Tryz.prog 12 #[.pointer (some ⟨q, 0, none⟩)] σ fun u σ' => ∃ q' r', u = .pointer (some ⟨q', 0, none⟩) ∧ ∃ F' ev' mv', Le F F' ∧ StP F' ev' mv' s ∧ Lies G65 A F' σ' (PE q' r' ev' mv' s ++ (PE q r ev mv s ++ L)) := by
 obtain ⟨on, E, M, ct⟩ := s
 obtain ⟨⟨vs, hmv, hall⟩, hv⟩ := hp
 refine (p_copy (H.get 1 rfl) (H.get 0 rfl) (gr_slf (H.sl 2 rfl)) (hmv.le H.old) (hall.le H.old) ok.2.2.2.1 ok.2.2.1 ok.2.1 hv (Lies.start H.gn H.abs)).mono ?_
 rintro _ σ' ⟨q', r', rfl, ev', mv', us, hu, hv', K⟩
 rw [List.append_nil] at K
 have K2 := Lies.rot (B := [.at_ r' (.row ⟨[.bool on, ev', mv', .int .i64 ct], 90, false⟩), .at_ q' (.row ⟨[.pointer (some ⟨r', 0, none⟩)], 92, false⟩), .sl 3 1 ev' E.length (E.map (Value.int .i64))]) (X := .sl 48 1 mv' M.length us :: ents us M) (H.then K)
 obtain ⟨F', l1, h1, K3⟩ := ring_frozen hu K2
 exact ⟨q', r', rfl, F', ev', mv', l1, ⟨h1, hv'⟩, K3⟩
theorem R_copy (ok : s.Ok) (hr : StR F mr nv v s) (H : Lies G65 A F σ (RE w mr nv v s ++ L)) : WC G65 Tryz.prog 13 #[.pointer (some ⟨w, 0, none⟩)] σ fun u σ' => ∃ w', u = .pointer (some ⟨w', 0, none⟩) ∧ ∃ F' mr' nv' v', Le F F' ∧ StR F' mr' nv' v' s ∧ Lies G65 A F' σ' (RE w' mr' nv' v' s ++ (RE w mr nv v s ++ L)) := by
 obtain ⟨on, E, M, ct⟩ := s
 obtain ⟨⟨vs, hmv, hall⟩, hn⟩ := hr
 refine (r_copy (H.get 0 rfl) (now_slk hn H (H.sl 1 rfl)) (hmv.le H.old) (hall.le H.old) ok.2.2.2.1 ok.2.2.1 ok.2.1 (Lies.start H.gn H.abs)).mono ?_
 rintro _ σ' ⟨w', rfl, mv', us, nv', x, hu, hx, K⟩
 rw [List.append_nil] at K
 have K2 := Lies.rot (B := [.at_ w' (.row ⟨[mv', .bool on, nv', .int .i64 ct], 94, false⟩), x]) (X := .sl 48 1 mv' M.length us :: ents us M) (H.then K)
 obtain ⟨F', l1, h1, K3⟩ := ring_frozen hu K2
 rcases hx with rfl | ⟨hE0, b, rfl, rfl⟩
 ·exact ⟨w', rfl, F', mv', nv', nv', l1, ⟨h1, .inl rfl⟩, K3⟩
 ·dsimp only at hE0
  subst hE0
  obtain ⟨F2, l2, h2, K4⟩ := Lies.freeze K3 1 rfl
  exact ⟨w', rfl, F2, mv', _, _, fun b y h => l2 _ _ (l1 _ _ h), ⟨h1.le l2, .inr ⟨rfl, b, _, _, rfl, h2⟩⟩, (Lies.nilSl K4 3 1).front 1 rfl⟩
theorem new_ok : RS.Ok ⟨false, [], [], 0⟩ := ⟨fun _ => rfl, Nat.zero_le _, Nat.zero_le _, fun _ h => (by cases h), by decide, by decide⟩
theorem getA_mem {l : List Wd} {j : Nat} (h : j < l.length) : l.getD j (0, 0) ∈ l := by
 rw [List.getD_eq_getElem?_getD, List.getElem?_eq_getElem h]
 exact List.getElem_mem h
end
set_option maxHeartbeats 16000000 in
theorem rec_law {σ0 : Mem} {v1 : Value} {l : List Wd} (hG : G65 ≤ σ0.next) (hno : σ0.abs = Abs.no) (CK : ∀ σ', (∀ b y, σ0.get b = some y → σ'.get b = some y) → SCall G65 Tryz.prog 8 #[] σ' (.bool true) σ') (hl : SlF σ0.get 2 v1 l.length (wdC l)) (hb : ∀ x ∈ l, (-9223372036854775808 ≤ x.1 ∧ x.1 ≤ 9223372036854775807) ∧ (-9223372036854775808 ≤ x.2 ∧ x.2 ≤ 9223372036854775807)) :
  WC G65 Tryz.prog 3 #[v1] σ0 fun v _ => v = .bool true := by
 have H := Lies.start hG hno
 generalize σ0.get = F0 at H hl CK
 obtain ⟨F, hF⟩ : ∃ F, F = F0 := ⟨_, rfl⟩
 have le0 : Le F0 F := fun b y h => hF ▸ h
 rw [← hF] at H
 clear hF
 refine WC.enter (fn := Tryz.f3) Tryz.func3 rfl ?_
 refine W.rg [(0, v1)] fun TA => ?_
 refine W.seq (W.region ?_)
 refine RW.v ?_
 refine RW.nil ?_
 refine W.rg [(0, v1)] fun TA => ?_
 refine W.seq ?_
 refine W.seq (W.region ?_)
 refine RW.v ?_
 refine RW.len (by kernel_rfl) (by kernel_rfl) rfl rfl rfl rfl ((hl.le le0).len (e := 30) (by kernel_rfl)) (by kernel_rfl) ?_
 refine RW.v ?_
 refine RW.nil ?_
 refine W.rg [(0, v1), (9, .bool (decide ((l.length : Int) > 200)))] fun TA => ?_
 refine W.cond rfl (fun hc1 => ?_) (fun hc1 => ?_)
 ·have hc1b := hc1
  have hc1 := of_decide_eq_true hc1
  refine W.seq (W.region ?_)
  refine RW.cl ?_
  refine ⟨_, _, (CK _ fun b y h => H.old _ _ (le0 b y h)), ?_⟩
  refine RW.v ?_
  refine RW.nil ?_
  refine W.ret ?_
  refine seqQ_ret ?_
  refine endG (by rfl) (by exact resL_tmp rfl) ?_
  exact rfl
 ·have hc1b := hc1
  have hc1 := of_decide_eq_false hc1
  refine W.skip ?_
  refine W.seq (W.region ?_)
  refine RW.cl ?_
  refine WC.enter (fn := Tryz.f9) Tryz.func9 rfl ?_
  refine W.rg [] fun TA => ?_
  refine W.seq (W.region ?_)
  refine RW.v ?_
  refine RW.nil ?_
  refine W.rg [] fun TA => ?_
  refine W.seq (W.region ?_)
  refine RW.val (v := .agg #[.bool false, .slice none 0 0, .slice none 0 0, .int .i64 0]) (by kernel_rfl) (by kernel_rfl) (by kernel_rfl) (by kernel_rfl) ?_
  refine RW.mk H (.row ⟨[.bool false, .slice none 0 0, .slice none 0 0, .int .i64 0], 90, false⟩) ?_
  clear H; intro _ b2 _ H
  refine RW.val (v := .agg #[.pointer (some ⟨b2, 0, none⟩)]) (by kernel_rfl) (by kernel_rfl) (by kernel_rfl) (by kernel_rfl) ?_
  refine RW.mk H (.row ⟨[pt b2], 92, false⟩) ?_
  clear H; intro _ b3 _ H
  refine RW.v ?_
  refine RW.nil ?_
  refine W.ret ?_
  refine endG (by rfl) (by exact resL_tmp rfl) ?_
  refine RW.cl ?_
  refine WC.enter (fn := Tryz.f10) Tryz.func10 rfl ?_
  refine W.rg [] fun TA => ?_
  refine W.seq (W.region ?_)
  refine RW.v ?_
  refine RW.nil ?_
  refine W.rg [] fun TA => ?_
  refine W.seq (W.region ?_)
  refine RW.val (v := .agg #[.slice none 0 0, .bool false, .slice none 0 0, .int .i64 0]) (by kernel_rfl) (by kernel_rfl) (by kernel_rfl) (by kernel_rfl) ?_
  refine RW.mk H (.row ⟨[.slice none 0 0, .bool false, .slice none 0 0, .int .i64 0], 94, false⟩) ?_
  clear H; intro _ b4 _ H
  refine RW.v ?_
  refine RW.nil ?_
  refine W.ret ?_
  refine endG (by rfl) (by exact resL_tmp rfl) ?_
  iterate 2 refine RW.v ?_
  refine RW.nil ?_
  refine W.rg [(0, v1), (3, pp b3), (4, pp b4)] fun TA => ?_
  refine W.seq ?_
  refine W.seq (W.region ?_)
  refine RW.v ?_
  refine RW.nil ?_
  refine W.rg [(0, v1), (3, pp b3), (4, pp b4), (5, .int .i64 0)] fun TA => ?_
  refine W.block ?_
  replace H := (H.nilSl 3 1).nilSl 3 1
  replace H := H.front 1 rfl
  dsimp only [delL] at H
  replace H := H.front 2 rfl
  dsimp only [delL] at H
  replace H := H.front 2 rfl
  dsimp only [delL] at H
  replace H := H.front 3 rfl
  dsimp only [delL] at H
  replace H := H.front 4 rfl
  dsimp only [delL] at H
  refine W.loop (fun mm ta σ => ∃ (i : Nat) (F : Nat → Option Blk2) (s : RS) (q : Nat) (r : Nat) (ev : Value) (mv : Value) (w : Nat) (mr : Value) (nv : Value) (v : Value), (mm + i = l.length) ∧ (Le F0 F) ∧ (s.Ok) ∧ (StP F ev mv s) ∧ (StR F mr nv v s) ∧ Lies G65 Abs.no F σ ((PE q r ev mv s ++ (RE w mr nv v s ++ ([])))) ∧ ta 0 = v1 ∧ ta 3 = .pointer (some ⟨q, 0, none⟩) ∧ ta 4 = .pointer (some ⟨w, 0, none⟩) ∧ ta 5 = .int .i64 ((i : Nat) : Int)) l.length ?_ ?_
  ·exact ⟨0, F, ⟨false, [], [], 0⟩, b3, b2, .slice none 0 0, .slice none 0 0, b4, .slice none 0 0, .slice none 0 0, .slice none 0 0, (by omega), le0, new_ok, ⟨⟨[], .nil, trivial⟩, fun _ => rfl⟩, ⟨⟨[], .nil, trivial⟩, .inl rfl⟩, H, rfl, rfl, rfl, rfl⟩
  clear H
  rintro mm ta _ ⟨i, F, s, q, r, ev, mv, w, mr, nv, v, hm, le0, ok, hp, hr, H, e0, e3, e4, e5⟩
  refine W.rst [(0, v1), (3, .pointer (some ⟨q, 0, none⟩)), (4, .pointer (some ⟨w, 0, none⟩)), (5, .int .i64 ((i : Nat) : Int))] ⟨e0, e3, e4, e5, trivial⟩ fun TA => ?_
  clear e0 e3 e4 e5
  refine W.seq ?_
  refine W.seq (W.region ?_)
  iterate 2 refine RW.v ?_
  refine RW.len (by kernel_rfl) (by kernel_rfl) rfl rfl rfl rfl ((hl.le le0).len (e := 30) (by kernel_rfl)) (by kernel_rfl) ?_
  refine RW.v ?_
  refine RW.nil ?_
  refine W.rg [(0, v1), (3, pp q), (4, pp w), (5, .int .i64 ((i : Nat) : Int)), (16, .bool (decide (((i : Nat) : Int) < (l.length : Int))))] fun TA => ?_
  refine W.cond rfl (fun hc5 => ?_) (fun hc5 => ?_)
  ·have hc5b := hc5
   have hc5 := of_decide_eq_true hc5
   have hil : i < l.length := by omega
   have hx := hb _ (getA_mem hil)
   refine W.skip ?_
   refine W.seq ?_
   refine W.block ?_
   refine W.seq ?_
   refine W.seq (W.region ?_)
   iterate 2 refine RW.v ?_
   refine RW.idxF (hl.le le0) (by kernel_rfl) (by kernel_rfl) rfl Tryz.underlying22 (by kernel_rfl) rfl rfl ⟨by omega, by omega⟩ (by kernel_rfl) ?_
   intro b6 q7 r8 hF9 hE10
   rw [wdC_at (l := l) (j := i) (by omega)] at hE10
   refine RW.v ?_
   refine RW.loads 1 (by kernel_rfl) (by kernel_rfl) rfl rfl (H.old _ _ hF9) (sub_take hE10 0 1 (by decide)) rfl (by kernel_rfl) ?_
   refine RW.cl ?_
   refine ⟨_, _, (s_pick (G := G65) ((l.getD i (0, 0)).1) 13 (by omega) (by omega) (by decide) (by decide)), ?_⟩
   refine RW.v ?_
   refine RW.nil ?_
   refine W.rg [(0, v1), (3, pp q), (4, pp w), (5, .int .i64 ((i : Nat) : Int)), (25, .bool ((pickOf ((l.getD i (0, 0)).1) 13) == 12))] fun TA => ?_
   refine W.cond rfl (fun hc11 => ?_) (fun hc11 => ?_)
   ·have hc11b := hc11
    have hc11 := eq_of_beq hc11
    refine W.seq (W.region ?_)
    iterate 2 refine RW.v ?_
    refine RW.nil ?_
    refine W.rg [(0, v1), (3, pp q), (4, pp w), (5, .int .i64 ((i : Nat) : Int)), (6, pp q)] fun TA => ?_
    refine W.seq (W.region ?_)
    refine RW.v ?_
    refine RW.cl ?_
    refine ((P_copy ok hp H).mono ?_)
    clear H
    rintro _ _ ⟨q2, r2, rfl, F, ev2, mv2, le, hp2, H⟩
    replace le0 := fun b y h => le b y (le0 b y h)
    replace hp := hp.le le
    replace hr := hr.le le
    refine RW.v ?_
    replace H := Lies.rot (B := PE q2 r2 ev2 mv2 s ++ PE q r ev mv s) (X := RE w mr nv v s) H
    refine RW.cl ?_
    refine ((R_copy ok hr H).mono ?_)
    clear H
    rintro _ _ ⟨w2, rfl, F, mr2, nv2, v2, le, hr2, H⟩
    replace le0 := fun b y h => le b y (le0 b y h)
    replace hp := hp.le le
    replace hp2 := hp2.le le
    replace hr := hr.le le
    have K : Lies G65 (Abs.no) F _ (RE w2 mr2 nv2 v2 s ++ (PE q2 r2 ev2 mv2 s ++ (PE q r ev mv s ++ []))) := (H.del 3).del 2
    clear H
    have H := Lies.rot (B := RE w2 mr2 nv2 v2 s) (X := PE q2 r2 ev2 mv2 s) K
    clear K
    replace H : Lies G65 (Abs.no) F _ (PE q2 r2 ev2 mv2 s ++ (RE w2 mr2 nv2 v2 s ++ (PE q r ev mv s ++ []))) := H
    iterate 2 refine RW.v ?_
    refine RW.nil ?_
    refine W.rg [(0, v1), (3, pp q2), (4, pp w2), (5, .int .i64 ((i : Nat) : Int)), (6, pp q)] fun TA => ?_
    refine W.seq (W.region ?_)
    refine RW.v ?_
    refine RW.cl ?_
    refine ((P_start false ok hp (Lies.rot (B := ([] ++ (PE q2 r2 ev2 mv2 s ++ (RE w2 mr2 nv2 v2 s)))) (X := PE q r ev mv s) H)).mono ?_)
    rintro _ _ ⟨rfl, F, ev12, mv13, le, hp, K14⟩
    clear H
    have H : Lies G65 (Abs.no) F _ ((PE q2 r2 ev2 mv2 s ++ (RE w2 mr2 nv2 v2 s ++ (PE q r ev12 mv13 (start s false).2 ++ ([]))))) := Lies.rot (B := PE q r ev12 mv13 (start s false).2) (X := ([] ++ (PE q2 r2 ev2 mv2 s ++ (RE w2 mr2 nv2 v2 s)))) K14
    clear K14
    replace le0 := fun b y h => le b y (le0 b y h)
    replace hp2 := hp2.le le
    replace hr2 := hr2.le le
    refine RW.nil ?_
    refine W.rg [(0, v1), (3, pp q2), (4, pp w2), (5, .int .i64 ((i : Nat) : Int)), (6, pp q)] fun TA => ?_
    refine W.seq (W.region ?_)
    refine RW.v ?_
    refine RW.cl ?_
    refine ((P_record 5 (start_ok ok) hp (Lies.rot (B := ([] ++ (PE q2 r2 ev2 mv2 s ++ (RE w2 mr2 nv2 v2 s)))) (X := PE q r ev12 mv13 (start s false).2) H)).mono ?_)
    rintro _ _ ⟨rfl, F, ev15, mv16, le, hp, K17⟩
    clear H
    have H : Lies G65 (Abs.no) F _ ((PE q2 r2 ev2 mv2 s ++ (RE w2 mr2 nv2 v2 s ++ (PE q r ev15 mv16 (record (start s false).2 5).2 ++ ([]))))) := Lies.rot (B := PE q r ev15 mv16 (record (start s false).2 5).2) (X := ([] ++ (PE q2 r2 ev2 mv2 s ++ (RE w2 mr2 nv2 v2 s)))) K17
    clear K17
    replace le0 := fun b y h => le b y (le0 b y h)
    replace hp2 := hp2.le le
    replace hr2 := hr2.le le
    refine RW.nil ?_
    refine W.rg [(0, v1), (3, pp q2), (4, pp w2), (5, .int .i64 ((i : Nat) : Int)), (6, pp q)] fun TA => ?_
    refine W.region ?_
    refine RW.v ?_
    refine RW.cl ?_
    refine ((P_stop 0 (record_ok (start_ok ok)) hp (Lies.rot (B := ([] ++ (PE q2 r2 ev2 mv2 s ++ (RE w2 mr2 nv2 v2 s)))) (X := PE q r ev15 mv16 (record (start s false).2 5).2) H)).mono ?_)
    rintro _ _ ⟨rfl, F, ev18, mv19, le, hp, K20⟩
    clear H
    have H : Lies G65 (Abs.no) F _ ((PE q2 r2 ev2 mv2 s ++ (RE w2 mr2 nv2 v2 s ++ (PE q r ev18 mv19 (stop (record (start s false).2 5).2 0).2 ++ ([]))))) := Lies.rot (B := PE q r ev18 mv19 (stop (record (start s false).2 5).2 0).2) (X := ([] ++ (PE q2 r2 ev2 mv2 s ++ (RE w2 mr2 nv2 v2 s)))) K20
    clear K20
    replace le0 := fun b y h => le b y (le0 b y h)
    replace hp2 := hp2.le le
    replace hr2 := hr2.le le
    refine RW.nil ?_
    refine W.rg [(0, v1), (3, pp q2), (4, pp w2), (5, .int .i64 ((i : Nat) : Int))] fun TA => ?_
    refine W.seq (W.region ?_)
    iterate 4 refine RW.v ?_
    refine RW.idxF (hl.le le0) (by kernel_rfl) (by kernel_rfl) rfl Tryz.underlying22 (by kernel_rfl) rfl rfl ⟨by omega, by omega⟩ (by kernel_rfl) ?_
    intro b21 q22 r23 hF24 hE25
    rw [wdC_at (l := l) (j := i) (by omega)] at hE25
    refine RW.loads 2 (by kernel_rfl) (by kernel_rfl) rfl rfl (H.old _ _ hF24) hE25 rfl (by kernel_rfl) ?_
    refine RW.cl ?_
    refine ((acts_wc (k := (l.getD i (0, 0)).1) (n := (l.getD i (0, 0)).2) ok hx.2.1 hx.2.2 hx.1.1 hx.1.2 hp2 hr2 H).mono ?_)
    clear H
    rintro _ _ ⟨rfl, F, s3, ev3, mv3, mr3, nv3, v3, le, ok, hp, hr, H⟩
    replace le0 := fun b y h => le b y (le0 b y h)
    replace H : Lies G65 (Abs.no) F _ (PE q2 r2 ev3 mv3 s3 ++ (RE w2 mr3 nv3 v3 s3 ++ [])) := ((H.del 7).del 6).del 5
    iterate 2 refine RW.v ?_
    refine RW.val (by rfl) (by kernel_rfl) rfl (by kernel_rfl) ?_
    refine RW.val (by rfl) (by kernel_rfl) rfl (by kernel_rfl) ?_
    refine RW.cl (hw := by rfl) ?_
    refine ((alike_wc ok hp hr H).mono ?_)
    clear H
    rintro _ _ ⟨rfl, H⟩
    refine RW.val (by rfl) (by kernel_rfl) rfl (by kernel_rfl) ?_
    refine RW.v ?_
    refine RW.nil ?_
    refine W.c0 ?_
    refine W.skip ?_
    refine blkQ_normal ?_
    refine W.region ?_
    refine RW.v ?_
    refine RW.valE (v' := .int .i64 (((i : Nat) : Int) + 1)) (by kernel_rfl) (by kernel_rfl) rfl (congrArg (Value.int .i64) (wrap_in (by omega) (by omega))) (by kernel_rfl) ?_
    refine RW.v ?_
    refine RW.nil ?_
    exact ⟨rfl, mm - 1, by omega, i + 1, F, _, _, _, _, _, _, _, _, _, (by omega), le0, ok, hp, hr, H, rfl, rfl, rfl, rfl⟩
   ·have hc11b := hc11
    have hc11 := ne_of_beq_false hc11
    refine W.skip ?_
    refine W.seq (W.region ?_)
    iterate 4 refine RW.v ?_
    refine RW.idxF (hl.le le0) (by kernel_rfl) (by kernel_rfl) rfl Tryz.underlying22 (by kernel_rfl) rfl rfl ⟨by omega, by omega⟩ (by kernel_rfl) ?_
    intro b26 q27 r28 hF29 hE30
    rw [wdC_at (l := l) (j := i) (by omega)] at hE30
    refine RW.loads 2 (by kernel_rfl) (by kernel_rfl) rfl rfl (H.old _ _ hF29) hE30 rfl (by kernel_rfl) ?_
    refine RW.cl ?_
    refine ((acts_wc (k := (l.getD i (0, 0)).1) (n := (l.getD i (0, 0)).2) ok hx.2.1 hx.2.2 hx.1.1 hx.1.2 hp hr H).mono ?_)
    clear H
    rintro _ _ ⟨rfl, F, s3, ev3, mv3, mr3, nv3, v3, le, ok, hp, hr, H⟩
    replace le0 := fun b y h => le b y (le0 b y h)
    iterate 2 refine RW.v ?_
    refine RW.val (by rfl) (by kernel_rfl) rfl (by kernel_rfl) ?_
    refine RW.val (by rfl) (by kernel_rfl) rfl (by kernel_rfl) ?_
    refine RW.cl (hw := by rfl) ?_
    refine ((alike_wc ok hp hr H).mono ?_)
    clear H
    rintro _ _ ⟨rfl, H⟩
    refine RW.val (by rfl) (by kernel_rfl) rfl (by kernel_rfl) ?_
    refine RW.v ?_
    refine RW.nil ?_
    refine W.c0 ?_
    refine W.skip ?_
    refine blkQ_normal ?_
    refine W.region ?_
    refine RW.v ?_
    refine RW.valE (v' := .int .i64 (((i : Nat) : Int) + 1)) (by kernel_rfl) (by kernel_rfl) rfl (congrArg (Value.int .i64) (wrap_in (by omega) (by omega))) (by kernel_rfl) ?_
    refine RW.v ?_
    refine RW.nil ?_
    exact ⟨rfl, mm - 1, by omega, i + 1, F, _, _, _, _, _, _, _, _, _, (by omega), le0, ok, hp, hr, H, rfl, rfl, rfl, rfl⟩
  ·have hc5b := hc5
   have hc5 := of_decide_eq_false hc5
   refine W.exit _ ?_
   refine seqQ_exit ?_
   refine rndQ_exit ?_
   refine blkQ_here ?_
   refine W.seq (W.region ?_)
   refine RW.cl ?_
   refine ⟨_, _, (CK _ fun b y h => H.old _ _ (le0 b y h)), ?_⟩
   refine RW.v ?_
   refine RW.nil ?_
   refine W.ret ?_
   refine endG (by rfl) (by exact resL_tmp rfl) ?_
   exact rfl
end Go.Proofs.YthemeeiedlbhkaaGreatDoor
