/-
  Both recorders are called alike. Conditions: none.
  Both recorders are in the same state. Conditions: none.
  CommandRecords in the second memory. Conditions: none.
-/
import Derived.Test.YthemeeiedlbhkaaGreatDoorK3
namespace Go.Proofs.YthemeeiedlbhkaaGreatDoor
set_option maxRecDepth 100000
def StP (F : Nat → Option Blk2) (ev mv : Value) (s : RS) : Prop := MacF F mv s.M ∧ (s.E.length = 0 → ev = .slice none 0 0)
def StR (F : Nat → Option Blk2) (mr nv v : Value) (s : RS) : Prop := MacF F mr s.M ∧ NowK F nv v
theorem StP.le {F F' : Nat → Option Blk2} {ev mv : Value} {s : RS} (h : StP F ev mv s) (k : Le F F') : StP F' ev mv s := ⟨h.1.le k, h.2⟩
theorem StR.le {F F' : Nat → Option Blk2} {mr nv v : Value} {s : RS} (h : StR F mr nv v s) (k : Le F F') : StR F' mr nv v s := ⟨h.1.le k, h.2.le k⟩
section
variable {G : Nat} {A : Abs} {σ : Mem} {F : Nat → Option Blk2} {L : List Ent} {q r w : Nat} {ev mv mr nv v : Value} {s : RS}
theorem RS.Ok.getD (h : s.Ok) : (s.M.getD 0 []).length ≤ 10000 := by
  rcases Nat.eq_zero_or_pos s.M.length with h0 | h0
  · rw [List.eq_nil_of_length_eq_zero h0]
    exact Nat.zero_le _
  · exact (mac_in h.2.2.2.1 h0).2
theorem play_ok {n : Int} (h : s.Ok) : (play s n).2.2.Ok := by
  have h5 := h.2.2.2.2
  unfold play
  split
  · exact h
  · split
    · exact h
    · split
      · exact h
      · split
        · exact h
        · refine ⟨h.1, h.2.1, h.2.2.1, h.2.2.2.1, ?_⟩
          show _ ≤ min s.ct (2305843009213693951 - n) + n ∧ min s.ct (2305843009213693951 - n) + n ≤ _
          omega
theorem P_start (x : Bool) (ok : s.Ok) (hp : StP F ev mv s) (H : Lies G A F σ (PE q r ev mv s ++ L)) : WC G Tryz.prog 14 #[.pointer (some ⟨q, 0, none⟩), .bool x] σ fun u σ' => u = .int .i64 (start s x).1 ∧ ∃ F' ev' mv', Le F F' ∧ StP F' ev' mv' (start s x).2 ∧ Lies G A F' σ' (PE q r ev' mv' (start s x).2 ++ L) := by
  obtain ⟨on, E, M, ct⟩ := s
  exact (p_start (x := x) (n := 0) (d := 0) ok.2.2.2.1 ok.2.2.1 ok.2.1 hp.1 hp.2 H).mono fun _ _ ⟨h1, F', ev', mv', h2, h3, h4, h5⟩ => ⟨h1, F', ev', mv', h2, ⟨h3, h4⟩, h5⟩
theorem P_record (n : Int) (ok : s.Ok) (hp : StP F ev mv s) (H : Lies G A F σ (PE q r ev mv s ++ L)) : WC G Tryz.prog 15 #[.pointer (some ⟨q, 0, none⟩), .int .i64 n] σ fun u σ' => u = .int .i64 (record s n).1 ∧ ∃ F' ev' mv', Le F F' ∧ StP F' ev' mv' (record s n).2 ∧ Lies G A F' σ' (PE q r ev' mv' (record s n).2 ++ L) := by
  obtain ⟨on, E, M, ct⟩ := s
  exact (p_record (x := true) (n := n) (d := 0) ok.2.2.2.1 ok.2.2.1 ok.2.1 hp.1 hp.2 H).mono fun _ _ ⟨h1, F', ev', mv', h2, h3, h4, h5⟩ => ⟨h1, F', ev', mv', h2, ⟨h3, h4⟩, h5⟩
theorem P_stop (d : Int) (ok : s.Ok) (hp : StP F ev mv s) (H : Lies G A F σ (PE q r ev mv s ++ L)) : WC G Tryz.prog 16 #[.pointer (some ⟨q, 0, none⟩), .int .i64 d] σ fun u σ' => u = .int .i64 (stop s d).1 ∧ ∃ F' ev' mv', Le F F' ∧ StP F' ev' mv' (stop s d).2 ∧ Lies G A F' σ' (PE q r ev' mv' (stop s d).2 ++ L) := by
  obtain ⟨on, E, M, ct⟩ := s
  exact (p_stop (x := true) (n := 0) (d := d) ok.2.2.2.1 ok.2.2.1 ok.2.1 hp.1 hp.2 H).mono fun _ _ ⟨h1, F', ev', mv', h2, h3, h4, h5⟩ => ⟨h1, F', ev', mv', h2, ⟨h3, h4⟩, h5⟩
theorem P_rotate (n : Int) (ok : s.Ok) (hp : StP F ev mv s) (H : Lies G A F σ (PE q r ev mv s ++ L)) : WC G Tryz.prog 27 #[.pointer (some ⟨q, 0, none⟩), .int .i64 n] σ fun u σ' => u = .int .i64 (rotate s n).1 ∧ ∃ F' ev' mv', Le F F' ∧ StP F' ev' mv' (rotate s n).2 ∧ Lies G A F' σ' (PE q r ev' mv' (rotate s n).2 ++ L) := by
  obtain ⟨on, E, M, ct⟩ := s
  exact (p_rotate (x := true) (n := n) (d := 0) ok.2.2.2.1 ok.2.2.1 ok.2.1 hp.1 hp.2 H).mono fun _ _ ⟨h1, F', ev', mv', h2, h3, h4, h5⟩ => ⟨h1, F', ev', mv', h2, ⟨h3, h4⟩, h5⟩
theorem P_play (n : Int) (ok : s.Ok) (hp : StP F ev mv s) (H : Lies G A F σ (PE q r ev mv s ++ L)) : WC G Tryz.prog 23 #[.pointer (some ⟨q, 0, none⟩), .int .i64 n] σ fun u σ' => ∃ rv, u = .tuple #[rv, .int .i64 (play s n).1] ∧ ∃ F' ev' mv', Le F F' ∧ SlF F' 1 rv (play s n).2.1.length ((play s n).2.1.map (Value.int .i64)) ∧ StP F' ev' mv' (play s n).2.2 ∧ Lies G A F' σ' (PE q r ev' mv' (play s n).2.2 ++ L) := by
  obtain ⟨on, E, M, ct⟩ := s
  exact (p_play (x := true) (n := n) (d := 0) ok.2.2.2.2.1 ok.2.2.2.2.2 ok.2.2.2.1 ok.2.2.1 hp.1 hp.2 H).mono fun _ _ ⟨rv, h1, F', ev', mv', h2, h0, h3, h4, h5⟩ => ⟨rv, h1, F', ev', mv', h2, h0, ⟨h3, h4⟩, h5⟩
end
end Go.Proofs.YthemeeiedlbhkaaGreatDoor
namespace Go.Proofs.YthemeeiedlbhkaaGreatDoor
set_option maxRecDepth 100000
section
variable {G : Nat} {A : Abs} {σ : Mem} {F : Nat → Option Blk2} {L : List Ent} {q r w : Nat} {ev mv mr nv v : Value} {s : RS}
end
end Go.Proofs.YthemeeiedlbhkaaGreatDoor
namespace Go.Proofs.YthemeeiedlbhkaaGreatDoor
set_option maxRecDepth 100000
section
variable {G : Nat} {A : Abs} {σ : Mem} {F : Nat → Option Blk2} {L : List Ent} {q r w : Nat} {ev mv mr nv v : Value} {s : RS}
theorem new_ok : RS.Ok ⟨false, [], [], 0⟩ := ⟨fun _ => rfl, Nat.zero_le _, Nat.zero_le _, fun _ h => (by cases h), by decide, by decide⟩
end
end Go.Proofs.YthemeeiedlbhkaaGreatDoor
