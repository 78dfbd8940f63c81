/-
  A slice of numbers among a law's arguments, in the second memory; nil has no room. Conditions: none.
  A slice of slices of numbers among a law's arguments, in the second memory: a row for each. Conditions: none.
  Rows of cells among a law's arguments, in the second memory. Conditions: none.
  Rows of a screen among a law's arguments, in the second memory: a row for each slice. Conditions: none.
  A slice of rows of a screen among a law's arguments: its own row, then those of cells, then those of positions. Conditions: none.
-/
import Derived.Test.YtmmapljeeccdnaaDoorK1
import Derived.Test.YtmmapljeeccdnaaDoorOpen
import Derived.Test.YtmmapljeeccdnaaDoorS3
import Derived.Deep.Matrix
import Derived.Test.YtmmapljeeccdnaaDoorRows
import Derived.Deep.Slices
namespace Go.Proofs.YtmmapljeeccdnaaDoor
open Go.ChangeShapes Go.WideShapes Go.ChangeAt Go.RowKit
set_option maxRecDepth 100000
end Go.Proofs.YtmmapljeeccdnaaDoor
namespace Go.Proofs.YtmmapljeeccdnaaDoor
open Go.ChangeShapes Go.WideShapes Go.ChangeAt Go.RowKit
set_option maxRecDepth 100000
theorem addr_plain (b off j : Nat) : (⟨b, off, none⟩ : Addr).add j = ⟨b, off + j, none⟩ := by unfold Addr.add; split <;> simp_all
def AllF (F : Nat → Option Blk2) : List Value → List (List Int) → Prop
  | [], [] => True
  | v :: vs, l :: M => SlF F 1 v l.length (l.map (Value.int .i64)) ∧ AllF F vs M
  | _, _ => False
theorem AllF.le {F F' : Nat → Option Blk2} (k : Le F F') : ∀ {vs : List Value} {M : List (List Int)}, AllF F vs M → AllF F' vs M
  | [], [], _ => trivial
  | _ :: _, _ :: _, h => ⟨h.1.le k, AllF.le k h.2⟩
theorem AllF.len {F : Nat → Option Blk2} : ∀ {vs : List Value} {M : List (List Int)}, AllF F vs M → vs.length = M.length
  | [], [], _ => rfl
  | _ :: _, _ :: _, h => congrArg (· + 1) (AllF.len h.2)
theorem AllF.get {F : Nat → Option Blk2} : ∀ {vs : List Value} {M : List (List Int)} {i : Nat}, AllF F vs M → i < M.length → SlF F 1 (vs.getD i undef) (M.getD i []).length ((M.getD i []).map (Value.int .i64))
  | [], [], i, _, hi => absurd hi (Nat.not_lt_zero _)
  | _ :: _, _ :: _, 0, h, _ => h.1
  | _ :: _, _ :: _, i + 1, h, hi => AllF.get (i := i) h.2 (by simpa using hi)
end Go.Proofs.YtmmapljeeccdnaaDoor
namespace Go.Proofs.YtmmapljeeccdnaaDoor
open Go.ChangeShapes Go.WideShapes Go.ChangeAt Go.RowKit
set_option maxRecDepth 100000
structure Cel where
  a : Int
  b : Int
  c : Int
  d : Bool
  e : Bool
  f : Bool
instance : Inhabited Cel := ⟨⟨0, 0, 0, false, false, false⟩⟩
def Cel.vs (x : Cel) : List Value := [.int .i64 x.a, .int .i64 x.b, .int .i64 x.c, .bool x.d, .bool x.e, .bool x.f]
def cC : List Cel → List Value
  | [] => []
  | x :: l => x.vs ++ cC l
theorem cC_len : ∀ l : List Cel, (cC l).length = l.length * 6
  | [] => rfl
  | x :: l => by
    show (x.vs ++ cC l).length = (l.length + 1) * 6
    rw [List.length_append, cC_len l]
    show 6 + l.length * 6 = _
    omega
theorem cC_get : ∀ {l : List Cel} {i : Nat} {u : Value}, (cC l)[i]? = some u → ∃ (j : Nat) (x : Cel) (k : Nat), l[j]? = some x ∧ x.vs[k]? = some u ∧ i = j * 6 + k
  | [], _, _, h => by simp [cC] at h
  | x :: l, i, u, h => by
    rw [show cC (x :: l) = x.vs ++ cC l from rfl] at h
    rcases Nat.lt_or_ge i 6 with hi | hi
    · rw [List.getElem?_append_left (by exact hi)] at h
      exact ⟨0, x, i, rfl, h, by omega⟩
    · rw [List.getElem?_append_right (by exact hi)] at h
      obtain ⟨j, y, k, h1, h2, h3⟩ := cC_get (l := l) h
      have h3 : i - 6 = j * 6 + k := h3
      exact ⟨j + 1, y, k, by simpa using h1, h2, by omega⟩
theorem vs_flat {x : Cel} {u : Value} (h : u ∈ x.vs) : flatV u = true := by
  simp only [Cel.vs, List.mem_cons, List.mem_nil_iff, or_false] at h
  rcases h with rfl | rfl | rfl | rfl | rfl | rfl <;> rfl
theorem cC_flat {l : List Cel} {u : Value} (h : u ∈ cC l) : flatV u = true := by
  obtain ⟨i, hi⟩ := List.getElem?_of_mem h
  obtain ⟨_, _, _, _, h2, _⟩ := cC_get hi
  exact vs_flat (List.mem_of_getElem? h2)
structure RowV where
  C : List Cel
  P : List Int
  fr : Int
  to : Int
  co : Bool
def FlatsA (w : World) (s : Nat) (v : Value) (n : Nat) (xs : List Value) : Prop :=
  ∃ A c, v = .slice A n c ∧ xs.length = n * s ∧ (A = none → c = 0) ∧ (∀ u ∈ xs, flatV u = true) ∧ (0 < n → ∃ b off, A = some ⟨b, off, none⟩ ∧ ∀ (i : Nat) u, xs[i]? = some u → w.cell? ⟨b, off + i, none⟩ = some u)
theorem arg_flatsF {w : World} {s : Nat} {v : Value} {n : Nat} {xs : List Value} (hs : 0 < s) (hh : FlatsA w s v n xs) (k : Nat) :
    ∃ (r : ARow) (v2 : Value), (∀ μ : Mu, μ (64 + k) = some ⟨r.blk, r.sh, r.cs.length, 0, 0⟩ → VRel μ v2 v) ∧ (∀ (i : Nat) u, r.cs[i]? = some u → w.cell? ⟨r.blk, r.sh + i, none⟩ = some u ∧ flatV u = true) ∧
      ∀ (σ : Mem), (r.cs ≠ [] → σ.get (64 + k) = some (.row ⟨r.cs, 0, true⟩)) → SlF σ.get s v2 n xs := by
  obtain ⟨A, c, rfl, hl, hn, hf, hA⟩ := hh
  by_cases h0 : 0 < n
  · obtain ⟨b, off, rfl, hc⟩ := hA h0
    have hpos : 0 < n * s := Nat.mul_pos h0 hs
    refine ⟨⟨b, off, xs⟩, .slice (some ⟨64 + k, 0, none⟩) n c, fun μ hm => ?_, fun i u hu => ⟨hc i u hu, hf u (List.mem_of_getElem? hu)⟩, fun σ hr => ?_⟩
    · have := VRel.sliceE (μ := μ) (64 + k) 0 n c _ hm
      simpa using this
    · have hr := hr (by intro e; have e : xs = [] := e; rw [e] at hl; simp at hl; omega)
      exact .some hr hl (by rw [List.drop_zero]; exact List.take_of_length_le (by rw [hl]; exact Nat.le_refl _))
  · obtain rfl : n = 0 := by omega
    obtain rfl : xs = [] := List.eq_nil_of_length_eq_zero (by rw [hl, Nat.zero_mul])
    cases A with
    | none =>
      obtain rfl := hn rfl
      exact ⟨⟨0, 0, []⟩, .slice none 0 0, fun μ _ => .flat _ rfl, fun i u hu => by simp at hu, fun σ _ => .nil _ rfl⟩
    | some x => exact ⟨⟨0, 0, []⟩, .chan (some c), fun μ _ => .void x c, fun i u hu => by simp at hu, fun σ _ => .void _ _ rfl⟩
section
variable {H : Type} {enc : TypeId × Value → H} {w : World}
theorem cell_open {n : Nat} {cs : List Value} {y : DataW H × List MemPlace} {base : Nat} {spare : Nat → Bool} {held : Bool} (hl : cs.length = 6) (h : DataW.trod enc Tryd.prog w base spare held n 79 cs = some y) : ∃ x : Cel, cs = x.vs := by
  obtain ⟨xs, k, hk, hxy, _, hxl, hf⟩ := DataW.trod_struct Tryd.underlying79 h
  match xs, hxl, cs, hl with
  | [y0, y1], _, [v0, v1, v2, v3, v4, v5], _ =>
    have g0 : DataW.trod enc Tryd.prog w base spare held k 3 ((([v0, v1, v2, v3, v4, v5] : List Value).drop 0).take (Tryd.prog.cellsOf 3)) = some y0 := hf 0 _ rfl
    have g1 : DataW.trod enc Tryd.prog w base spare held k 50 ((([v0, v1, v2, v3, v4, v5] : List Value).drop 1).take (Tryd.prog.cellsOf 50)) = some y1 := hf 1 _ rfl
    rw [show Tryd.prog.cellsOf 3 = 1 from by kernel_rfl] at g0
    rw [show Tryd.prog.cellsOf 50 = 5 from by kernel_rfl] at g1
    simp only [List.drop_succ_cons, List.drop_zero, List.take_succ_cons, List.take_zero] at g0 g1
    obtain ⟨z0, q0, _, _⟩ := DataW.trod_int Tryd.underlying3 g0
    obtain ⟨zs, k2, _, _, _, hzl, hg⟩ := DataW.trod_struct Tryd.underlying50 g1
    match zs, hzl with
    | [u0, u1, u2, u3, u4], _ =>
      have e0 : DataW.trod enc Tryd.prog w base spare held k2 3 ((([v1, v2, v3, v4, v5] : List Value).drop 0).take (Tryd.prog.cellsOf 3)) = some u0 := hg 0 _ rfl
      have e1 : DataW.trod enc Tryd.prog w base spare held k2 3 ((([v1, v2, v3, v4, v5] : List Value).drop 1).take (Tryd.prog.cellsOf 3)) = some u1 := hg 1 _ rfl
      have e2 : DataW.trod enc Tryd.prog w base spare held k2 4 ((([v1, v2, v3, v4, v5] : List Value).drop 2).take (Tryd.prog.cellsOf 4)) = some u2 := hg 2 _ rfl
      have e3 : DataW.trod enc Tryd.prog w base spare held k2 4 ((([v1, v2, v3, v4, v5] : List Value).drop 3).take (Tryd.prog.cellsOf 4)) = some u3 := hg 3 _ rfl
      have e4 : DataW.trod enc Tryd.prog w base spare held k2 4 ((([v1, v2, v3, v4, v5] : List Value).drop 4).take (Tryd.prog.cellsOf 4)) = some u4 := hg 4 _ rfl
      rw [show Tryd.prog.cellsOf 3 = 1 from by kernel_rfl] at e0 e1
      rw [show Tryd.prog.cellsOf 4 = 1 from by kernel_rfl] at e2 e3 e4
      obtain ⟨z1, q1, _, _⟩ := DataW.trod_int Tryd.underlying3 e0
      obtain ⟨z2, q2, _, _⟩ := DataW.trod_int Tryd.underlying3 e1
      obtain ⟨z3, q3, _⟩ := DataW.trod_bool Tryd.underlying4 e2
      obtain ⟨z4, q4, _⟩ := DataW.trod_bool Tryd.underlying4 e3
      obtain ⟨z5, q5, _⟩ := DataW.trod_bool Tryd.underlying4 e4
      simp at q0 q1 q2 q3 q4 q5
      subst q0 q1 q2 q3 q4 q5
      exact ⟨⟨z0, z1, z2, z3, z4, z5⟩, rfl⟩
theorem cells_open {n : Nat} {v : Value} {y : DataW H × List MemPlace} {held : Bool} (h : DataW.trod enc Tryd.prog w 0 (fun _ => true) held n 36 [v] = some y) : ∃ C : List Cel, FlatsA w 6 v C.length (cC C) := by
  rcases Go.Deep.open_slice Tryd.underlying36 h with ⟨hcs, _⟩ | ⟨a', len', cap', m, n, D, Pl, hcs, _, hl, hm, hmm, _, hi⟩
  · simp at hcs
    subst hcs
    exact ⟨[], none, 0, rfl, rfl, fun _ => rfl, fun u hu => by simp [cC] at hu, fun h => absurd h (by simp)⟩
  · simp at hcs
    subst hcs
    have hlm : len' ≤ m := by rw [hmm]; split <;> omega
    have each : ∀ i, i < len' → ∃ x : Cel, ∀ k u, x.vs[k]? = some u → w.cell? (a'.add (i * 6 + k)) = some u := by
      intro i hil
      obtain ⟨cs', h1, h2⟩ := hi i (by omega)
      rw [show Tryd.prog.cellsOf 79 = 6 from by kernel_rfl] at h1
      obtain ⟨_, hlen, hcell⟩ := World.cells?_some h1
      obtain ⟨x, rfl⟩ := cell_open hlen h2
      refine ⟨x, fun k u hk => ?_⟩
      have hk6 : k < 6 := (List.getElem?_eq_some_iff.1 hk).1
      have e0 := hcell k hk6
      rw [Go.Deep.add_add] at e0
      rw [e0, hk]
    obtain ⟨q, hq⟩ := Go.Deep.choose_lt each
    refine ⟨(List.range len').map q, some a', cap', by simp, by rw [cC_len], (fun h => by cases h), fun u hu => cC_flat hu, fun h0 => ?_⟩
    simp at h0
    obtain ⟨b, off, spot⟩ := a'
    have hspot : spot = none := by simpa [Addr.add] using World.cell?_spot (hq 0 h0 0 _ rfl)
    subst hspot
    refine ⟨b, off, rfl, fun i u hu => ?_⟩
    obtain ⟨j, x, k, h1, h2, rfl⟩ := cC_get hu
    have hj' : j < len' := by have := (List.getElem?_eq_some_iff.1 h1).1; simpa using this
    have hy : x = q j := by simpa [hj'] using h1.symm
    subst hy
    have := hq j hj' k u h2
    rwa [addr_plain] at this
end
end Go.Proofs.YtmmapljeeccdnaaDoor
namespace Go.Proofs.YtmmapljeeccdnaaDoor
open Go.ChangeShapes Go.WideShapes Go.ChangeAt Go.RowKit
set_option maxRecDepth 100000
section
variable {H : Type} {enc : TypeId × Value → H} {w : World}
theorem poses_open {n : Nat} {v : Value} {y : DataW H × List MemPlace} {held : Bool} (h : DataW.trod enc Tryd.prog w 0 (fun _ => true) held n 37 [v] = some y) : ∃ P : List Int, FlatsA w 1 v P.length (P.map (Value.int .i64)) := by
  rcases Go.Deep.open_slice Tryd.underlying37 h with ⟨hcs, _⟩ | ⟨a', len', cap', m, n, D, Pl, hcs, _, hl, hm, hmm, _, hi⟩
  · simp at hcs
    subst hcs
    exact ⟨[], none, 0, rfl, rfl, fun _ => rfl, fun u hu => by simp at hu, fun h => absurd h (by simp)⟩
  · simp at hcs
    subst hcs
    have hlm : len' ≤ m := by rw [hmm]; split <;> omega
    have each : ∀ i, i < len' → ∃ x : Int, w.cell? (a'.add i) = some (.int .i64 x) := by
      intro i hil
      obtain ⟨cs', h1, h2⟩ := hi i (by omega)
      rw [show Tryd.prog.cellsOf 3 = 1 from by kernel_rfl, Nat.mul_one] at h1
      obtain ⟨_, hlen, hcell⟩ := World.cells?_some h1
      obtain ⟨x, hx, _, _⟩ := DataW.trod_int Tryd.underlying3 h2
      subst hx
      have e0 := hcell 0 (by decide)
      rw [Go.Deep.add_add] at e0
      exact ⟨x, e0⟩
    obtain ⟨q, hq⟩ := Go.Deep.choose_lt each
    refine ⟨(List.range len').map q, some a', cap', by simp, by simp, (fun h => by cases h), fun u hu => ?_, fun h0 => ?_⟩
    · obtain ⟨x, _, rfl⟩ := List.mem_map.1 hu
      rfl
    · simp at h0
      obtain ⟨b, off, spot⟩ := a'
      have hspot : spot = none := by simpa [Addr.add] using World.cell?_spot (hq 0 h0)
      subst hspot
      refine ⟨b, off, rfl, fun i u hu => ?_⟩
      have hi' : i < len' := by have := (List.getElem?_eq_some_iff.1 hu).1; simpa using this
      have hy : u = .int .i64 (q i) := by simpa [hi'] using hu.symm
      subst hy
      have := hq i hi'
      rwa [addr_plain] at this
def RowsA (w : World) (v : Value) (l : List RowV) : Prop :=
  ∃ A c, v = .slice A l.length c ∧ (A = none → c = 0) ∧ (0 < l.length → ∃ b off, A = some ⟨b, off, none⟩ ∧ ∀ (j : Nat) r, l[j]? = some r → ∃ v0 v1, (w.cell? ⟨b, off + j * 5, none⟩ = some v0 ∧ w.cell? ⟨b, off + (j * 5 + 1), none⟩ = some v1 ∧ w.cell? ⟨b, off + (j * 5 + 2), none⟩ = some (.int .i64 r.fr) ∧ w.cell? ⟨b, off + (j * 5 + 3), none⟩ = some (.int .i64 r.to) ∧ w.cell? ⟨b, off + (j * 5 + 4), none⟩ = some (.bool r.co)) ∧ FlatsA w 6 v0 r.C.length (cC r.C) ∧ FlatsA w 1 v1 r.P.length (r.P.map (Value.int .i64)))
instance : Inhabited RowV := ⟨⟨[], [], 0, 0, false⟩⟩
theorem row_open {n : Nat} {cs : List Value} {y : DataW H × List MemPlace} (hl : cs.length = 5) (h : DataW.trod enc Tryd.prog w 0 (fun _ => true) true n 39 cs = some y) : ∃ (r : RowV) (v0 v1 : Value), cs = [v0, v1, .int .i64 r.fr, .int .i64 r.to, .bool r.co] ∧ FlatsA w 6 v0 r.C.length (cC r.C) ∧ FlatsA w 1 v1 r.P.length (r.P.map (Value.int .i64)) := by
  obtain ⟨xs, k, hk, hxy, _, hxl, hf⟩ := DataW.trod_struct Tryd.underlying39 h
  match xs, hxl, cs, hl with
  | [y0, y1, y2, y3, y4], _, [v0, v1, v2, v3, v4], _ =>
    have g0 : DataW.trod enc Tryd.prog w 0 (fun _ => true) true k 36 ((([v0, v1, v2, v3, v4] : List Value).drop 0).take (Tryd.prog.cellsOf 36)) = some y0 := hf 0 _ rfl
    have g1 : DataW.trod enc Tryd.prog w 0 (fun _ => true) true k 37 ((([v0, v1, v2, v3, v4] : List Value).drop 1).take (Tryd.prog.cellsOf 37)) = some y1 := hf 1 _ rfl
    have g2 : DataW.trod enc Tryd.prog w 0 (fun _ => true) true k 3 ((([v0, v1, v2, v3, v4] : List Value).drop 2).take (Tryd.prog.cellsOf 3)) = some y2 := hf 2 _ rfl
    have g3 : DataW.trod enc Tryd.prog w 0 (fun _ => true) true k 3 ((([v0, v1, v2, v3, v4] : List Value).drop 3).take (Tryd.prog.cellsOf 3)) = some y3 := hf 3 _ rfl
    have g4 : DataW.trod enc Tryd.prog w 0 (fun _ => true) true k 4 ((([v0, v1, v2, v3, v4] : List Value).drop 4).take (Tryd.prog.cellsOf 4)) = some y4 := hf 4 _ rfl
    rw [show Tryd.prog.cellsOf 36 = 1 from by kernel_rfl] at g0
    rw [show Tryd.prog.cellsOf 37 = 1 from by kernel_rfl] at g1
    rw [show Tryd.prog.cellsOf 3 = 1 from by kernel_rfl] at g2 g3
    rw [show Tryd.prog.cellsOf 4 = 1 from by kernel_rfl] at g4
    simp only [List.drop_succ_cons, List.drop_zero, List.take_succ_cons, List.take_zero] at g0 g1 g2 g3 g4
    obtain ⟨C, hC⟩ := cells_open g0
    obtain ⟨P, hP⟩ := poses_open g1
    obtain ⟨z2, q2, _, _⟩ := DataW.trod_int Tryd.underlying3 g2
    obtain ⟨z3, q3, _, _⟩ := DataW.trod_int Tryd.underlying3 g3
    obtain ⟨z4, q4, _⟩ := DataW.trod_bool Tryd.underlying4 g4
    simp at q2 q3 q4
    subst q2 q3 q4
    exact ⟨⟨C, P, z2, z3, z4⟩, v0, v1, rfl, hC, hP⟩
theorem open_rows {r : Reach} {b0 : Nat} {v : Value} {d : DataW H} {p : List MemPlace} (hv : Value.okWide Tryd.prog w r b0 27 v) (h : DataW.Trod enc Tryd.prog w 0 (fun _ => true) true 27 v d p) : ∃ l : List RowV, RowsA w v l := by
  obtain ⟨a, len, cap, rfl⟩ := okWide_slice Tryd.underlying27 hv
  obtain ⟨fuel, hf⟩ := h
  rcases Go.Deep.open_slice Tryd.underlying27 hf with ⟨hcs, _⟩ | ⟨a', len', cap', m, n, D, Pl, hcs, _, hl, hm, hmm, _, hi⟩
  · simp [Value.cells] at hcs
    obtain ⟨rfl, rfl, rfl⟩ := hcs
    exact ⟨[], none, 0, rfl, fun _ => rfl, fun h => absurd h (by simp)⟩
  · simp [Value.cells] at hcs
    obtain ⟨rfl, rfl, rfl⟩ := hcs
    have hlm : len ≤ m := by rw [hmm]; split <;> omega
    have each : ∀ i, i < len → ∃ (x : RowV × Value × Value), (w.cell? (a'.add (i * 5)) = some x.2.1 ∧ w.cell? (a'.add (i * 5 + 1)) = some x.2.2 ∧ w.cell? (a'.add (i * 5 + 2)) = some (.int .i64 x.1.fr) ∧ w.cell? (a'.add (i * 5 + 3)) = some (.int .i64 x.1.to) ∧ w.cell? (a'.add (i * 5 + 4)) = some (.bool x.1.co)) ∧ FlatsA w 6 x.2.1 x.1.C.length (cC x.1.C) ∧ FlatsA w 1 x.2.2 x.1.P.length (x.1.P.map (Value.int .i64)) := by
      intro i hil
      obtain ⟨cs', h1, h2⟩ := hi i (by omega)
      rw [show Tryd.prog.cellsOf 39 = 5 from by kernel_rfl] at h1
      obtain ⟨_, hlen, hcell⟩ := World.cells?_some h1
      obtain ⟨x, v0, v1, rfl, k1, k2⟩ := row_open hlen h2
      have e0 := hcell 0 (by decide)
      have e1 := hcell 1 (by decide)
      have e2 := hcell 2 (by decide)
      have e3 := hcell 3 (by decide)
      have e4 := hcell 4 (by decide)
      rw [Go.Deep.add_add] at e0 e1 e2 e3 e4
      exact ⟨(x, v0, v1), ⟨e0, e1, e2, e3, e4⟩, k1, k2⟩
    obtain ⟨q, hq⟩ := Go.Deep.choose_lt each
    refine ⟨(List.range len).map fun i => (q i).1, some a', cap, by simp, (fun h => by cases h), fun h0 => ?_⟩
    simp at h0
    obtain ⟨b, off, spot⟩ := a'
    have hspot : spot = none := by simpa [Addr.add] using World.cell?_spot (hq 0 h0).1.1
    subst hspot
    refine ⟨b, off, rfl, fun j r hj => ?_⟩
    have hj' : j < len := by have := (List.getElem?_eq_some_iff.1 hj).1; simpa using this
    have hy : r = (q j).1 := by simpa [hj'] using hj.symm
    subst hy
    obtain ⟨⟨h0, h1, h2, h3, h4⟩, h5, h6⟩ := hq j hj'
    rw [addr_plain] at h0 h1 h2 h3 h4
    exact ⟨_, _, ⟨h0, h1, h2, h3, h4⟩, h5, h6⟩
end
theorem flat_rows {w : World} : ∀ (I : List (Nat × Nat × List Value)) (_ : ∀ x ∈ I, 0 < x.1) (val : Nat → Value) (_ : ∀ (j : Nat) x, I[j]? = some x → FlatsA w x.1 (val j) x.2.1 x.2.2) (k : Nat), ∃ (rs : List ARow) (us : List Value), rs.length = I.length ∧ us.length = I.length ∧
      (∀ μ : Mu, (∀ (i : Nat) r, rs[i]? = some r → μ (64 + (k + i)) = some ⟨r.blk, r.sh, r.cs.length, 0, 0⟩) → (∀ (i : Nat) u, us[i]? = some u → VRel μ u (val i)) ∧ ∀ (i : Nat) r, rs[i]? = some r → ∀ (a : Nat) x, r.cs[a]? = some x → ∃ x', w.cell? ⟨r.blk, r.sh + a, none⟩ = some x' ∧ VRel μ x x') ∧
      ∀ σ : Mem, (∀ (i : Nat) r, rs[i]? = some r → r.cs ≠ [] → σ.get (64 + (k + i)) = some (.row ⟨r.cs, 0, true⟩)) → ∀ (i : Nat) x u, I[i]? = some x → us[i]? = some u → SlF σ.get x.1 u x.2.1 x.2.2
  | [], _, _, _, _ => ⟨[], [], rfl, rfl, fun _ _ => ⟨fun i u h => by simp at h, fun i r h => by simp at h⟩, fun _ _ i x u h => by simp at h⟩
  | x :: I, h0, val, h, k => by
    obtain ⟨r, u, p1, q1, s1⟩ := arg_flatsF (h0 x (List.mem_cons_self ..)) (h 0 x rfl) k
    obtain ⟨rs, us, g0, g0', h1, h2⟩ := flat_rows I (fun y hy => h0 y (List.mem_cons_of_mem _ hy)) (fun j => val (j + 1)) (fun j y hj => h (j + 1) y (by simpa using hj)) (k + 1)
    refine ⟨r :: rs, u :: us, by simp [g0], by simp [g0'], fun μ hm => ?_, fun σ hr => ?_⟩
    · have m0 := hm 0 r rfl
      obtain ⟨g1, g2⟩ := h1 μ fun i r' hi => by have := hm (i + 1) r' (by simpa using hi); rwa [show k + (i + 1) = k + 1 + i by omega] at this
      refine ⟨fun i z hz => ?_, fun i r' hi a z hz => ?_⟩
      · cases i with
        | zero => cases hz; exact p1 μ m0
        | succ i => exact g1 i z (by simpa using hz)
      · cases i with
        | zero =>
          cases hi
          obtain ⟨k1, k2⟩ := q1 a z hz
          exact ⟨_, k1, .flat _ k2⟩
        | succ i => exact g2 i r' (by simpa using hi) a z hz
    · have s2 := h2 σ fun i r' hi => by have := hr (i + 1) r' (by simpa using hi); rwa [show k + (i + 1) = k + 1 + i by omega] at this
      intro i y z hy hz
      cases i with
      | zero => cases hy; cases hz; exact s1 σ (hr 0 r rfl)
      | succ i => exact s2 i y z (by simpa using hy) (by simpa using hz)
def rowsV : List Value → List Value → List RowV → List Value
  | c :: cs, p :: ps, r :: l => c :: p :: .int .i64 r.fr :: .int .i64 r.to :: .bool r.co :: rowsV cs ps l
  | _, _, _ => []
theorem rowsV_len : ∀ {cs ps : List Value} {l : List RowV}, cs.length = l.length → ps.length = l.length → (rowsV cs ps l).length = l.length * 5
  | [], [], [], _, _ => rfl
  | _ :: cs, _ :: ps, _ :: l, h1, h2 => by
    show (rowsV cs ps l).length + 5 = (l.length + 1) * 5
    rw [rowsV_len (l := l) (by simpa using h1) (by simpa using h2)]
    omega
  | [], _ :: _, l, h1, h2 => by cases l <;> simp at h1 h2
  | _ :: _, [], l, h1, h2 => by cases l <;> simp at h1 h2
theorem rowsV_at : ∀ {cs ps : List Value} {l : List RowV} {j : Nat}, cs.length = l.length → ps.length = l.length → j < l.length → ((rowsV cs ps l).drop (j * 5)).take 5 = [cs.getD j undef, ps.getD j undef, .int .i64 (l.getD j default).fr, .int .i64 (l.getD j default).to, .bool (l.getD j default).co]
  | [], _, [], _, _, _, h => absurd h (Nat.not_lt_zero _)
  | _ :: cs, _ :: ps, _ :: l, 0, _, _, _ => rfl
  | _ :: cs, _ :: ps, _ :: l, j + 1, h1, h2, h => by
    rw [show (j + 1) * 5 = j * 5 + 5 by omega]
    exact rowsV_at (l := l) (j := j) (by simpa using h1) (by simpa using h2) (by simpa using h)
  | _ :: _, [], l, _, h1, h2, _ => by cases l <;> simp at h1 h2
def AllRow (F : Nat → Option Blk2) (cs ps : List Value) (l : List RowV) : Prop := cs.length = l.length ∧ ps.length = l.length ∧ ∀ j, j < l.length → SlF F 6 (cs.getD j undef) (l.getD j default).C.length (cC (l.getD j default).C) ∧ SlF F 1 (ps.getD j undef) (l.getD j default).P.length ((l.getD j default).P.map (Value.int .i64))
theorem AllRow.le {F F' : Nat → Option Blk2} {cs ps : List Value} {l : List RowV} (h : AllRow F cs ps l) (k : Le F F') : AllRow F' cs ps l := ⟨h.1, h.2.1, fun j hj => ⟨(h.2.2 j hj).1.le k, (h.2.2 j hj).2.le k⟩⟩
end Go.Proofs.YtmmapljeeccdnaaDoor
namespace Go.Proofs.YtmmapljeeccdnaaDoor
open Go.ChangeShapes Go.WideShapes Go.ChangeAt Go.RowKit
set_option maxRecDepth 100000
theorem rowsV_get : ∀ {cs ps : List Value} {l : List RowV} {i : Nat} {u : Value}, (rowsV cs ps l)[i]? = some u → ∃ (j : Nat) (r : RowV) (c p : Value), l[j]? = some r ∧ cs[j]? = some c ∧ ps[j]? = some p ∧ (i = j * 5 ∧ u = c ∨ i = j * 5 + 1 ∧ u = p ∨ i = j * 5 + 2 ∧ u = .int .i64 r.fr ∨ i = j * 5 + 3 ∧ u = .int .i64 r.to ∨ i = j * 5 + 4 ∧ u = .bool r.co)
  | [], _, _, _, _, h => by simp [rowsV] at h
  | _ :: _, [], _, _, _, h => by simp [rowsV] at h
  | _ :: _, _ :: _, [], _, _, h => by simp [rowsV] at h
  | c :: cs, p :: ps, r :: l, i, u, h => by
    match i, h with
    | 0, h => cases h; exact ⟨0, r, c, p, rfl, rfl, rfl, .inl ⟨rfl, rfl⟩⟩
    | 1, h => cases h; exact ⟨0, r, c, p, rfl, rfl, rfl, .inr (.inl ⟨rfl, rfl⟩)⟩
    | 2, h => cases h; exact ⟨0, r, c, p, rfl, rfl, rfl, .inr (.inr (.inl ⟨rfl, rfl⟩))⟩
    | 3, h => cases h; exact ⟨0, r, c, p, rfl, rfl, rfl, .inr (.inr (.inr (.inl ⟨rfl, rfl⟩)))⟩
    | 4, h => cases h; exact ⟨0, r, c, p, rfl, rfl, rfl, .inr (.inr (.inr (.inr ⟨rfl, rfl⟩)))⟩
    | i + 5, h =>
      obtain ⟨j, r', c', p', h1, h2, h3, h4⟩ := rowsV_get (cs := cs) (ps := ps) (l := l) (i := i) h
      refine ⟨j + 1, r', c', p', by simpa using h1, by simpa using h2, by simpa using h3, ?_⟩
      clear h
      rcases h4 with ⟨rfl, hu⟩ | ⟨rfl, hu⟩ | ⟨rfl, hu⟩ | ⟨rfl, hu⟩ | ⟨rfl, hu⟩
      · exact .inl ⟨by omega, hu⟩
      · exact .inr (.inl ⟨by omega, hu⟩)
      · exact .inr (.inr (.inl ⟨by omega, hu⟩))
      · exact .inr (.inr (.inr (.inl ⟨by omega, hu⟩)))
      · exact .inr (.inr (.inr (.inr ⟨by omega, hu⟩)))
theorem arg_rowsF {w : World} {v : Value} {l : List RowV} (hh : RowsA w v l) : ∃ (rs : List ARow) (u : Value),
      (∀ μ : Mu, (∀ (i : Nat) r, rs[i]? = some r → μ (64 + i) = some ⟨r.blk, r.sh, r.cs.length, 0, 0⟩) → VRel μ u v ∧ ∀ (i : Nat) r, rs[i]? = some r → ∀ (a : Nat) x, r.cs[a]? = some x → ∃ x', w.cell? ⟨r.blk, r.sh + a, none⟩ = some x' ∧ VRel μ x x') ∧
      ∀ σ : Mem, (∀ (i : Nat) r, rs[i]? = some r → r.cs ≠ [] → σ.get (64 + i) = some (.row ⟨r.cs, 0, true⟩)) → ∃ cs ps, SlF σ.get 5 u l.length (rowsV cs ps l) ∧ AllRow σ.get cs ps l := by
  obtain ⟨A, c, rfl, hn, hA⟩ := hh
  by_cases h0 : 0 < l.length
  · obtain ⟨b, off, rfl, hc⟩ := hA h0
    have a1 : ∀ (I : RowV → Nat × Nat × List Value) (j : Nat) x, (l.map I)[j]? = some x → ∃ r, l[j]? = some r ∧ x = I r := fun I j x hx => by
      rw [List.getElem?_map] at hx
      cases e : l[j]? with
      | none => rw [e] at hx; cases hx
      | some r => rw [e] at hx; exact ⟨r, rfl, (Option.some.inj hx).symm⟩
    obtain ⟨rs1, us1, n1, m1, h1, s1⟩ := flat_rows (w := w) (l.map fun r => (6, r.C.length, cC r.C)) (fun x hx => by obtain ⟨r, _, rfl⟩ := List.mem_map.1 hx; exact Nat.le_of_ble_eq_true rfl) (fun j => (w.cell? ⟨b, off + j * 5, none⟩).getD undef) (fun j x hx => by
      obtain ⟨r, hr, rfl⟩ := a1 _ j x hx
      obtain ⟨v0, v1, ⟨k0, _⟩, k5, _⟩ := hc j r hr
      rw [k0]
      exact k5) 1
    obtain ⟨rs2, us2, n2, m2, h2, s2⟩ := flat_rows (w := w) (l.map fun r => (1, r.P.length, r.P.map (Value.int .i64))) (fun x hx => by obtain ⟨r, _, rfl⟩ := List.mem_map.1 hx; exact Nat.le_of_ble_eq_true rfl) (fun j => (w.cell? ⟨b, off + (j * 5 + 1), none⟩).getD undef) (fun j x hx => by
      obtain ⟨r, hr, rfl⟩ := a1 _ j x hx
      obtain ⟨v0, v1, ⟨_, k1, _⟩, _, k6⟩ := hc j r hr
      rw [k1]
      exact k6) (1 + l.length)
    rw [List.length_map] at n1 m1 n2 m2
    have i1 : ∀ (i : Nat) r, rs1[i]? = some r → ((⟨b, off, rowsV us1 us2 l⟩ : ARow) :: (rs1 ++ rs2))[1 + i]? = some r := fun i r hi => by
      rw [Nat.add_comm, List.getElem?_cons_succ, List.getElem?_append_left (List.getElem?_eq_some_iff.1 hi).1]
      exact hi
    have i2 : ∀ (i : Nat) r, rs2[i]? = some r → ((⟨b, off, rowsV us1 us2 l⟩ : ARow) :: (rs1 ++ rs2))[1 + l.length + i]? = some r := fun i r hi => by
      rw [show 1 + l.length + i = (l.length + i) + 1 by omega, List.getElem?_cons_succ, List.getElem?_append_right (by omega), show l.length + i - rs1.length = i by omega]
      exact hi
    have i3 : ∀ (i : Nat) r, ((⟨b, off, rowsV us1 us2 l⟩ : ARow) :: (rs1 ++ rs2))[i]? = some r → r = ⟨b, off, rowsV us1 us2 l⟩ ∨ (∃ i', rs1[i']? = some r) ∨ ∃ i', rs2[i']? = some r := fun i r hi => by
      rcases List.mem_cons.1 (List.mem_of_getElem? hi) with h | h
      · exact .inl h
      · rcases List.mem_append.1 h with h | h
        · exact .inr (.inl (List.getElem?_of_mem h))
        · exact .inr (.inr (List.getElem?_of_mem h))
    refine ⟨⟨b, off, rowsV us1 us2 l⟩ :: (rs1 ++ rs2), .slice (some ⟨64, 0, none⟩) l.length c, fun μ hm => ?_, fun σ hr => ⟨us1, us2, ?_, m1, m2, fun j hj => ⟨?_, ?_⟩⟩⟩
    · have m0 := hm 0 _ rfl
      obtain ⟨g1, g1'⟩ := h1 μ fun i r hi => hm _ r (i1 i r hi)
      obtain ⟨g2, g2'⟩ := h2 μ fun i r hi => hm _ r (i2 i r hi)
      refine ⟨?_, fun i r hi a x hx => ?_⟩
      · have := VRel.sliceE (μ := μ) (64 + 0) 0 l.length c _ m0
        simpa using this
      · rcases i3 i r hi with rfl | ⟨i', hi'⟩ | ⟨i', hi'⟩
        · obtain ⟨j, r, c', p', k1, k2, k3, k4⟩ := rowsV_get hx
          obtain ⟨v0, v1, ⟨q0, q1, q2, q3, q4⟩, _, _⟩ := hc j r k1
          have t1 := g1 j c' k2
          have t2 := g2 j p' k3
          rw [q0] at t1
          rw [q1] at t2
          rcases k4 with ⟨rfl, rfl⟩ | ⟨rfl, rfl⟩ | ⟨rfl, rfl⟩ | ⟨rfl, rfl⟩ | ⟨rfl, rfl⟩
          · exact ⟨_, q0, t1⟩
          · exact ⟨_, q1, t2⟩
          · exact ⟨_, q2, .flat _ rfl⟩
          · exact ⟨_, q3, .flat _ rfl⟩
          · exact ⟨_, q4, .flat _ rfl⟩
        · exact g1' i' r hi' a x hx
        · exact g2' i' r hi' a x hx
    · have hlv := rowsV_len m1 m2
      have hr := hr 0 _ rfl (by intro e; have e : rowsV us1 us2 l = [] := e; rw [e] at hlv; simp at hlv; omega)
      exact .some hr hlv (by rw [List.drop_zero]; exact List.take_of_length_le (by rw [hlv]; exact Nat.le_refl _))
    · have g := s1 σ (fun i r hi => hr _ r (i1 i r hi)) j _ (us1.getD j undef) (by rw [List.getElem?_map, List.getElem?_eq_getElem hj]; rfl) (by rw [List.getD_eq_getElem?_getD, List.getElem?_eq_getElem (by omega)]; rfl)
      rw [List.getD_eq_getElem?_getD (l := l), List.getElem?_eq_getElem hj]
      exact g
    · have g := s2 σ (fun i r hi => hr _ r (i2 i r hi)) j _ (us2.getD j undef) (by rw [List.getElem?_map, List.getElem?_eq_getElem hj]; rfl) (by rw [List.getD_eq_getElem?_getD, List.getElem?_eq_getElem (by omega)]; rfl)
      rw [List.getD_eq_getElem?_getD (l := l), List.getElem?_eq_getElem hj]
      exact g
  · obtain rfl : l = [] := List.length_eq_zero_iff.1 (by omega)
    have e : AllRow (fun _ => none) [] [] [] := ⟨rfl, rfl, fun j hj => absurd hj (Nat.not_lt_zero _)⟩
    cases A with
    | none =>
      obtain rfl := hn rfl
      exact ⟨[], .slice none 0 0, fun μ _ => ⟨.flat _ rfl, fun i r h => by simp at h⟩, fun σ _ => ⟨[], [], .nil _ rfl, rfl, rfl, fun j hj => absurd hj (Nat.not_lt_zero _)⟩⟩
    | some x => exact ⟨[], .chan (some c), fun μ _ => ⟨.void x c, fun i r h => by simp at h⟩, fun σ _ => ⟨[], [], .void _ _ rfl, rfl, rfl, fun j hj => absurd hj (Nat.not_lt_zero _)⟩⟩
end Go.Proofs.YtmmapljeeccdnaaDoor
