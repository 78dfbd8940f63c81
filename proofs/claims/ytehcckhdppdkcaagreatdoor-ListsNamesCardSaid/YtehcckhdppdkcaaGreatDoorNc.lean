/-
  The heaps of counts (ListsNames) in plain words, its trees, and what the heap's calls answer there. Conditions: none.
-/
import Derived.Test.YtehcckhdppdkcaaGreatDoorNb
namespace Go.Proofs.YtehcckhdppdkcaaGreatDoor
set_option maxRecDepth 100000
def wA : Nat → Wd
  | 0 => (1, 0)
  | j + 1 => (2, ((3 * j + 1 : Nat) : Int))
def wB : Nat → Wd
  | 0 => (1, 0)
  | j + 1 => (2, ((3 * j + 2 : Nat) : Int))
def wC : Nat → Wd
  | 0 => (0, 1)
  | j + 1 => (2, ((3 * j : Nat) : Int))
def tailN : Nat → HObj
  | 0 => .pair (2, 45) (1, 0)
  | 1 => .pair (2, 46) (1, 0)
  | 2 => .pair (2, 45) (2, 49)
  | 3 => .pair (2, 45) (2, 50)
  | 4 => .pair (2, 46) (2, 46)
  | _ => .pair (2, 47) (2, 47)
def objN (k : Nat) : HObj := if k < 48 then (if k % 3 = 0 then .pair (wB (k / 3)) (wC (k / 3)) else if k % 3 = 1 then .pair (wA (k / 3)) (wA (k / 3)) else .pair (wB (k / 3)) (wB (k / 3))) else tailN (k - 48)
theorem objN_0 (i : Nat) (h : i < 16) : objN (3 * i) = .pair (wB i) (wC i) := by
  unfold objN
  rw [if_pos (by omega), if_pos (by omega), show 3 * i / 3 = i by omega]
theorem objN_1 (i : Nat) (h : i < 16) : objN (3 * i + 1) = .pair (wA i) (wA i) := by
  unfold objN
  rw [if_pos (by omega), if_neg (by omega), if_pos (by omega), show (3 * i + 1) / 3 = i by omega]
theorem objN_2 (i : Nat) (h : i < 16) : objN (3 * i + 1 + 1) = .pair (wB i) (wB i) := by
  unfold objN
  rw [if_pos (by omega), if_neg (by omega), if_neg (by omega), show (3 * i + 1 + 1) / 3 = i by omega]
def hmN (n : Nat) : HM := ⟨100, (List.range n).map fun k => some (objN k), []⟩
theorem hmN_len (n : Nat) : (hmN n).objs.length = n := by simp [hmN]
theorem hmN_push {n : Nat} {o : HObj} (e : objN n = o) : (hmN n).push o = hmN (n + 1) := by
  subst e
  simp [hmN, HM.push, List.range_succ]
theorem hmN_many : ∀ n, (hmN n).many = n
  | 0 => rfl
  | n + 1 => by rw [← hmN_push (n := n) rfl, HM.many_push, hmN_many n]
theorem hmN_find {n k : Nat} (hk : k < n) {a d : Wd} (e : objN k = .pair a d) : (hmN n).find (2, (k : Int)) = some (.pair a d) := by
  refine find_at ?_
  simp [hmN, hk, e]
theorem T_ab {n : Nat} (hn : 48 ≤ n) : ∀ d, d ≤ 16 → TreeR (hmN n) true d (wA d) (wB d)
  | 0, _ => .inl ⟨rfl, rfl⟩
  | d + 1, h => ⟨fun e => by have := (Prod.mk.inj e).2; omega, wA d, wA d, wB d, wB d, hmN_find (by omega) (objN_1 d (by omega)), hmN_find (by omega) (objN_2 d (by omega)), T_ab hn d (by omega), T_ab hn d (by omega)⟩
theorem T_ac {n : Nat} (hn : 48 ≤ n) : ∀ d, d ≤ 16 → TreeR (hmN n) false d (wA d) (wC d)
  | 0, _ => .inr ⟨rfl, rfl, rfl⟩
  | d + 1, h => ⟨fun e => by have := (Prod.mk.inj e).2; omega, wA d, wA d, wB d, wC d, hmN_find (by omega) (objN_1 d (by omega)), hmN_find (by omega) (objN_0 d (by omega)), T_ab hn d (by omega), T_ac hn d (by omega)⟩
theorem T_xy {n : Nat} (hn : 54 ≤ n) : TreeR (hmN n) true 17 (2, 52) (2, 53) :=
  ⟨by decide, wA 16, wA 16, wB 16, wB 16, hmN_find (k := 52) (by omega) rfl, hmN_find (k := 53) (by omega) rfl, T_ab (by omega) 16 (by omega), T_ab (by omega) 16 (by omega)⟩
theorem costT_is : ∀ d, costT d + 1 = 2 ^ (d + 1)
  | 0 => rfl
  | d + 1 => by
    have := costT_is d
    rw [show costT (d + 1) = 1 + costT d + costT d from rfl, Nat.pow_succ]
    omega
theorem cost16 : costT 16 = 131071 := by
  have h := costT_is 16
  rw [show (2 : Nat) ^ (16 + 1) = 131072 from rfl] at h
  omega
theorem cost17 : costT 17 = 262143 := by
  have h := costT_is 17
  rw [show (2 : Nat) ^ (17 + 1) = 262144 from rfl] at h
  omega
section
variable {G h : Nat} {σ : Mem} {n : Nat}
theorem c_cons (n : Nat) (a d : Wd) (ha : σ.abs = heapAbs h (hmN n)) (e : objN n = .pair a d) (hn : n < 100) : SCall G Tryz.prog 34 #[.pointer (some ⟨h, 0, none⟩), .agg #[.int .i64 a.1, .int .i64 a.2], .agg #[.int .i64 d.1, .int .i64 d.2]] σ (.tuple #[.agg #[.int .i64 2, .int .i64 (n : Int)], .int .i64 0]) (σ.with (heapAbs h (hmN (n + 1)))) := by
  have := s_cons (G := G) a d ha (by rw [hmN_many]; exact hn) rfl
  rwa [hmN_push e, hmN_len] at this
theorem c_car {k : Nat} {a d : Wd} (ha : σ.abs = heapAbs h (hmN n)) (hk : k < n) (e : objN k = .pair a d) : SCall G Tryz.prog 29 #[.pointer (some ⟨h, 0, none⟩), .agg #[.int .i64 2, .int .i64 (k : Int)]] σ (.tuple #[.agg #[.int .i64 a.1, .int .i64 a.2], .int .i64 0]) σ := by
  have := s_car (G := G) (2, (k : Int)) ha
  rwa [car_at (hmN_find hk e)] at this
theorem c_cdr {k : Nat} {a d : Wd} (ha : σ.abs = heapAbs h (hmN n)) (hk : k < n) (e : objN k = .pair a d) : SCall G Tryz.prog 58 #[.pointer (some ⟨h, 0, none⟩), .agg #[.int .i64 2, .int .i64 (k : Int)]] σ (.tuple #[.agg #[.int .i64 d.1, .int .i64 d.2], .int .i64 0]) σ := by
  have := s_cdr (G := G) (2, (k : Int)) ha
  rwa [cdr_at (hmN_find hk e)] at this
theorem c_live {k : Nat} {a d : Wd} (ha : σ.abs = heapAbs h (hmN n)) (hk : k < n) (e : objN k = .pair a d) : SCall G Tryz.prog 83 #[.pointer (some ⟨h, 0, none⟩), .agg #[.int .i64 2, .int .i64 (k : Int)]] σ (.bool true) σ := by
  have := s_live (G := G) (k : Int) ha
  rwa [hmN_find hk e] at this
theorem c_many (ha : σ.abs = heapAbs h (hmN n)) : SCall G Tryz.prog 33 #[.pointer (some ⟨h, 0, none⟩)] σ (.int .i64 (n : Int)) σ := by
  have := s_many (G := G) ha
  rwa [hmN_many] at this
theorem c_limit (ha : σ.abs = heapAbs h (hmN n)) : SCall G Tryz.prog 73 #[.pointer (some ⟨h, 0, none⟩)] σ (.int .i64 100) σ := s_limit (G := G) ha
theorem c_new {h : Nat} (hh : h = σ.next) (ha : σ.abs = Abs.no) : SCall G Tryz.prog 9 #[.int .i64 100] σ (.tuple #[.pointer (some ⟨h, 0, none⟩), .int .i64 0]) (σ.made 100) := by
  subst hh
  exact s_new 100 (by decide) (by decide) ha
theorem Lies.heap {A A' : Abs} {F : Nat → Option Blk2} {L : List Ent} (H : Lies G A F σ L) : Lies G A' F (σ.with A') L := H.move (fun _ _ h => h) (Nat.le_refl _) rfl
theorem Lies.made {A : Abs} {F : Nat → Option Blk2} {L : List Ent} {h : Nat} (hh : h = σ.next) (H : Lies G A F σ L) : Lies G (heapAbs h (hmN 0)) F (σ.made 100) L := by
  subst hh
  exact H.move (fun b y h => by rw [made_get]; exact h) (Nat.le_succ _) rfl
end
end Go.Proofs.YtehcckhdppdkcaaGreatDoor
