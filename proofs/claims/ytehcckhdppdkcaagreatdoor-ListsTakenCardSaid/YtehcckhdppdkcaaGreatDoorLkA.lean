/-
  ListsKeep: the heaps that the law goes through; a walk's registers put in order. Conditions: none.
-/
import Derived.Test.YtehcckhdppdkcaaGreatDoorLc
namespace Go.Proofs.YtehcckhdppdkcaaGreatDoor
set_option maxRecDepth 100000
def OkL (ta : Nat → Value) : List (Nat × Value) → Prop
  | [] => True
  | (k, x) :: l => ta k = x ∧ OkL ta l
def updL (ta : Nat → Value) : List (Nat × Value) → Nat → Value
  | [] => ta
  | (k, x) :: l => upd (updL ta l) k x
theorem updL_same {ta : Nat → Value} : ∀ {L : List (Nat × Value)}, OkL ta L → updL ta L = ta
  | [], _ => rfl
  | (k, x) :: l, h => by
    show upd (updL ta l) k x = ta
    rw [updL_same h.2, upd_same h.1]
theorem W.reset {P : Program} {G nt : Nat} {rd : Option Nat} {c : Code} {ta : Nat → Value} {dm : List DItem} {σ : Mem} {Q : Exit → (Nat → Value) → List DItem → Mem → Prop} (L : List (Nat × Value)) (h : OkL ta L) (k : ∀ TA, W G P rd nt c (updL TA L) dm σ Q) : W G P rd nt c ta dm σ Q := by
  have := k ta
  rwa [updL_same h] at this
theorem BuildR.is {h : Nat} {m m' : HM} {l : List Wd} {t x : Wd} {σ0 σ : Mem} {v : Value} (H : BuildR h m l t σ0 v σ) (E : built m l t = (m', x)) : v = .tuple #[wdV x, .int .i64 0] ∧ GrowA σ0 σ ∧ σ.abs = heapAbs h m' := by
  unfold BuildR at H
  rw [E] at H
  exact H
structure Mods (l1 l2 : List Wd) (m1 m2 m3 m4 m5 : HM) (a b r rr bo : Wd) (cA cR cRR cO : Nat → Wd) : Prop where
  e1 : built (hm0 400) l1 (1, 0) = (m1, a)
  e2 : built m1 l2 (1, 0) = (m2, b)
  e3 : built m2 l1.reverse (1, 0) = (m3, r)
  e4 : built m3 l1 (1, 0) = (m4, rr)
  e5 : built m4 l1 b = (m5, bo)
  zA : cA 0 = a
  zR : cR 0 = r
  zRR : cRR 0 = rr
  zO : cO 0 = bo
  zM : cO l1.length = b
  a2 : Chain m2 cA l1
  r3 : Chain m3 cR l1.reverse
  a4 : Chain m4 cA l1
  a5 : Chain m5 cA l1
  r5 : Chain m5 cR l1.reverse
  rr5 : Chain m5 cRR l1
  o5 : Chain m5 cO (l1 ++ l2)
  lim : m1.limit = 400 ∧ m2.limit = 400 ∧ m3.limit = 400 ∧ m4.limit = 400 ∧ m5.limit = 400
  free : m1.free = [] ∧ m2.free = [] ∧ m3.free = [] ∧ m4.free = []
  many : m1.many = l1.length ∧ m2.many = l1.length + l2.length ∧ m3.many = l1.length + l2.length + l1.length ∧ m4.many = l1.length + l2.length + l1.length + l1.length
theorem mods (l1 l2 : List Wd) : ∃ m1 m2 m3 m4 m5 a b r rr bo cA cR cRR cO, Mods l1 l2 m1 m2 m3 m4 m5 a b r rr bo cA cR cRR cO := by
  obtain ⟨m1, a, e1⟩ : ∃ m x, built (hm0 400) l1 (1, 0) = (m, x) := ⟨_, _, rfl⟩
  obtain ⟨m2, b, e2⟩ : ∃ m x, built m1 l2 (1, 0) = (m, x) := ⟨_, _, rfl⟩
  obtain ⟨m3, r, e3⟩ : ∃ m x, built m2 l1.reverse (1, 0) = (m, x) := ⟨_, _, rfl⟩
  obtain ⟨m4, rr, e4⟩ : ∃ m x, built m3 l1 (1, 0) = (m, x) := ⟨_, _, rfl⟩
  obtain ⟨m5, bo, e5⟩ : ∃ m x, built m4 l1 b = (m, x) := ⟨_, _, rfl⟩
  have f1 := finds_built m1 l2 (1, 0); rw [e2] at f1
  have f2 := finds_built m2 l1.reverse (1, 0); rw [e3] at f2
  have f3 := finds_built m3 l1 (1, 0); rw [e4] at f3
  have f4 := finds_built m4 l1 b; rw [e5] at f4
  have c1 := chain_built (hm0 400) l1; rw [e1] at c1
  have c2 := chain_built m1 l2; rw [e2] at c2
  have c3 := chain_built m2 l1.reverse; rw [e3] at c3
  have c4 := chain_built m3 l1; rw [e4] at c4
  have w1 := built_word (hm0 400) l1 (1, 0); rw [e1] at w1
  have w2 := built_word m1 l2 (1, 0); rw [e2] at w2
  have w3 := built_word m2 l1.reverse (1, 0); rw [e3] at w3
  have w4 := built_word m3 l1 (1, 0); rw [e4] at w4
  have c2' := (c2.mono f2).mono f3
  have hb : consOf m1 l2 (1, 0) 0 = b := w2.symm
  have c5 := chain_on l1 c2'
  have w5 := consOn_zero m4 l1 (consOf m1 l2 (1, 0))
  have w6 := consOn_mid m4 l1 b (consOf m1 l2 (1, 0))
  rw [hb] at c5 w5 w6
  rw [e5] at c5 w5
  have p1 := built_limit (hm0 400) l1 (1, 0); have q1 := built_free (hm0 400) l1 (1, 0); have k1 := built_many (hm0 400) l1 (1, 0); rw [e1] at p1 q1 k1
  have p2 := built_limit m1 l2 (1, 0); have q2 := built_free m1 l2 (1, 0); have k2 := built_many m1 l2 (1, 0); rw [e2] at p2 q2 k2
  have p3 := built_limit m2 l1.reverse (1, 0); have q3 := built_free m2 l1.reverse (1, 0); have k3 := built_many m2 l1.reverse (1, 0); rw [e3] at p3 q3 k3
  have p4 := built_limit m3 l1 (1, 0); have q4 := built_free m3 l1 (1, 0); have k4 := built_many m3 l1 (1, 0); rw [e4] at p4 q4 k4
  have p5 := built_limit m4 l1 b; rw [e5] at p5
  rw [List.length_reverse] at k3
  simp only [hm0_many] at p1 q1 k1 p2 q2 k2 p3 q3 k3 p4 q4 k4 p5
  refine ⟨m1, m2, m3, m4, m5, a, b, r, rr, bo, consOf (hm0 400) l1 (1, 0), consOf m2 l1.reverse (1, 0), consOf m3 l1 (1, 0), _, e1, e2, e3, e4, e5, w1.symm, w3.symm, w4.symm, w5, w6, c1.mono f1, c3, ((c1.mono f1).mono f2).mono f3, (((c1.mono f1).mono f2).mono f3).mono f4, (c3.mono f3).mono f4, c4.mono f4, c5, ⟨p1, ?_, ?_, ?_, ?_⟩, ⟨q1, ?_, ?_, ?_⟩, ⟨?_, ?_, ?_, ?_⟩⟩
  · rw [p2, p1]
  · rw [p3, p2, p1]
  · rw [p4, p3, p2, p1]
  · rw [p5, p4, p3, p2, p1]
  · rw [q2, q1]
  · rw [q3, q2, q1]
  · rw [q4, q3, q2, q1]
  · omega
  · omega
  · omega
  · omega
end Go.Proofs.YtehcckhdppdkcaaGreatDoor
