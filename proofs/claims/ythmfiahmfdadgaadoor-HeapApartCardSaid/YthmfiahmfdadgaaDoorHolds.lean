/-
  HeapHolds: for all words, every string, index and word the law returns true; nothing that lay before is changed. Conditions: the tables of unicode/utf8 lie as laid.
-/
import Derived.Test.YthmfiahmfdadgaaDoorLives
import Derived.Test.YthmfiahmfdadgaaDoorPick
import Derived.Deep.DeepCutAuto
namespace Go.Proofs.YthmfiahmfdadgaaDoor
open Go.RowKit
set_option maxRecDepth 100000
def consWd (base : Int) (k : Nat) : List Wd := (List.range k).map fun (j : Nat) => ((2 : Int), base + (j : Int))
theorem consWd_length (base : Int) (k : Nat) : (consWd base k).length = k := by simp [consWd]
theorem consWd_succ (base : Int) (k : Nat) : consWd base (k + 1) = consWd base k ++ [(2, base + (k : Int))] := by simp [consWd, List.range_succ]
theorem wdC_append (a b : List Wd) : wdC (a ++ b) = wdC a ++ wdC b := by simp [wdC]
/-- The words l lie from an address on. -/
def WordsFrom (w : World) (b off : Nat) (l : List Wd) : Prop := ∀ j y, l[j]? = some y → w.cell? ⟨b, off + j * 2, none⟩ = some (.int .i64 y.1) ∧ w.cell? ⟨b, off + j * 2 + 1, none⟩ = some (.int .i64 y.2)
theorem WordsFrom.keep {w w' : World} {b off : Nat} {l : List Wd} (h : WordsFrom w b off l) (hk : w'.heap[b]? = w.heap[b]?) : WordsFrom w' b off l :=
  fun j y hj => ⟨(World.cell?_of_block (a := ⟨b, _, none⟩) hk).trans (h j y hj).1, (World.cell?_of_block (a := ⟨b, _, none⟩) hk).trans (h j y hj).2⟩
theorem add_none (b off j : Nat) : (⟨b, off, none⟩ : Addr).add j = ⟨b, off + j, none⟩ := by unfold Addr.add; split <;> simp_all
theorem wdC_at (l : List Wd) (j : Nat) (u : Value) (h : (wdC l)[j]? = some u) : ∃ k y, l[k]? = some y ∧ ((j = k * 2 ∧ u = .int .i64 y.1) ∨ (j = k * 2 + 1 ∧ u = .int .i64 y.2)) := by
  have hlt := (List.getElem?_eq_some_iff.1 h).1
  rw [wdC_length] at hlt
  have hk : j / 2 < l.length := by omega
  obtain ⟨q0, q1⟩ := wdC_get l (j / 2) hk
  refine ⟨j / 2, l[j / 2], List.getElem?_eq_getElem hk, ?_⟩
  rcases Nat.mod_two_eq_zero_or_one j with e | e
  · have : j / 2 * 2 = j := by omega
    rw [this, h] at q0
    exact .inl ⟨this.symm, Option.some.inj q0⟩
  · have : j / 2 * 2 + 1 = j := by omega
    rw [this, h] at q1
    exact .inr ⟨this.symm, Option.some.inj q1⟩
theorem WordsFrom.reads {w : World} {b off : Nat} {l : List Wd} (h : WordsFrom w b off l) (B : Nat) (hb : b < B) : Reads w B 2 (some ⟨b, off, none⟩) l.length (wdC l) :=
  ⟨wdC_length l, fun _ => ⟨_, rfl, hb, fun j u hu => by
    rw [add_none]
    obtain ⟨k, y, hk, ⟨rfl, rfl⟩ | ⟨rfl, rfl⟩⟩ := wdC_at l j u hu
    · exact (h k y hk).1
    · exact (h k y hk).2⟩⟩
theorem consWd_get (base : Int) (k j : Nat) (h : j < k) : (consWd base k)[j]? = some (2, base + (j : Int)) := by simp [consWd, h]
/-- What a maker leaves, its number written out. -/
def MadeAt (S : Own) (w V : World) (p : Nat) (m' : HM) (kd : Nat) (N : Int) (e : Ending) (w' : World) : Prop :=
  ∃ S2, e = .returned (.tuple #[.agg #[.int .i64 kd, .int .i64 N], .int .i64 0]) ∧ HeapAt w' S2 p m' ∧ Turn S V w' S2 ∧ Turn S w w' S2
theorem Made.at_ {S : Own} {w V : World} {p : Nat} {m m' : HM} {o : HObj} {kd : Nat} {N : Int} {e : Ending} {w' : World} (h : Made S V p m o kd e w') (hV : Below w.heap.size w V) (hm : m.push o = m') (hN : (m.objs.length : Int) = N) : MadeAt S w V p m' kd N e w' := by
  obtain ⟨S2, he, h1, h2⟩ := h
  exact ⟨S2, by rw [he, hN], hm ▸ h1, h2, (Turn.of_below hV).trans h2⟩
theorem HM.find_at {m : HM} {x : Wd} {i : Nat} {o : HObj} (hx : x.2 = (i : Int)) (ho : m.objs[i]? = some (some o)) (hk : o.kind = x.1) : m.find x = some o := by
  have h1 : ¬ x.2 < 0 := by omega
  have h2 : x.2.toNat = i := by omega
  simp [HM.find, h1, h2, ho, hk]
def consAll (l : List Wd) (k : Nat) : List (Option HObj) := (l.take k).map fun a => some (.pair a (4, 0))
theorem consAll_succ (l : List Wd) (k : Nat) (a : Wd) (h : l[k]? = some a) : consAll l (k + 1) = consAll l k ++ [some (.pair a (4, 0))] := by
  unfold consAll
  rw [List.take_add_one, h]
  simp
theorem consAll_get (l : List Wd) (n k : Nat) (a : Wd) (hk : k < n) (h : l[k]? = some a) : (consAll l n)[k]? = some (some (.pair a (4, 0))) := by simp [consAll, List.getElem?_take, hk, h]
theorem consAll_length (l : List Wd) (k : Nat) (h : k ≤ l.length) : (consAll l k).length = k := by simp [consAll]; omega

theorem holds_long (A : Option Addr) (n c : Nat) (l : List Wd) (s : ByteArray) (i : Int) (x : Wd) (w : World) (hT : Tabs w) (hr : Reads w w.heap.size 2 A n (wdC l)) (hlong : 60 < n ∨ 300 < s.size) :
    Calls Tryd.prog 3 #[.slice A n c, .string s, .int .i64 i, .agg #[.int .i64 x.1, .int .i64 x.2]] w fun e w' => e = .returned (.bool true) ∧ Below w.heap.size w w' := by
  obtain ⟨xk, xn⟩ := x
  have A1 : Below w.heap.size w (w.alloc (.cells #[.int .i64 xk, .int .i64 xn] 24)) := (Below.refl _ _).alloc (Nat.le_refl _) _
  have C := Lib.hid (lives_any _ (tabs_later hT A1))
  clear hT hr
  by_cases h1 : 60 < n
  · have d1 : decide ((60 : Int) < (n : Int)) = true := decide_eq_true (by omega)
    clear hlong h1
    go_enter Tryd.func3, Tryd.ntmps3
    go_wp2_with fail
    refine C.out.mono ?_
    rintro e w1 ⟨rfl, hb1⟩
    go_wp2
    go_ret
    exact ⟨rfl, A1.trans (hb1.mono A1.size)⟩
  · have d1 : decide ((60 : Int) < (n : Int)) = false := decide_eq_false (by omega)
    have d2 : decide ((300 : Int) < (s.size : Int)) = true := decide_eq_true (by omega)
    clear hlong h1
    go_enter Tryd.func3, Tryd.ntmps3
    go_wp2_with fail
    refine C.out.mono ?_
    rintro e w1 ⟨rfl, hb1⟩
    go_wp2
    go_ret
    exact ⟨rfl, A1.trans (hb1.mono A1.size)⟩
end Go.Proofs.YthmfiahmfdadgaaDoor
