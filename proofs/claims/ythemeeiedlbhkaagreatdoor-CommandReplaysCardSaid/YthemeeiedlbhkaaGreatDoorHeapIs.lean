/-
  What a heap (package heap) is in memory: its objects, its free numbers, who owns which block. Conditions: none.
-/
import Derived.Test.YthemeeiedlbhkaaGreatDoorB1
import Derived.Test.YthemeeiedlbhkaaGreatDoorUtf
namespace Go.Proofs.YthemeeiedlbhkaaGreatDoor
open Go.RowKit
set_option maxRecDepth 100000

abbrev Wd := Int × Int
def wdV (x : Wd) : Value := .agg #[.int .i64 x.1, .int .i64 x.2]
def wdC (l : List Wd) : List Value := l.flatMap fun x => [.int .i64 x.1, .int .i64 x.2]

inductive HObj where
  | pair (a d : Wd)
  | text (s : ByteArray)
  | vec (l : List Wd)
  | code (least most depth : Int) (bs : List Int) (cs : List Wd)

def HObj.kind : HObj → Int
  | .pair _ _ => 2
  | .text _ => 3
  | .vec _ => 4
  | .code _ _ _ _ _ => 6
def HObj.size : HObj → Nat
  | .pair _ _ => 0
  | .text s => lenOf s.data.toList
  | .vec l => l.length
  | .code _ _ _ bs cs => bs.length + cs.length

def RowOf (w : World) (S : Own) (k : Nat) (e : TypeId) (size : Nat) (v : Value) (n : Nat) (xs : List Value) : Prop :=
  w.ownsRow 0 e size v n xs ∧ ∀ g, v.ownBlock = some g → S g = some k
def ObjAt (w : World) (S : Own) (k : Nat) (v : Value) : HObj → Prop
  | .pair a d => ∃ b, v = .iface 229 (.pointer (some ⟨b, 0, none⟩)) ∧ S b = some k ∧ Blk w b 233 #[.int .i64 a.1, .int .i64 a.2, .int .i64 d.1, .int .i64 d.2]
  | .text s => ∃ b, v = .iface 174 (.pointer (some ⟨b, 0, none⟩)) ∧ S b = some k ∧ Blk w b 180 #[.string s]
  | .vec l => ∃ b r, v = .iface 249 (.pointer (some ⟨b, 0, none⟩)) ∧ S b = some k ∧ Blk w b 252 #[r] ∧ RowOf w S k 76 2 r l.length (wdC l)
  | .code _ _ _ _ _ => False
def CellIs (w : World) (S : Own) (k : Nat) (v : Value) : Option HObj → Prop
  | none => v = .nilIface
  | some o => ObjAt w S k v o

structure HM where
  limit : Nat
  objs : List (Option HObj)
  free : List Int
def optSize : Option HObj → Nat
  | none => 0
  | some o => o.size
def HM.many (m : HM) : Nat := (m.objs.filter Option.isSome).length
def HM.used (m : HM) : Nat := (m.objs.map optSize).sum

structure HeapIn (w : World) (S : Own) (p : Nat) (m : HM) (vo vf : Value) (os : List Value) : Prop where
  blk : Blk w p 134 #[.int .i64 m.limit, .int .i64 m.many, .int .i64 m.used, vo, vf]
  own : S p = some 0
  row : w.ownsRow 0 177 1 vo os.length os
  rowOwn : ∀ g, vo.ownBlock = some g → S g = some 1
  len : os.length = m.objs.length
  objs : ∀ i v o, os[i]? = some v → m.objs[i]? = some o → CellIs w S (i + 3) v o
  fre : w.ownsRow 0 3 1 vf m.free.length (m.free.map (Value.int .i64))
  freOwn : ∀ g, vf.ownBlock = some g → S g = some 2
  lt : ∀ b, S b ≠ none → b < w.heap.size

structure HM.Ok (m : HM) : Prop where
  lo : 1 ≤ m.limit
  hi : m.limit ≤ 65536
  len : m.objs.length ≤ m.limit
  used : m.used ≤ 1048576
  free : m.free.length + m.many = m.objs.length

def HeapAt (w : World) (S : Own) (p : Nat) (m : HM) : Prop := m.Ok ∧ ∃ vo vf os, HeapIn w S p m vo vf os

section
variable {w w' : World} {S S' : Own} {k : Nat} {v : Value}
theorem RowOf.keep {e : TypeId} {size n : Nat} {xs : List Value} (h : RowOf w S k e size v n xs) (hk : ∀ b, S b = some k → w'.heap[b]? = w.heap[b]? ∧ S' b = some k) : RowOf w' S' k e size v n xs :=
  ⟨owns_keep h.1 fun g hg => (hk g (h.2 g hg)).1, fun g hg => (hk g (h.2 g hg)).2⟩
theorem ObjAt.keep {o : HObj} (h : ObjAt w S k v o) (hk : ∀ b, S b = some k → w'.heap[b]? = w.heap[b]? ∧ S' b = some k) : ObjAt w' S' k v o := by
  cases o with
  | pair a d => obtain ⟨b, h1, h2, h3⟩ := h; exact ⟨b, h1, (hk b h2).2, h3.keep (hk b h2).1⟩
  | text s => obtain ⟨b, h1, h2, h3⟩ := h; exact ⟨b, h1, (hk b h2).2, h3.keep (hk b h2).1⟩
  | vec l => obtain ⟨b, r, h1, h2, h3, h4⟩ := h; exact ⟨b, r, h1, (hk b h2).2, h3.keep (hk b h2).1, h4.keep hk⟩
  | code x y z bs cs => exact h.elim
theorem CellIs.keep {o : Option HObj} (h : CellIs w S k v o) (hk : ∀ b, S b = some k → w'.heap[b]? = w.heap[b]? ∧ S' b = some k) : CellIs w' S' k v o := by
  cases o with
  | none => exact h
  | some o => exact ObjAt.keep h hk
end
theorem HeapIn.keep {w w' : World} {S : Own} {p : Nat} {m : HM} {vo vf : Value} {os : List Value} (h : HeapIn w S p m vo vf os) (hs : w.heap.size ≤ w'.heap.size) (hk : ∀ b, S b ≠ none → w'.heap[b]? = w.heap[b]?) : HeapIn w' S p m vo vf os where
  blk := h.blk.keep (hk p (by rw [h.own]; simp))
  own := h.own
  row := owns_keep h.row fun g hg => hk g (by rw [h.rowOwn g hg]; simp)
  rowOwn := h.rowOwn
  len := h.len
  objs := fun i v o h1 h2 => (h.objs i v o h1 h2).keep fun b hb => ⟨hk b (by rw [hb]; simp), hb⟩
  fre := owns_keep h.fre fun g hg => hk g (by rw [h.freOwn g hg]; simp)
  freOwn := h.freOwn
  lt := fun b hb => Nat.lt_of_lt_of_le (h.lt b hb) hs
theorem HeapAt.keep {w w' : World} {S : Own} {p : Nat} {m : HM} (h : HeapAt w S p m) (hs : w.heap.size ≤ w'.heap.size) (hk : ∀ b, S b ≠ none → w'.heap[b]? = w.heap[b]?) : HeapAt w' S p m := by
  obtain ⟨h1, vo, vf, os, h2⟩ := h
  exact ⟨h1, vo, vf, os, h2.keep hs hk⟩
theorem HeapAt.lt {w : World} {S : Own} {p : Nat} {m : HM} (h : HeapAt w S p m) : ∀ b, S b ≠ none → b < w.heap.size := by
  obtain ⟨_, vo, vf, os, h2⟩ := h
  exact h2.lt
theorem HeapAt.below {w w' : World} {S : Own} {p : Nat} {m : HM} (h : HeapAt w S p m) (hb : Below w.heap.size w w') : HeapAt w' S p m :=
  h.keep hb.size fun b hS => hb.block b (h.lt b hS)
end Go.Proofs.YthemeeiedlbhkaaGreatDoor
