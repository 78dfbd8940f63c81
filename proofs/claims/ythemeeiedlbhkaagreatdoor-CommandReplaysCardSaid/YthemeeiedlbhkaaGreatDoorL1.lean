/-
  Lists in a heap, in plain words: what is built, what a chain of conses is, rings. No walk in this text. Conditions: none.
  The small functions of package lists and of the kit, in the second memory. Conditions: the heap lies there as HeapAt says.
  Going through conses, and backward through a slice, in the second memory; what is done at each is a premise. Conditions: the heap lies there as HeapAt says.
  lists.Slice in the second memory. Conditions: the heap lies there as HeapAt says.
  A walk's registers put in order. Over any program. Conditions: none.
  lists.Slice in the second memory: the whole function. Conditions: the heap lies there as HeapAt says.
  slices.Backward and lists.build, lists.Make in the second memory. Conditions: the heap lies there as HeapAt says, no number is free below.
  lists.build and lists.Make in the second memory. Conditions: the heap lies there as HeapAt says, no number is free below, there is room.
  lists.Tail, Nth, Append, Length, eq in the second memory; the kit's Int and Pick. Conditions: the heap lies there as HeapAt says.
  slices.Reverse, lists.Append and lists.Reverse in the second memory. Conditions: the heap lies there as HeapAt says, no number is free below.
  lists.Append and lists.Reverse in the second memory. Conditions: the heap lies there as HeapAt says, no number is free below.
  copyistkit.Own and copyistkit.Same of words in the second memory. Conditions: none.
  Lists of conses as chains: what build leaves, what stays, what the functions of package lists answer. Conditions: the heap lies there as HeapAt says, no number is free below.
-/
import Derived.Test.YthemeeiedlbhkaaGreatDoorHg
import Derived.Test.YthemeeiedlbhkaaGreatDoorS4
import Derived.Test.YthemeeiedlbhkaaGreatDoorPick
namespace Go.Proofs.YthemeeiedlbhkaaGreatDoor
set_option maxRecDepth 100000

def Path (m : HM) (c a : Nat → Wd) (n : Nat) : Prop := ∀ j, j < n → m.find (c j) = some (.pair (a j) (c (j + 1)))
theorem Path.kind {m : HM} {c a : Nat → Wd} {n j : Nat} (h : Path m c a n) (hj : j < n) : (c j).1 = 2 := ((HM.find_mem (h j hj)).2.2).symm
def bld (m : HM) (l : List Wd) (t : Wd) : Nat → HM × Wd
  | 0 => (m, t)
  | j + 1 => ((bld m l t j).1.push (.pair (l.getD (l.length - 1 - j) (0, 0)) (bld m l t j).2), (2, ((bld m l t j).1.objs.length : Int)))
def built (m : HM) (l : List Wd) (t : Wd) : HM × Wd := bld m l t l.length
end Go.Proofs.YthemeeiedlbhkaaGreatDoor
namespace Go.Proofs.YthemeeiedlbhkaaGreatDoor
set_option maxRecDepth 100000
section
variable {G : Nat} {σ : Mem} {h : Nat} {m : HM}
abbrev pp (b : Nat) : Value := .pointer (some ⟨b, 0, none⟩)
end
end Go.Proofs.YthemeeiedlbhkaaGreatDoor
namespace Go.Proofs.YthemeeiedlbhkaaGreatDoor
set_option maxRecDepth 100000
abbrev wrow (x : Wd) : Blk2 := .row ⟨[.int .i64 x.1, .int .i64 x.2], 76, false⟩
section
variable {G : Nat} {h : Nat} {m : HM}
end
end Go.Proofs.YthemeeiedlbhkaaGreatDoor
namespace Go.Proofs.YthemeeiedlbhkaaGreatDoor
set_option maxRecDepth 100000
def rangePs : Code → Array Tmp | .rangeFunc _ ps _ _ => ps | _ => #[]
def rangeAs : Code → Code | .rangeFunc _ _ as_ _ => as_ | _ => .skip
def rangeBo : Code → Code | .rangeFunc _ _ _ bo => bo | _ => .skip
def rangeIn : Code → Code | .seq (.seq _ (.block _ r)) _ => r | _ => .skip
section
variable {G h : Nat} {m : HM} {σ0 σ σ' : Mem} {TA : Nat → Value} {a : Nat → Wd} {k : Nat} {cur : Wd}
structure SliceStop (h : Nat) (m : HM) (σ0 σ : Mem) : Prop where
  old : ∀ b y, σ0.get b = some y → σ.get b = some y
  nx : σ0.next + 10 ≤ σ.next
  abs : σ.abs = heapAbs h m
  r4 : σ.get (σ0.next + 1) = some (.row ⟨[.slice none 0 0], 111, false⟩)
  r5 : σ.get (σ0.next + 2) = some (.row ⟨[.int .i64 16], 31, false⟩)
  df : σ.get (σ0.next + 8) = some (.defs true)
  lp : ∃ nt' ta' ps' as' bo' df', σ.get (σ0.next + 9) = some (.loop .done (some .ret) nt' ta' ps' as' bo' df')
end
end Go.Proofs.YthemeeiedlbhkaaGreatDoor
namespace Go.Proofs.YthemeeiedlbhkaaGreatDoor
theorem GRow.one {G : Nat} {σ : Mem} {e : TypeId} {s n : Nat} {v : Value} {xs : List Value} (g : GRow G σ e s v n xs) : v.cells.toList = [v] := by cases g <;> rfl
end Go.Proofs.YthemeeiedlbhkaaGreatDoor
namespace Go.Proofs.YthemeeiedlbhkaaGreatDoor
set_option maxRecDepth 100000
section
variable {G h : Nat} {m : HM} {σ : Mem}
end
end Go.Proofs.YthemeeiedlbhkaaGreatDoor
namespace Go.Proofs.YthemeeiedlbhkaaGreatDoor
set_option maxRecDepth 100000
theorem sl_old {σ σ' : Mem} {s : Nat} {v : Value} {xs : List Value} (h : Sl σ s v xs) (k : ∀ b y, σ.get b = some y → σ'.get b = some y) : Sl σ' s v xs := by
  cases h with
  | nil => exact .nil
  | some hr hx hc => exact .some (k _ _ hr) hx hc
def SlW (σ : Mem) (v : Value) (l : List Wd) : Prop := 0 < l.length → Sl σ 2 v (wdC l)
theorem slw_old {σ σ' : Mem} {v : Value} {l : List Wd} (h : SlW σ v l) (k : ∀ b y, σ.get b = some y → σ'.get b = some y) : SlW σ' v l := fun hl => sl_old (h hl) k
section
variable {G h : Nat} {m : HM} {σ σ0 : Mem}
end
end Go.Proofs.YthemeeiedlbhkaaGreatDoor
namespace Go.Proofs.YthemeeiedlbhkaaGreatDoor
set_option maxRecDepth 100000
noncomputable abbrev buildR : Code := rangeIn (restN 2 (bodyOf Tryz.f125))
noncomputable abbrev bldLp (TA : Nat → Value) (D : Nat) : Blk2 := rdy 31 TA (rangePs buildR) (rangeAs buildR) (rangeBo buildR) D
structure BuildAt (h : Nat) (m : HM) (l : List Wd) (t : Wd) (s : Value) (σ0 σ : Mem) (TA : Nat → Value) (k : Nat) : Prop where
  old : ∀ b y, σ0.get b = some y → σ.get b = some y
  nx : σ0.next + 6 ≤ σ.next
  abs : σ.abs = heapAbs h (bld m l t k).1
  r3 : σ.get σ0.next = some (.row ⟨[pp h], 64, false⟩)
  r5 : σ.get (σ0.next + 1) = some (wrow (bld m l t k).2)
  r6 : σ.get (σ0.next + 2) = some (wrow (0, 0))
  b1 : σ.get (σ0.next + 3) = some (.row ⟨[s], 111, false⟩)
  df : σ.get (σ0.next + 4) = some (.defs true)
  lp : σ.get (σ0.next + 5) = some (bldLp TA (σ0.next + 4))
section
variable {G h : Nat} {m : HM} {l : List Wd} {t : Wd} {s : Value} {σ0 σ σ' : Mem} {TA : Nat → Value} {k : Nat}
structure GrowA (σ σ' : Mem) : Prop where
  old : ∀ b y, σ.get b = some y → σ'.get b = some y
  nx : σ.next ≤ σ'.next
theorem Grow.a (h : Grow σ σ') : GrowA σ σ' := ⟨h.old, h.nx⟩
theorem GrowA.trans {σ2 : Mem} (h : GrowA σ σ') (k : GrowA σ' σ2) : GrowA σ σ2 := ⟨fun b y hy => k.old b y (h.old b y hy), Nat.le_trans h.nx k.nx⟩
theorem GrowA.set {σ2 : Mem} {b : Nat} {x : Blk2} (h : GrowA σ0 σ) (k : Set1 σ σ2 b x) (hb : σ0.next ≤ b) : GrowA σ0 σ2 := ⟨fun c y hy => k.old c y (by have := Mem.lt hy; omega) (h.old c y hy), by rw [k.nx]; exact h.nx⟩
end
end Go.Proofs.YthemeeiedlbhkaaGreatDoor
namespace Go.Proofs.YthemeeiedlbhkaaGreatDoor
open Go.RowKit
set_option maxRecDepth 100000
section
variable {G h : Nat} {m : HM} {σ0 σ : Mem}
theorem s_pick (x n : Int) (h1 : -9223372036854775808 ≤ x) (h2 : x ≤ 9223372036854775807) (h3 : 0 < n) (h4 : n ≤ 9223372036854775807) : SCall G Tryz.prog 11 #[.int .i64 x, .int .i64 n] σ (.int .i64 (pickOf x n)) σ :=
  below_call rfl rfl fun w => (pick_any x n w h1 h2 (by omega) h4).mono fun e w' ⟨k1, k2⟩ => ⟨k1, k2 ▸ Below.refl _ _⟩
end
end Go.Proofs.YthemeeiedlbhkaaGreatDoor
namespace Go.Proofs.YthemeeiedlbhkaaGreatDoor
set_option maxRecDepth 100000
section
variable {G h : Nat} {m : HM} {σ σ0 : Mem}
end
end Go.Proofs.YthemeeiedlbhkaaGreatDoor
namespace Go.Proofs.YthemeeiedlbhkaaGreatDoor
set_option maxRecDepth 100000
section
variable {G h : Nat} {m : HM} {σ σ0 : Mem}
end
end Go.Proofs.YthemeeiedlbhkaaGreatDoor
namespace Go.Proofs.YthemeeiedlbhkaaGreatDoor
set_option maxRecDepth 100000
structure Vw (σ : Mem) (v : Value) (l : List Wd) : Prop where
  len : lenF Tryz.prog 111 v = some (.int .i64 l.length)
  at_ : SlW σ v l
theorem Vw.old {σ σ' : Mem} {v : Value} {l : List Wd} (h : Vw σ v l) (k : ∀ b y, σ.get b = some y → σ'.get b = some y) : Vw σ' v l := ⟨h.len, slw_old h.at_ k⟩
structure AW (G : Nat) (σ : Mem) (v : Value) (l : List Wd) : Prop where
  vw : Vw σ v l
  one : v.cells.toList = [v]
  src : srcF σ 2 v = some (l.length, wdC l)
inductive OwnW (G : Nat) (σ : Mem) : Value → List Wd → Prop
  | emp {b : Nat} {g : Bool} (hb : G ≤ b) (hr : σ.get b = some (.row ⟨[], 76, g⟩)) : OwnW G σ (.slice (some ⟨b, 0, none⟩) 0 0) []
  | row {v : Value} {l : List Wd} (h0 : 0 < l.length) (h : GRow G σ 76 2 v l.length (wdC l)) : OwnW G σ v l
section
variable {G h : Nat} {m : HM} {σ σ0 : Mem}
theorem OwnW.vw {v : Value} {l : List Wd} (h : OwnW G σ v l) : Vw σ v l := by
  cases h with
  | emp hb hr => exact ⟨by kernel_rfl, fun h => absurd h (by simp)⟩
  | row h0 h => exact ⟨h.len (by kernel_rfl), fun _ => h.sl⟩
end
end Go.Proofs.YthemeeiedlbhkaaGreatDoor
namespace Go.Proofs.YthemeeiedlbhkaaGreatDoor
set_option maxRecDepth 100000
def Chain (m : HM) (c : Nat → Wd) (l : List Wd) : Prop := c l.length = (1, 0) ∧ Path m c (fun j => l.getD j (0, 0)) l.length
def FindsAll (m m' : HM) : Prop := ∀ x o, m.find x = some o → m'.find x = some o
theorem FindsAll.trans {m m1 m2 : HM} (h : FindsAll m m1) (k : FindsAll m1 m2) : FindsAll m m2 := fun x o e => k x o (h x o e)
theorem Path.mono {m m' : HM} {c a : Nat → Wd} {n : Nat} (h : Path m c a n) (k : FindsAll m m') : Path m' c a n := fun j hj => k _ _ (h j hj)
theorem Chain.mono {m m' : HM} {c : Nat → Wd} {l : List Wd} (h : Chain m c l) (k : FindsAll m m') : Chain m' c l := ⟨h.1, h.2.mono k⟩
theorem Chain.drop {m : HM} {c : Nat → Wd} {l : List Wd} (h : Chain m c l) {k : Nat} (hk : k ≤ l.length) : Chain m (fun j => c (k + j)) (l.drop k) := by
  refine ⟨?_, fun j hj => ?_⟩
  · show c (k + _) = _
    rw [List.length_drop, show k + (l.length - k) = l.length by omega]; exact h.1
  · rw [List.length_drop] at hj
    have := h.2 (k + j) (by omega)
    show m.find (c (k + j)) = some (.pair ((l.drop k).getD j (0, 0)) (c (k + j + 1)))
    rw [show (l.drop k).getD j (0, 0) = l.getD (k + j) (0, 0) by simp [List.getD_eq_getElem?_getD]]
    exact this
abbrev hm0 (L : Nat) : HM := ⟨L, [], []⟩
section
variable {G h : Nat} {m : HM} {σ σ0 : Mem}
end
end Go.Proofs.YthemeeiedlbhkaaGreatDoor
