/-
  Lists in a heap, in plain words: what is built, what a chain of conses is, rings. No walk in this text. Conditions: none.
  The small functions of package lists and of the kit, in the second memory. Conditions: the heap lies there as HeapAt says.
  Going through conses, and backward through a slice, in the second memory; what is done at each is a premise. Conditions: the heap lies there as HeapAt says.
  lists.Slice in the second memory. Conditions: the heap lies there as HeapAt says.
  A walk's registers put in order. Over any program. Conditions: none.
  lists.Slice in the second memory: the whole function. Conditions: the heap lies there as HeapAt says.
  slices.Backward and lists.build, lists.Make in the second memory. Conditions: the heap lies there as HeapAt says, no number is free below.
  lists.build and lists.Make in the second memory. Conditions: the heap lies there as HeapAt says, no number is free below, there is room.
  lists.Tail, Nth, Append, Length, eq in the second memory; the kit's Int and Pick. Conditions: the heap lies there as HeapAt says.
  slices.Reverse, lists.Append and lists.Reverse in the second memory. Conditions: the heap lies there as HeapAt says, no number is free below.
  lists.Append and lists.Reverse in the second memory. Conditions: the heap lies there as HeapAt says, no number is free below.
  copyistkit.Own and copyistkit.Same of words in the second memory. Conditions: none.
  Lists of conses as chains: what build leaves, what stays, what the functions of package lists answer. Conditions: the heap lies there as HeapAt says, no number is free below.
-/
import Derived.Test.YthemeeiedlbhkaaGreatDoorHg
import Derived.Test.YthemeeiedlbhkaaGreatDoorS4
import Derived.Test.YthemeeiedlbhkaaGreatDoorPick
namespace Go.Proofs.YthemeeiedlbhkaaGreatDoor
set_option maxRecDepth 100000

/-- The first n conses from c 0 on hold a 0, a 1, ..; each one's tail is the next. -/
def Path (m : HM) (c a : Nat → Wd) (n : Nat) : Prop := ∀ j, j < n → m.find (c j) = some (.pair (a j) (c (j + 1)))
theorem Path.kind {m : HM} {c a : Nat → Wd} {n j : Nat} (h : Path m c a n) (hj : j < n) : (c j).1 = 2 := ((HM.find_mem (h j hj)).2.2).symm
theorem find_at {m : HM} {i : Nat} {a d : Wd} (h : m.objs[i]? = some (some (.pair a d))) : m.find (2, (i : Int)) = some (.pair a d) := by
  have h1 : ¬ (i : Int) < 0 := by omega
  simp [HM.find, h1, h, HObj.kind]
theorem car_of {m : HM} {x a d : Wd} (h : m.find x = some (.pair a d)) : m.car x = (a, 0) := by simp [HM.car, h]
theorem cdr_of {m : HM} {x a d : Wd} (h : m.find x = some (.pair a d)) : m.cdr x = (d, 0) := by simp [HM.cdr, h]
/-- A heap of conses. -/
def Conses (m : HM) : Prop := ∀ (i : Nat) (o : HObj), m.objs[i]? = some (some o) → ∃ a d, o = .pair a d
/-- What build leaves after j conses: the last element first. -/
def bld (m : HM) (l : List Wd) (t : Wd) : Nat → HM × Wd
  | 0 => (m, t)
  | j + 1 => ((bld m l t j).1.push (.pair (l.getD (l.length - 1 - j) (0, 0)) (bld m l t j).2), (2, ((bld m l t j).1.objs.length : Int)))
theorem bld_is (m : HM) (l : List Wd) (t : Wd) : ∀ j, (bld m l t j).1 = { m with objs := m.objs ++ (List.range j).map fun i => some (.pair (l.getD (l.length - 1 - i) (0, 0)) (if i = 0 then t else (2, ((m.objs.length + i - 1 : Nat) : Int)))) } ∧ (bld m l t j).2 = if j = 0 then t else (2, ((m.objs.length + j - 1 : Nat) : Int))
  | 0 => by simp [bld]
  | j + 1 => by
    obtain ⟨h1, h2⟩ := bld_is m l t j
    refine ⟨?_, ?_⟩
    · simp only [bld, HM.push]
      rw [h1, h2]
      simp [List.range_succ]
    · simp only [bld]
      rw [h1]
      simp
theorem bld_many {m : HM} (l : List Wd) (t : Wd) (j : Nat) : (bld m l t j).1.many = m.many + j := by
  rw [(bld_is m l t j).1]
  unfold HM.many
  simp only [List.filter_append, List.length_append]
  congr 1
  rw [List.filter_eq_self.2]
  · simp
  · intro a ha
    obtain ⟨i, _, rfl⟩ := List.mem_map.1 ha
    rfl
theorem bld_limit {m : HM} (l : List Wd) (t : Wd) (j : Nat) : (bld m l t j).1.limit = m.limit := by rw [(bld_is m l t j).1]
theorem bld_free {m : HM} (l : List Wd) (t : Wd) (j : Nat) : (bld m l t j).1.free = m.free := by rw [(bld_is m l t j).1]
theorem bld_get {m : HM} (l : List Wd) (t : Wd) {n i : Nat} (hi : i < n) : (bld m l t n).1.objs[m.objs.length + i]? = some (some (.pair (l.getD (l.length - 1 - i) (0, 0)) (if i = 0 then t else (2, ((m.objs.length + i - 1 : Nat) : Int))))) := by
  rw [(bld_is m l t n).1]
  simp only
  rw [List.getElem?_append_right (by omega), List.getElem?_map, show m.objs.length + i - m.objs.length = i by omega, List.getElem?_range hi]
  rfl
/-- The heap with all of l built on t, and the list's word. -/
def built (m : HM) (l : List Wd) (t : Wd) : HM × Wd := bld m l t l.length
/-- The j-th cons of the list that build has made. -/
def consOf (m : HM) (l : List Wd) (t : Wd) (j : Nat) : Wd := if j < l.length then (2, ((m.objs.length + l.length - 1 - j : Nat) : Int)) else t
theorem built_path (m : HM) (l : List Wd) (t : Wd) : Path (built m l t).1 (consOf m l t) (fun j => l.getD j (0, 0)) l.length := fun j hj => by
  have h := bld_get (m := m) l t (n := l.length) (i := l.length - 1 - j) (by omega)
  have h2 := find_at h
  unfold consOf
  rw [if_pos hj, show m.objs.length + l.length - 1 - j = m.objs.length + (l.length - 1 - j) by omega]
  unfold built
  rw [h2, show l.length - 1 - (l.length - 1 - j) = j by omega]
  congr 2
  by_cases h3 : j + 1 < l.length
  · rw [if_neg (by omega), if_pos h3]
    congr 2
    omega
  · rw [if_pos (by omega), if_neg h3]
theorem built_word (m : HM) (l : List Wd) (t : Wd) : (built m l t).2 = consOf m l t 0 := by
  unfold built consOf
  rw [(bld_is m l t l.length).2]
  by_cases h : l.length = 0
  · rw [if_pos h, if_neg (by omega)]
  · rw [if_neg h, if_pos (by omega)]
    congr 2
theorem built_end (m : HM) (l : List Wd) (t : Wd) : consOf m l t l.length = t := by unfold consOf; rw [if_neg (by omega)]
end Go.Proofs.YthemeeiedlbhkaaGreatDoor
namespace Go.Proofs.YthemeeiedlbhkaaGreatDoor
set_option maxRecDepth 100000
section
variable {G : Nat} {σ : Mem} {h : Nat} {m : HM}
theorem resW {ta : Nat → Value} {a : Tmp} {b : Nat} {t : TypeId} {g : Bool} {x y : Int} {vs : List Value} {rv : List ResultVar} (ha : ta a = .pointer (some ⟨b, 0, none⟩)) (hr : σ.get b = some (.row ⟨[.int .i64 x, .int .i64 y], t, g⟩)) (k : resL Tryz.prog ta σ rv = some vs) : resL Tryz.prog ta σ (.cell a 76 :: rv) = some (.agg #[.int .i64 x, .int .i64 y] :: vs) :=
  resL_cell (n := 2) ha hr ((uT_eq _ _).trans Tryz.underlying76) (by kernel_rfl) rfl (by kernel_rfl) k
theorem s_none : SCall G Tryz.prog 126 #[] σ (wdV (1, 0)) σ :=
  closed_scall (G := 16) (n := 100) (K := noK []) (args := []) noK_right (by kernel_rfl) rfl rfl (fun _ _ h => by cases h) (fun _ _ h => by cases h) (fun _ _ h => by cases h) σ (fun _ _ h => by cases h)
theorem made_wc (ha : σ.abs = heapAbs h m) (hm : 0 < m.limit) : WC G Tryz.prog 124 #[.pointer (some ⟨h, 0, none⟩)] σ fun v σ' => v = .bool true ∧ σ' = σ := by
  have CL := s_limit (G := G) ha
  refine WC.enter (fn := Tryz.f124) Tryz.func124 rfl ?_
  refine W.seq ?_
  refine W.region ?_
  refine RW.val (by kernel_rfl) (by kernel_rfl) rfl (by kernel_rfl) ?_
  refine RW.nil ?_
  refine W.seq ?_
  refine W.region ?_
  refine RW.val (by kernel_rfl) (by kernel_rfl) rfl (by kernel_rfl) ?_
  refine RW.call (by kernel_rfl) (by kernel_rfl) rfl rfl rfl (by kernel_rfl) (by kernel_rfl) ⟨_, _, CL, ?_⟩
  refine RW.valE (v' := .bool true) (by kernel_rfl) (by kernel_rfl) rfl (congrArg Value.bool (decide_eq_true (by omega))) (by kernel_rfl) ?_
  refine RW.val (by kernel_rfl) (by kernel_rfl) rfl (by kernel_rfl) ?_
  refine RW.nil ?_
  refine W.ret ?_
  exact endG rfl (resL_tmp rfl) ⟨rfl, rfl⟩
abbrev pp (b : Nat) : Value := .pointer (some ⟨b, 0, none⟩)
end
end Go.Proofs.YthemeeiedlbhkaaGreatDoor
namespace Go.Proofs.YthemeeiedlbhkaaGreatDoor
set_option maxRecDepth 100000
abbrev wrow (x : Wd) : Blk2 := .row ⟨[.int .i64 x.1, .int .i64 x.2], 76, false⟩
section
variable {G : Nat} {h : Nat} {m : HM}
end
end Go.Proofs.YthemeeiedlbhkaaGreatDoor
namespace Go.Proofs.YthemeeiedlbhkaaGreatDoor
set_option maxRecDepth 100000
def rangePs : Code → Array Tmp | .rangeFunc _ ps _ _ => ps | _ => #[]
def rangeAs : Code → Code | .rangeFunc _ _ as_ _ => as_ | _ => .skip
def rangeBo : Code → Code | .rangeFunc _ _ _ bo => bo | _ => .skip
def rangeIn : Code → Code | .seq (.seq _ (.block _ r)) _ => r | _ => .skip
def firstN (a : Nat → Wd) (k : Nat) : List Wd := (List.range k).map a
theorem firstN_succ (a : Nat → Wd) (k : Nat) : firstN a (k + 1) = firstN a k ++ [a k] := by simp [firstN, List.range_succ]
theorem firstN_length (a : Nat → Wd) (k : Nat) : (firstN a k).length = k := by simp [firstN]
section
variable {G h : Nat} {m : HM} {σ0 σ σ' : Mem} {TA : Nat → Value} {a : Nat → Wd} {k : Nat} {cur : Wd}
/-- Slice has given up. -/
structure SliceStop (h : Nat) (m : HM) (σ0 σ : Mem) : Prop where
  old : ∀ b y, σ0.get b = some y → σ.get b = some y
  nx : σ0.next + 10 ≤ σ.next
  abs : σ.abs = heapAbs h m
  r4 : σ.get (σ0.next + 1) = some (.row ⟨[.slice none 0 0], 111, false⟩)
  r5 : σ.get (σ0.next + 2) = some (.row ⟨[.int .i64 16], 31, false⟩)
  df : σ.get (σ0.next + 8) = some (.defs true)
  lp : ∃ nt' ta' ps' as' bo' df', σ.get (σ0.next + 9) = some (.loop .done (some .ret) nt' ta' ps' as' bo' df')
end
end Go.Proofs.YthemeeiedlbhkaaGreatDoor
namespace Go.Proofs.YthemeeiedlbhkaaGreatDoor
def OkL (ta : Nat → Value) : List (Nat × Value) → Prop
  | [] => True
  | (k, x) :: l => ta k = x ∧ OkL ta l
def updL (ta : Nat → Value) : List (Nat × Value) → Nat → Value
  | [] => ta
  | (k, x) :: l => upd (updL ta l) k x
theorem updL_same {ta : Nat → Value} : ∀ {L : List (Nat × Value)}, OkL ta L → updL ta L = ta
  | [], _ => rfl
  | (k, x) :: l, h => by
    show upd (updL ta l) k x = ta
    rw [updL_same h.2, upd_same h.1]
theorem W.reset {P : Program} {G nt : Nat} {rd : Option Nat} {c : Code} {ta : Nat → Value} {dm : List DItem} {σ : Mem} {Q : Exit → (Nat → Value) → List DItem → Mem → Prop} (L : List (Nat × Value)) (h : OkL ta L) (k : ∀ TA, W G P rd nt c (updL TA L) dm σ Q) : W G P rd nt c ta dm σ Q := by
  have := k ta
  rwa [updL_same h] at this
theorem resE {σ : Mem} {ta : Nat → Value} {a : Tmp} {b : Nat} {t : TypeId} {g : Bool} {v : Value} {vs : List Value} {rv : List ResultVar} (ha : ta a = .pointer (some ⟨b, 0, none⟩)) (hr : σ.get b = some (.row ⟨[v], t, g⟩)) (k : resL Tryz.prog ta σ rv = some vs) : resL Tryz.prog ta σ (.cell a 31 :: rv) = some (v :: vs) :=
  resL_cell (n := 1) ha hr ((uT_eq _ _).trans Tryz.underlying31) (by kernel_rfl) rfl (by kernel_rfl) k
theorem GRow.one {G : Nat} {σ : Mem} {e : TypeId} {s n : Nat} {v : Value} {xs : List Value} (g : GRow G σ e s v n xs) : v.cells.toList = [v] := by cases g <;> rfl
end Go.Proofs.YthemeeiedlbhkaaGreatDoor
namespace Go.Proofs.YthemeeiedlbhkaaGreatDoor
set_option maxRecDepth 100000
theorem set1_put {σ : Mem} {b : Nat} {x y : Blk2} (h : σ.get b = some y) : Set1 σ (σ.put b x) b x := ⟨get_put h, fun _ _ hc hy => get_put_ne hy hc, rfl, rfl⟩
section
variable {G h : Nat} {m : HM} {σ : Mem}
theorem resS {ta : Nat → Value} {a : Tmp} {b : Nat} {t : TypeId} {g : Bool} {v : Value} {vs : List Value} {rv : List ResultVar} (ha : ta a = .pointer (some ⟨b, 0, none⟩)) (hr : σ.get b = some (.row ⟨[v], t, g⟩)) (k : resL Tryz.prog ta σ rv = some vs) : resL Tryz.prog ta σ (.cell a 111 :: rv) = some (v :: vs) :=
  resL_cell (n := 1) ha hr ((uT_eq _ _).trans Tryz.underlying111) (by kernel_rfl) rfl (by kernel_rfl) k
/-- What Slice answers. -/
def SliceR (G : Nat) (n : Nat) (c a : Nat → Wd) (σ0 : Mem) (v : Value) (σ' : Mem) : Prop :=
  Grow σ0 σ' ∧ ((n = 65537 ∧ v = .tuple #[.slice none 0 0, .int .i64 16]) ∨ (n ≤ 65536 ∧ c n ≠ (1, 0) ∧ v = .tuple #[.slice none 0 0, .int .i64 6]) ∨
    (n ≤ 65536 ∧ c n = (1, 0) ∧ ∃ sl, v = .tuple #[sl, .int .i64 0] ∧ GRow G σ' 76 2 sl n (wdC (firstN a n)) ∧ ∀ b, blkOf sl = some b → σ0.next ≤ b))
end
end Go.Proofs.YthemeeiedlbhkaaGreatDoor
namespace Go.Proofs.YthemeeiedlbhkaaGreatDoor
set_option maxRecDepth 100000
theorem sl_old {σ σ' : Mem} {s : Nat} {v : Value} {xs : List Value} (h : Sl σ s v xs) (k : ∀ b y, σ.get b = some y → σ'.get b = some y) : Sl σ' s v xs := by
  cases h with
  | nil => exact .nil
  | some hr hx hc => exact .some (k _ _ hr) hx hc
theorem sl_at {σ : Mem} {v : Value} {l : List Wd} (h : Sl σ 2 v (wdC l)) {j : Nat} (hj : j < l.length) : ∃ b p sp c r, v = .slice (some ⟨b, p, sp⟩) l.length c ∧ σ.get b = some (.row r) ∧ (r.cs.drop (p + ((j : Nat) : Int).toNat * 2)).take 2 = [.int .i64 (l.getD j (0, 0)).1, .int .i64 (l.getD j (0, 0)).2] := by
  have hlen := wdC_length l
  generalize hxs : wdC l = xs at h
  cases h with
  | nil => rw [hxs] at hlen; simp at hlen; exact absurd hj (by omega)
  | @some b p n c sp r _ hr hx hc =>
    rw [hxs, hx] at hlen
    obtain rfl : n = l.length := by omega
    refine ⟨b, p, sp, c, r, rfl, hr, ?_⟩
    obtain ⟨w0, w1⟩ := wdC_get l j hj
    rw [hxs] at w0 w1
    have c0 := hc _ _ w0
    have c1 := hc _ _ w1
    have hg : l.getD j (0, 0) = l[j] := by simp [List.getD_eq_getElem?_getD, hj]
    rw [hg, Int.toNat_natCast]
    have h1 : p + j * 2 + 1 < r.cs.length := by
      rw [← Nat.add_assoc] at c1
      exact (List.getElem?_eq_some_iff.1 c1).1
    rw [List.drop_eq_getElem_cons (by omega), List.drop_eq_getElem_cons (by omega)]
    rw [List.getElem?_eq_getElem (by omega)] at c0
    rw [show p + (j * 2 + 1) = p + j * 2 + 1 by omega, List.getElem?_eq_getElem h1] at c1
    simp only [List.take_succ_cons, List.take_zero]
    rw [Option.some.inj c0, Option.some.inj c1]
/-- A slice of words, empty or as it lies. -/
def SlW (σ : Mem) (v : Value) (l : List Wd) : Prop := 0 < l.length → Sl σ 2 v (wdC l)
theorem slw_old {σ σ' : Mem} {v : Value} {l : List Wd} (h : SlW σ v l) (k : ∀ b y, σ.get b = some y → σ'.get b = some y) : SlW σ' v l := fun hl => sl_old (h hl) k
section
variable {G h : Nat} {m : HM} {σ σ0 : Mem}
theorem backward_wc (s : Value) (hs : s.cells.toList = [s]) (_hG : G ≤ σ.next) : WC G Tryz.prog 157 #[s] σ fun v σ' => v = .func (.func 178) #[] #[pp σ.next] ∧ Grow σ σ' ∧ σ'.next = σ.next + 1 ∧ σ'.get σ.next = some (.row ⟨[s], 111, false⟩) := by
  refine WC.enter (fn := Tryz.f157) Tryz.func157 rfl ?_
  refine W.seq ?_
  refine W.region ?_
  refine RW.makeG (x := .row ⟨s.cells.toList, 111, false⟩) (fm := fun b => .pointer (some ⟨b, 0, none⟩)) (by kernel_rfl) (by kernel_rfl) (by kernel_rfl) (by kernel_rfl) ?_; intro σ1 _ g1 G1 n1
  rw [hs] at g1
  refine RW.val (by kernel_rfl) (by kernel_rfl) rfl (by kernel_rfl) ?_
  refine RW.nil ?_
  refine W.seq ?_
  refine W.region ?_
  refine RW.val (by kernel_rfl) (by kernel_rfl) rfl (by kernel_rfl) ?_
  refine RW.val (by kernel_rfl) (by kernel_rfl) rfl (by kernel_rfl) ?_
  refine RW.nil ?_
  refine W.ret ?_
  exact endG rfl (resL_tmp rfl) ⟨by kernel_rfl, G1, n1, g1⟩
theorem backLoop {l : List Wd} {s : Value} {b1 L : Nat} (hL : G ≤ L) (hlen : lenF Tryz.prog 111 s = some (.int .i64 l.length)) (hl : l.length ≤ 1000000) {I : Nat → Mem → Prop} {R : Mem → Prop}
    (hI : ∀ k σ, I k σ → σ.get b1 = some (.row ⟨[s], 111, false⟩) ∧ SlW σ s l)
    (hy : ∀ k j σ, k + 1 + j = l.length → I k σ → Yield G Tryz.prog L [.int .i64 (j : Int), wdV (l.getD j (0, 0))] σ fun r σ' => r = true ∧ I (k + 1) σ')
    (hend : ∀ σ, I l.length σ → R σ) (h0 : I 0 σ0) :
    WC G Tryz.prog 178 #[.func (.yield L) #[] #[], pp b1] σ0 fun _ σ' => R σ' := by
  refine WC.enter (fn := Tryz.f178) Tryz.func178 rfl ?_
  refine W.know 0 (x := .func (.yield L) #[] #[]) rfl (W.know 1 (x := pp b1) rfl ?_)
  refine W.seq ?_
  refine W.region ?_
  refine RW.load (by kernel_rfl) (by kernel_rfl) rfl rfl (hI 0 σ0 h0).1 rfl rfl (by kernel_rfl) ?_
  refine RW.len (by kernel_rfl) (by kernel_rfl) rfl rfl rfl rfl hlen (by kernel_rfl) ?_
  refine RW.valE (by kernel_rfl) (by kernel_rfl) rfl (congrArg (Value.int .i64) (wrap_in (by omega) (by omega))) (by kernel_rfl) ?_
  refine RW.val (by kernel_rfl) (by kernel_rfl) rfl (by kernel_rfl) ?_
  refine RW.nil ?_
  refine W.block ?_
  refine W.loop (fun mm ta σ => ∃ k, mm + k = l.length ∧ I k σ ∧ ta 0 = .func (.yield L) #[] #[] ∧ ta 1 = pp b1 ∧ ta 3 = .int .i64 ((l.length : Int) - 1 - (k : Int))) l.length ?_ ?_
  · exact ⟨0, rfl, h0, rfl, rfl, by show Value.int .i64 _ = _; simp⟩
  rintro mm ta σ ⟨k, hm, hk, e0, e1, e3⟩
  refine W.know 0 e0 (W.know 1 e1 (W.know 3 e3 (?_)))
  obtain ⟨q1, q2⟩ := hI k σ hk
  refine W.seq ?_
  refine W.seq ?_
  refine W.region ?_
  refine RW.val (by kernel_rfl) (by kernel_rfl) rfl (by kernel_rfl) ?_
  refine RW.val (by kernel_rfl) (by kernel_rfl) rfl (by kernel_rfl) ?_
  refine RW.nil ?_
  refine W.cond rfl (fun hh => ?_) (fun hh => ?_)
  · have hkn : k < l.length := by have := of_decide_eq_true hh; omega
    obtain ⟨j, hj⟩ : ∃ j, k + 1 + j = l.length := ⟨l.length - 1 - k, by omega⟩
    have ej : (l.length : Int) - 1 - (k : Int) = ((j : Nat) : Int) := by omega
    obtain ⟨b, p, sp, cc, r, rfl, hr, hc⟩ := sl_at (q2 (by omega)) (j := j) (by omega)
    refine W.skip ?_
    refine W.seq ?_
    refine W.block ?_
    refine W.seq ?_
    refine W.region ?_
    rw [ej]
    refine RW.val (by kernel_rfl) (by kernel_rfl) rfl (by kernel_rfl) ?_
    refine RW.val (by kernel_rfl) (by kernel_rfl) rfl (by kernel_rfl) ?_
    refine RW.load (by kernel_rfl) (by kernel_rfl) rfl rfl q1 rfl rfl (by kernel_rfl) ?_
    refine RW.val (by kernel_rfl) (by kernel_rfl) rfl (by kernel_rfl) ?_
    refine RW.idx (s := 2) (by kernel_rfl) (by kernel_rfl) rfl Tryz.underlying111 (by kernel_rfl) rfl rfl ⟨by omega, by omega⟩ (by kernel_rfl) ?_
    refine RW.loads 2 (by kernel_rfl) (by kernel_rfl) rfl rfl hr hc rfl (by kernel_rfl) ?_
    refine RW.yieldR (by kernel_rfl) (by kernel_rfl) rfl rfl rfl hL rfl (by kernel_rfl) ?_
    refine (hy k j σ hj hk).mono fun r σ4 hr => ?_
    obtain ⟨rfl, h4⟩ := hr
    refine RW.val (by kernel_rfl) (by kernel_rfl) rfl (by kernel_rfl) ?_
    refine RW.nil ?_
    refine W.cond (b := false) rfl (fun h => by cases h) (fun _ => ?_)
    refine W.skip ?_
    refine W.region ?_
    refine RW.val (by kernel_rfl) (by kernel_rfl) rfl (by kernel_rfl) ?_
    refine RW.valE (by kernel_rfl) (by kernel_rfl) rfl (congrArg (Value.int .i64) (wrap_in (by omega) (by omega))) (by kernel_rfl) ?_
    refine RW.val (by kernel_rfl) (by kernel_rfl) rfl (by kernel_rfl) ?_
    refine RW.nil ?_
    exact ⟨rfl, mm - 1, by omega, k + 1, by omega, h4, rfl, rfl, by show Value.int .i64 _ = _; congr 1; omega⟩
  · have hkn : k = l.length := by have := of_decide_eq_false hh; omega
    subst hkn
    refine W.exit _ ?_
    exact endG (R := fun _ σ' => R σ') (vs := []) rfl rfl (hend σ hk)
end
end Go.Proofs.YthemeeiedlbhkaaGreatDoor
namespace Go.Proofs.YthemeeiedlbhkaaGreatDoor
set_option maxRecDepth 100000
noncomputable abbrev buildR : Code := rangeIn (restN 2 (bodyOf Tryz.f125))
noncomputable abbrev bldLp (TA : Nat → Value) (D : Nat) : Blk2 := rdy 31 TA (rangePs buildR) (rangeAs buildR) (rangeBo buildR) D
/-- What lies there while build conses: k words so far. -/
structure BuildAt (h : Nat) (m : HM) (l : List Wd) (t : Wd) (s : Value) (σ0 σ : Mem) (TA : Nat → Value) (k : Nat) : Prop where
  old : ∀ b y, σ0.get b = some y → σ.get b = some y
  nx : σ0.next + 6 ≤ σ.next
  abs : σ.abs = heapAbs h (bld m l t k).1
  r3 : σ.get σ0.next = some (.row ⟨[pp h], 64, false⟩)
  r5 : σ.get (σ0.next + 1) = some (wrow (bld m l t k).2)
  r6 : σ.get (σ0.next + 2) = some (wrow (0, 0))
  b1 : σ.get (σ0.next + 3) = some (.row ⟨[s], 111, false⟩)
  df : σ.get (σ0.next + 4) = some (.defs true)
  lp : σ.get (σ0.next + 5) = some (bldLp TA (σ0.next + 4))
section
variable {G h : Nat} {m : HM} {l : List Wd} {t : Wd} {s : Value} {σ0 σ σ' : Mem} {TA : Nat → Value} {k : Nat}
theorem build_yield (hG : G ≤ σ0.next) (B : BuildAt h m l t s σ0 σ TA k) (hf : m.free = []) (hr : m.many + l.length ≤ m.limit) {j : Nat} (hj : k + 1 + j = l.length) (e3 : TA 3 = pp σ0.next) (e5 : TA 5 = pp (σ0.next + 1)) :
    Yield G Tryz.prog (σ0.next + 5) [.int .i64 (j : Int), wdV (l.getD j (0, 0))] σ fun r σ' => r = true ∧ BuildAt h m l t s σ0 σ' TA (k + 1) := by
  have hnx := B.nx
  refine Yield.of B.lp rfl (by decide) ?_
  refine W.know 3 (x := pp σ0.next) e3 (W.know 5 (x := pp (σ0.next + 1)) e5 ?_)
  refine W.region ?_
  refine RW.varS (d := 9) (r0 := ⟨[.int .i64 0, .int .i64 0], 76, false⟩) (vs := #[.int .i64 (l.getD j (0, 0)).1, .int .i64 (l.getD j (0, 0)).2]) (by kernel_rfl) (by kernel_rfl) (by kernel_rfl) rfl (by kernel_rfl) rfl (by kernel_rfl) rfl rfl rfl rfl (by kernel_rfl) rfl (by omega) ?_
  intro σ1 _ g1 q1 n1 a1
  refine RW.nil ?_
  refine ⟨rfl, q1 _ _ B.lp, fun σ2 s2 => ?_⟩
  have hn2 := s2.nx
  have kp : ∀ b y, b ≠ σ0.next + 5 → σ.get b = some y → σ2.get b = some y := fun b y hb hy => s2.old b y hb (q1 b y hy)
  have ab : σ2.abs = heapAbs h (bld m l t k).1 := s2.abs.trans (a1.trans B.abs)
  have CC := s_cons (G := G) (l.getD j (0, 0)) (bld m l t k).2 ab (by rw [bld_many, bld_limit]; omega) (by rw [bld_free]; exact hf)
  refine W.block ?_
  refine W.region ?_
  refine RW.load (by kernel_rfl) (by kernel_rfl) rfl rfl (kp _ _ (by omega) B.r3) rfl rfl (by kernel_rfl) ?_
  refine RW.loads 2 (by kernel_rfl) (by kernel_rfl) rfl rfl (s2.old _ _ (by omega) g1) rfl rfl (by kernel_rfl) ?_
  refine RW.loads 2 (by kernel_rfl) (by kernel_rfl) rfl rfl (kp _ _ (by omega) B.r5) rfl rfl (by kernel_rfl) ?_
  refine RW.call (by kernel_rfl) (by kernel_rfl) rfl rfl rfl (by kernel_rfl) (by kernel_rfl) ⟨_, _, CC, ?_⟩
  refine RW.val (by kernel_rfl) (by kernel_rfl) rfl (by kernel_rfl) ?_
  refine RW.val (by kernel_rfl) (by kernel_rfl) rfl (by kernel_rfl) ?_
  refine RW.val (by kernel_rfl) (by kernel_rfl) rfl (by kernel_rfl) ?_
  have r5' : (σ2.with (heapAbs h ((bld m l t k).1.push (.pair (l.getD j (0, 0)) (bld m l t k).2)))).get (σ0.next + 1) = some (wrow (bld m l t k).2) := kp _ _ (by omega) B.r5
  refine RW.setG (b := σ0.next + 1) (vs := #[.int .i64 2, .int .i64 ((bld m l t k).1.objs.length : Int)]) (by kernel_rfl) (by kernel_rfl) rfl rfl (by omega) r5' rfl rfl (by kernel_rfl) rfl (by kernel_rfl) ?_; intro σ3 _ s3
  refine RW.nil ?_
  have hn3 := s3.nx
  have hw : (σ2.with (heapAbs h ((bld m l t k).1.push (.pair (l.getD j (0, 0)) (bld m l t k).2)))).next = σ2.next := rfl
  refine ⟨s3.old _ _ (by omega) s2.at_, _, _, _, rfl, fun σ4 s4 => ⟨rfl, ?_⟩⟩
  have hn4 := s4.nx
  have kq : ∀ b y, b ≠ σ0.next + 5 → b ≠ σ0.next + 1 → σ.get b = some y → σ4.get b = some y := fun b y h5 h1 hy => s4.old b y h5 (s3.old b y h1 (kp b y h5 hy))
  have hb1 : bld m l t (k + 1) = ((bld m l t k).1.push (.pair (l.getD j (0, 0)) (bld m l t k).2), (2, ((bld m l t k).1.objs.length : Int))) := by
    simp only [bld]
    rw [show l.length - 1 - k = j by omega]
  refine ⟨fun b y hy => kq b y (by have := Mem.lt hy; omega) (by have := Mem.lt hy; omega) (B.old b y hy), by omega, ?_, kq _ _ (by omega) (by omega) B.r3, ?_, kq _ _ (by omega) (by omega) B.r6, kq _ _ (by omega) (by omega) B.b1, kq _ _ (by omega) (by omega) B.df, s4.at_⟩
  · rw [hb1]
    exact s4.abs.trans s3.abs
  · rw [hb1]
    exact s4.old _ _ (by omega) s3.at_
/-- All that lay there lies there; the heap may have turned. -/
structure GrowA (σ σ' : Mem) : Prop where
  old : ∀ b y, σ.get b = some y → σ'.get b = some y
  nx : σ.next ≤ σ'.next
theorem Grow.a (h : Grow σ σ') : GrowA σ σ' := ⟨h.old, h.nx⟩
theorem GrowA.trans {σ2 : Mem} (h : GrowA σ σ') (k : GrowA σ' σ2) : GrowA σ σ2 := ⟨fun b y hy => k.old b y (h.old b y hy), Nat.le_trans h.nx k.nx⟩
theorem GrowA.set {σ2 : Mem} {b : Nat} {x : Blk2} (h : GrowA σ0 σ) (k : Set1 σ σ2 b x) (hb : σ0.next ≤ b) : GrowA σ0 σ2 := ⟨fun c y hy => k.old c y (by have := Mem.lt hy; omega) (h.old c y hy), by rw [k.nx]; exact h.nx⟩
/-- What build and Make answer. -/
def BuildR (h : Nat) (m : HM) (l : List Wd) (t : Wd) (σ0 : Mem) (v : Value) (σ' : Mem) : Prop :=
  v = .tuple #[wdV (built m l t).2, .int .i64 0] ∧ GrowA σ0 σ' ∧ σ'.abs = heapAbs h (built m l t).1
theorem build_wc (hG : G ≤ σ0.next) (ha : σ0.abs = heapAbs h m) (hf : m.free = []) (hr : m.many + l.length ≤ m.limit) (hlim : m.limit ≤ 65536) (hs : SlW σ0 s l) (hsc : s.cells.toList = [s]) (hlen : lenF Tryz.prog 111 s = some (.int .i64 l.length)) :
    WC G Tryz.prog 125 #[pp h, s, wdV t] σ0 (BuildR h m l t σ0) := by
  refine WC.enterD (fn := Tryz.f125) Tryz.func125 rfl ?_
  refine W.know 0 (x := pp h) rfl (W.know 1 (x := s) rfl ?_)
  refine W.seq ?_
  refine W.region ?_
  refine RW.makeG (x := .row ⟨[pp h], 64, false⟩) (fm := fun b => .pointer (some ⟨b, 0, none⟩)) (by kernel_rfl) (by kernel_rfl) (by kernel_rfl) (by kernel_rfl) ?_; intro σ1 _ g1 G1 n1
  refine RW.makeG (x := .row ⟨[.int .i64 t.1, .int .i64 t.2], 76, false⟩) (fm := fun b => .pointer (some ⟨b, 0, none⟩)) (by kernel_rfl) (by kernel_rfl) (by kernel_rfl) (by kernel_rfl) ?_; intro σ2 _ g2 G2 n2
  refine RW.makeG (x := .row ⟨[.int .i64 0, .int .i64 0], 76, false⟩) (fm := fun b => .pointer (some ⟨b, 0, none⟩)) (by kernel_rfl) (by kernel_rfl) (by kernel_rfl) (by kernel_rfl) ?_; intro σ3 _ g3 G3 n3
  rw [n1] at g2 n2 ⊢
  rw [n2] at g3 n3 ⊢
  refine RW.val (by kernel_rfl) (by kernel_rfl) rfl (by kernel_rfl) ?_
  refine RW.nil ?_
  have G03 := (G1.trans G2).trans G3
  have q1 := G3.old _ _ (G2.old _ _ g1)
  have CLi := s_limit (G := G) (G03.abs.trans ha)
  have CMa := s_many (G := G) (G03.abs.trans ha)
  refine W.seq ?_
  refine W.seq ?_
  refine W.drawnS (by kernel_rfl) (by kernel_rfl) (by omega) ?_
  refine RW.val (by kernel_rfl) (by kernel_rfl) rfl (by kernel_rfl) ?_
  refine RW.len (by kernel_rfl) (by kernel_rfl) rfl rfl rfl rfl hlen (by kernel_rfl) ?_
  refine RW.load (by kernel_rfl) (by kernel_rfl) rfl rfl q1 rfl rfl (by kernel_rfl) ?_
  refine RW.call (by kernel_rfl) (by kernel_rfl) rfl rfl rfl (by kernel_rfl) (by kernel_rfl) ⟨_, _, CLi, ?_⟩
  refine RW.load (by kernel_rfl) (by kernel_rfl) rfl rfl q1 rfl rfl (by kernel_rfl) ?_
  refine RW.call (by kernel_rfl) (by kernel_rfl) rfl rfl rfl (by kernel_rfl) (by kernel_rfl) ⟨_, _, CMa, ?_⟩
  refine RW.valE (by kernel_rfl) (by kernel_rfl) rfl (congrArg (Value.int .i64) (wrap_in (by omega) (by omega))) (by kernel_rfl) ?_
  refine RW.valE (v' := .bool false) (by kernel_rfl) (by kernel_rfl) rfl (congrArg Value.bool (decide_eq_false (by omega))) (by kernel_rfl) ?_
  refine RW.nil ?_
  refine ⟨⟨by kernel_rfl, ?_, fun b => rfl⟩, ?_⟩
  · repeat' (first | exact True.intro | exact fun _ => rfl | exact ⟨_, q1⟩ | refine And.intro ?_ ?_)
  refine W.cond (b := false) rfl (fun h => by cases h) (fun _ => ?_)
  refine W.skip ?_
  refine W.seq ?_
  refine W.seq ?_
  refine W.region ?_
  refine RW.val (by kernel_rfl) (by kernel_rfl) rfl (by kernel_rfl) ?_
  refine RW.call (by kernel_rfl) (by kernel_rfl) rfl rfl rfl (by kernel_rfl) (by kernel_rfl) ((backward_wc s hsc (by omega)).mono ?_)
  rintro _ σ4 ⟨rfl, G4, n4, g4⟩
  refine RW.nil ?_
  refine W.block ?_
  have G04 := G03.trans G4
  have hn4 : σ4.next = σ0.next + 4 := by omega
  refine W.tas 3 5 6 20 20 (x1 := pp σ0.next) (x2 := pp (σ0.next + 1)) (x3 := pp (σ0.next + 2)) (x4 := .func (.func 178) #[] #[pp (σ0.next + 3)]) rfl rfl rfl (by rw [show σ0.next + 3 = σ3.next by omega]; rfl) rfl fun TA t3 t5 t6 t20 _ => ?_
  refine W.range (fa := #[]) (ca := #[pp (σ0.next + 3)]) t20 (fun i h => by cases h) (fun v h => by cases h) (by kernel_rfl) ?_
  rw [hn4]
  rw [show σ3.next = σ0.next + 3 by omega] at g4
  obtain ⟨σ7, h7⟩ : ∃ s, s = (σ4.push (.defs true)).push (bldLp TA (σ0.next + 4)) := ⟨_, rfl⟩
  have G7 : Grow σ4 σ7 := by
    rw [h7]
    exact ⟨fun b y hy => get_push_old (get_push_old hy), by show σ4.next ≤ σ4.next + 1 + 1; omega, rfl⟩
  have hn7 : σ7.next = σ0.next + 6 := by rw [h7]; show σ4.next + 1 + 1 = _; omega
  have d7 : σ7.get (σ0.next + 4) = some (.defs true) := by rw [h7, ← hn4]; exact get_push_old get_push
  have l7 : σ7.get (σ0.next + 5) = some (bldLp TA (σ0.next + 4)) := by
    rw [h7, show σ0.next + 5 = (σ4.push (.defs true)).next by show _ = σ4.next + 1; omega]
    exact get_push
  have G07 := G04.trans G7
  have B0 : BuildAt h m l t s σ0 σ7 TA 0 := ⟨G07.old, by omega, G07.abs.trans ha, G7.old _ _ (G4.old _ _ q1), G7.old _ _ (G4.old _ _ (G3.old _ _ g2)), G7.old _ _ (G4.old _ _ g3), G7.old _ _ g4, d7, l7⟩
  show WC G Tryz.prog 178 #[.func (.yield (σ0.next + 5)) #[] #[], pp (σ0.next + 3)] ((σ4.push (.defs true)).push (bldLp TA (σ0.next + 4))) _
  rw [← h7]
  clear h7 G1 G2 G3 G4 G03 G04 g1 g2 g3 g4 q1 d7 l7
  refine (backLoop (l := l) (s := s) (b1 := σ0.next + 3) (L := σ0.next + 5) (by omega) hlen (by omega) (I := fun k σ => BuildAt h m l t s σ0 σ TA k) (R := fun σ => BuildAt h m l t s σ0 σ TA l.length) ?_ ?_ (fun σ B => B) B0).mono ?_
  · intro k σ B
    exact ⟨B.b1, slw_old hs B.old⟩
  · intro k j σ hj B
    exact build_yield hG B hf hr hj t3 t5
  · rintro _ σ8 B
    have hnx := B.nx
    refine ⟨_, _, _, _, _, _, _, _, .normal, B.lp, rfl, rfl, ?_⟩
    have sL := set1_put (x := .loop .exhausted none 31 TA (rangePs buildR) (rangeAs buildR) (rangeBo buildR) (σ0.next + 4)) B.lp
    generalize σ8.put (σ0.next + 5) (.loop .exhausted none 31 TA (rangePs buildR) (rangeAs buildR) (rangeBo buildR) (σ0.next + 4)) = σ9 at sL
    have G9 : GrowA σ0 σ9 := (⟨B.old, by omega⟩ : GrowA σ0 σ8).set sL (by omega)
    refine W.know 5 t5 (W.know 6 t6 ?_)
    refine W.seq ?_
    refine W.region ?_
    refine RW.loads 2 (by kernel_rfl) (by kernel_rfl) rfl rfl (sL.old _ _ (by omega) B.r5) rfl rfl (by kernel_rfl) ?_
    refine RW.setG (b := σ0.next + 2) (vs := #[.int .i64 (bld m l t l.length).2.1, .int .i64 (bld m l t l.length).2.2]) (by kernel_rfl) (by kernel_rfl) rfl rfl (by omega) (sL.old _ _ (by omega) B.r6) rfl rfl (by kernel_rfl) rfl (by kernel_rfl) ?_; intro σ10 _ s10
    refine RW.val (by kernel_rfl) (by kernel_rfl) rfl (by kernel_rfl) ?_
    refine RW.nil ?_
    refine W.ret ?_
    have p8' := s10.old _ _ (by omega) (sL.old _ _ (by omega) B.df)
    have s13 := set1_put (x := .defs false) p8'
    refine endGD rfl p8' (by omega) (resW rfl (s13.old _ _ (by omega) s10.at_) (resL_tmp rfl)) ?_
    exact ⟨rfl, (G9.set s10 (by omega)).set s13 (by omega), s13.abs.trans (s10.abs.trans (sL.abs.trans B.abs))⟩
theorem make_wc (hG : G ≤ σ0.next) (ha : σ0.abs = heapAbs h m) (hf : m.free = []) (hr : m.many + l.length ≤ m.limit) (hlo : 0 < m.limit) (hlim : m.limit ≤ 65536) (hs : SlW σ0 s l) (hsc : s.cells.toList = [s]) (hlen : lenF Tryz.prog 111 s = some (.int .i64 l.length)) :
    WC G Tryz.prog 84 #[pp h, s] σ0 (BuildR h m l (1, 0) σ0) := by
  refine WC.enter (fn := Tryz.f84) Tryz.func84 rfl ?_
  refine W.know 0 (x := pp h) rfl (W.know 1 (x := s) rfl ?_)
  refine W.seq ?_
  refine W.region ?_
  refine RW.makeG (x := .row ⟨[.int .i64 0, .int .i64 0], 76, false⟩) (fm := fun b => .pointer (some ⟨b, 0, none⟩)) (by kernel_rfl) (by kernel_rfl) (by kernel_rfl) (by kernel_rfl) ?_; intro σ1 _ g1 G1 n1
  refine RW.val (by kernel_rfl) (by kernel_rfl) rfl (by kernel_rfl) ?_
  refine RW.nil ?_
  refine W.seq ?_
  refine W.block ?_
  refine W.seq ?_
  refine W.region ?_
  refine RW.val (by kernel_rfl) (by kernel_rfl) rfl (by kernel_rfl) ?_
  refine RW.call (by kernel_rfl) (by kernel_rfl) rfl rfl rfl (by kernel_rfl) (by kernel_rfl) ((made_wc (G1.abs.trans ha) hlo).mono ?_)
  rintro _ _ ⟨rfl, rfl⟩
  refine RW.val (by kernel_rfl) (by kernel_rfl) rfl (by kernel_rfl) ?_
  refine RW.val (by kernel_rfl) (by kernel_rfl) rfl (by kernel_rfl) ?_
  refine RW.nil ?_
  refine W.cond (b := false) rfl (fun h => by cases h) (fun _ => ?_)
  refine W.seq ?_
  refine W.region ?_
  refine RW.val (by kernel_rfl) (by kernel_rfl) rfl (by kernel_rfl) ?_
  refine RW.len (by kernel_rfl) (by kernel_rfl) rfl rfl rfl rfl hlen (by kernel_rfl) ?_
  refine RW.valE (v' := .bool false) (by kernel_rfl) (by kernel_rfl) rfl (congrArg Value.bool (decide_eq_false (by omega))) (by kernel_rfl) ?_
  refine RW.val (by kernel_rfl) (by kernel_rfl) rfl (by kernel_rfl) ?_
  refine RW.nil ?_
  refine W.cond (b := false) rfl (fun h => by cases h) (fun _ => ?_)
  refine W.skip ?_
  refine W.seq ?_
  refine W.region ?_
  refine RW.val (by kernel_rfl) (by kernel_rfl) rfl (by kernel_rfl) ?_
  refine RW.val (by kernel_rfl) (by kernel_rfl) rfl (by kernel_rfl) ?_
  refine RW.call (by kernel_rfl) (by kernel_rfl) rfl rfl rfl (by kernel_rfl) (by kernel_rfl) ⟨_, _, s_none, ?_⟩
  refine RW.call (by kernel_rfl) (by kernel_rfl) rfl rfl rfl (by kernel_rfl) (by kernel_rfl) ((build_wc (t := (1, 0)) (by omega) (G1.abs.trans ha) hf hr hlim (slw_old hs G1.old) hsc hlen).mono ?_)
  rintro _ σ2 ⟨rfl, G2, a2⟩
  refine RW.val (by kernel_rfl) (by kernel_rfl) rfl (by kernel_rfl) ?_
  refine RW.val (by kernel_rfl) (by kernel_rfl) rfl (by kernel_rfl) ?_
  refine RW.setG (b := σ0.next) (vs := #[.int .i64 (built m l (1, 0)).2.1, .int .i64 (built m l (1, 0)).2.2]) (by kernel_rfl) (by kernel_rfl) rfl rfl hG (G2.old _ _ g1) rfl rfl (by kernel_rfl) rfl (by kernel_rfl) ?_; intro σ3 _ s3
  refine RW.val (by kernel_rfl) (by kernel_rfl) rfl (by kernel_rfl) ?_
  refine RW.nil ?_
  refine W.ret ?_
  exact endG rfl (resW rfl s3.at_ (resL_tmp rfl)) ⟨rfl, (G1.a.trans G2).set s3 (Nat.le_refl _), s3.abs.trans a2⟩
end
end Go.Proofs.YthemeeiedlbhkaaGreatDoor
namespace Go.Proofs.YthemeeiedlbhkaaGreatDoor
open Go.RowKit
set_option maxRecDepth 100000
section
variable {G h : Nat} {m : HM} {σ0 σ : Mem}
theorem s_pick (x n : Int) (h1 : -9223372036854775808 ≤ x) (h2 : x ≤ 9223372036854775807) (h3 : 0 < n) (h4 : n ≤ 9223372036854775807) : SCall G Tryz.prog 11 #[.int .i64 x, .int .i64 n] σ (.int .i64 (pickOf x n)) σ :=
  below_call rfl rfl fun w => (pick_any x n w h1 h2 (by omega) h4).mono fun e w' ⟨k1, k2⟩ => ⟨k1, k2 ▸ Below.refl _ _⟩
end
end Go.Proofs.YthemeeiedlbhkaaGreatDoor
namespace Go.Proofs.YthemeeiedlbhkaaGreatDoor
set_option maxRecDepth 100000
theorem overL_two {cs : List Value} {p : Nat} {a b : Value} (h : p + 2 ≤ cs.length) : overL cs p [a, b] = (cs.set p a).set (p + 1) b := by
  apply List.ext_getElem?
  intro i
  rw [overL_get (by simpa using h)]
  simp only [List.length_cons, List.length_nil, List.getElem?_set, List.length_set]
  rcases Nat.lt_or_ge i p with h1 | h1
  · rw [if_neg (by omega), if_neg (by omega), if_neg (by omega)]
  · rcases Nat.eq_or_lt_of_le h1 with h2 | h2
    · subst h2
      simp
      omega
    · rcases Nat.eq_or_lt_of_le h2 with h3 | h3
      · rw [if_pos (by omega), if_pos (by omega), if_pos (by omega), show i - p = 1 by omega]
        rfl
      · rw [if_neg (by omega), if_neg (by omega), if_neg (by omega)]
theorem wdC_over {cs : List Value} {L : List Wd} {k : Nat} (hx : cs.take (L.length * 2) = wdC L) (hc : L.length * 2 ≤ cs.length) (hk : k < L.length) (x : Wd) : (overL cs (k * 2) [.int .i64 x.1, .int .i64 x.2]).take (L.length * 2) = wdC (L.set k x) := by
  rw [overL_two (by omega), List.take_set, List.take_set, hx, wdC_set _ _ _ hk]
/-- The first k and the last k changed about. -/
def swK (l : List Wd) (k : Nat) : List Wd := (List.range l.length).map fun i => if i < k ∨ l.length - 1 - i < k then l.getD (l.length - 1 - i) (0, 0) else l.getD i (0, 0)
theorem swK_length (l : List Wd) (k : Nat) : (swK l k).length = l.length := by simp [swK]
theorem swK_at (l : List Wd) (k i : Nat) (h : i < l.length) : (swK l k)[i]? = some (if i < k ∨ l.length - 1 - i < k then l.getD (l.length - 1 - i) (0, 0) else l.getD i (0, 0)) := by
  simp [swK, h]
theorem swK_get (l : List Wd) (k i : Nat) (h : i < l.length) : (swK l k).getD i (0, 0) = if i < k ∨ l.length - 1 - i < k then l.getD (l.length - 1 - i) (0, 0) else l.getD i (0, 0) := by
  rw [List.getD_eq_getElem?_getD, swK_at l k i h]
  rfl
theorem getD_at {l : List Wd} {i : Nat} (h : i < l.length) : l[i]? = some (l.getD i (0, 0)) := by simp [List.getD_eq_getElem?_getD, h]
theorem swK_zero (l : List Wd) : swK l 0 = l := by
  apply List.ext_getElem?
  intro i
  rcases Nat.lt_or_ge i l.length with h | h
  · rw [swK_at l 0 i h, if_neg (by omega), ← getD_at h]
  · rw [List.getElem?_eq_none (by rw [swK_length]; exact h), List.getElem?_eq_none h]
theorem swK_succ {l : List Wd} {k j : Nat} (hj : k + 1 + j = l.length) (hk : k < j) : ((swK l k).set k ((swK l k).getD j (0, 0))).set j ((swK l k).getD k (0, 0)) = swK l (k + 1) := by
  rw [swK_get l k j (by omega), swK_get l k k (by omega), if_neg (by omega), if_neg (by omega)]
  apply List.ext_getElem?
  intro i
  rcases Nat.lt_or_ge i l.length with h | h
  · rw [swK_at l (k + 1) i h]
    simp only [List.getElem?_set, List.length_set, swK_length]
    by_cases h1 : j = i
    · subst h1
      rw [if_pos rfl, if_pos h, if_pos (by omega), show l.length - 1 - j = k by omega]
    · rw [if_neg h1]
      by_cases h2 : k = i
      · subst h2
        rw [if_pos rfl, if_pos h, if_pos (by omega), show l.length - 1 - k = j by omega]
      · rw [if_neg h2, swK_at l k i h]
        by_cases h3 : i < k ∨ l.length - 1 - i < k
        · rw [if_pos h3, if_pos (by omega)]
        · rw [if_neg h3, if_neg (by omega)]
  · rw [List.getElem?_eq_none (by simp [swK_length]; exact h), List.getElem?_eq_none (by rw [swK_length]; exact h)]
theorem swK_done {l : List Wd} {k : Nat} (h : l.length ≤ 2 * k + 1) : swK l k = l.reverse := by
  apply List.ext_getElem?
  intro i
  rcases Nat.lt_or_ge i l.length with hi | hi
  · rw [swK_at l k i hi, List.getElem?_reverse hi]
    by_cases h3 : i < k ∨ l.length - 1 - i < k
    · rw [if_pos h3, ← getD_at (by omega)]
    · rw [if_neg h3, ← getD_at hi, show l.length - 1 - i = i by omega]
  · rw [List.getElem?_eq_none (by rw [swK_length]; exact hi), List.getElem?_eq_none (by simpa using hi)]
section
variable {G h : Nat} {m : HM} {σ σ0 : Mem}
theorem gr_row {v : Value} {xs : List Value} {n : Nat} {e : TypeId} (g : GRow G σ e 2 v n xs) (hn : 0 < n) : ∃ q c r, v = .slice (some ⟨q, 0, some 2⟩) n c ∧ G ≤ q ∧ σ.get q = some (.row r) ∧ r.t = e ∧ r.cs.length = c * 2 ∧ n ≤ c ∧ r.cs.take (n * 2) = xs := by
  cases g with
  | nil => omega
  | row hq hr ht hc hl hx => exact ⟨_, _, _, rfl, hq, hr, ht, hc, hl, hx⟩
theorem gr_at {q c : Nat} {r : Row} {l : List Wd} (g : GRow G σ 76 2 (.slice (some ⟨q, 0, some 2⟩) l.length c) l.length (wdC l)) (hr : σ.get q = some (.row r)) {j : Nat} (hj : j < l.length) : (r.cs.drop (0 + ((j : Nat) : Int).toNat * 2)).take 2 = [.int .i64 (l.getD j (0, 0)).1, .int .i64 (l.getD j (0, 0)).2] := by
  obtain ⟨b, p, sp, c', r', e, hr', hc'⟩ := sl_at g.sl hj
  cases e
  rw [hr] at hr'
  cases hr'
  exact hc'
end
end Go.Proofs.YthemeeiedlbhkaaGreatDoor
namespace Go.Proofs.YthemeeiedlbhkaaGreatDoor
set_option maxRecDepth 100000
section
variable {G h : Nat} {m : HM} {σ σ0 : Mem}
theorem sliceR_ok {n : Nat} {c a : Nat → Wd} {v : Value} (hn : n ≤ 65536) (hc : c n = (1, 0)) (H : SliceR G n c a σ0 v σ) : Grow σ0 σ ∧ ∃ sl, v = .tuple #[sl, .int .i64 0] ∧ GRow G σ 76 2 sl n (wdC (firstN a n)) ∧ ∀ b, blkOf sl = some b → σ0.next ≤ b := by
  obtain ⟨g, h1 | h1 | h1⟩ := H
  · omega
  · exact absurd hc h1.2.1
  · exact ⟨g, h1.2.2⟩
end
end Go.Proofs.YthemeeiedlbhkaaGreatDoor
namespace Go.Proofs.YthemeeiedlbhkaaGreatDoor
set_option maxRecDepth 100000
/-- A slice of words as it reads. -/
structure Vw (σ : Mem) (v : Value) (l : List Wd) : Prop where
  len : lenF Tryz.prog 111 v = some (.int .i64 l.length)
  at_ : SlW σ v l
theorem Vw.old {σ σ' : Mem} {v : Value} {l : List Wd} (h : Vw σ v l) (k : ∀ b y, σ.get b = some y → σ'.get b = some y) : Vw σ' v l := ⟨h.len, slw_old h.at_ k⟩
/-- A law's slice of words: what append reads of it besides. -/
structure AW (G : Nat) (σ : Mem) (v : Value) (l : List Wd) : Prop where
  vw : Vw σ v l
  one : v.cells.toList = [v]
  src : srcF σ 2 v = some (l.length, wdC l)
/-- A slice that Own has made, and what append makes of it. -/
inductive OwnW (G : Nat) (σ : Mem) : Value → List Wd → Prop
  | emp {b : Nat} {g : Bool} (hb : G ≤ b) (hr : σ.get b = some (.row ⟨[], 76, g⟩)) : OwnW G σ (.slice (some ⟨b, 0, none⟩) 0 0) []
  | row {v : Value} {l : List Wd} (h0 : 0 < l.length) (h : GRow G σ 76 2 v l.length (wdC l)) : OwnW G σ v l
section
variable {G h : Nat} {m : HM} {σ σ0 : Mem}
theorem OwnW.vw {v : Value} {l : List Wd} (h : OwnW G σ v l) : Vw σ v l := by
  cases h with
  | emp hb hr => exact ⟨by kernel_rfl, fun h => absurd h (by simp)⟩
  | row h0 h => exact ⟨h.len (by kernel_rfl), fun _ => h.sl⟩
theorem own_append {v x : Value} {l l2 : List Wd} (h : OwnW G σ v l) (hx : srcF σ 2 x = some (l2.length, wdC l2)) (hG : G ≤ σ.next) (hb : l.length + l2.length ≤ 1000000) :
    ∃ v' cmd, appendF G Tryz.prog σ 111 111 v x = some (v', cmd) ∧ OwnW G (cmd.app σ) v' (l ++ l2) ∧ σ.next ≤ (cmd.app σ).next ∧ (cmd.app σ).abs = σ.abs ∧ (∀ b y, σ.get b = some y → blkOf v ≠ some b → (cmd.app σ).get b = some y) ∧ (blkOf v' = blkOf v ∨ blkOf v' = some σ.next) := by
  obtain ⟨i, z, h1, h2, h3, h4, h5⟩ := infoB_ok (P := Tryz.prog) (e := 76) (s := 2) (m := 64) (by kernel_rfl)
  have ht : uT Tryz.prog 111 = some (.slice 76) := by kernel_rfl
  have hsrc : srcG (.slice 76) i z σ x = some (l2.length, wdC l2) := by
    show srcF σ i.size x = _
    rw [h4]; exact hx
  have hcond : z.cells.size = i.size ∧ 0 < i.size := ⟨h3, by omega⟩
  by_cases hn : l2.length = 0
  · obtain rfl : l2 = [] := List.length_eq_zero_iff.1 hn
    refine ⟨v, .same, ?_, by rw [List.append_nil]; exact h, Nat.le_refl _, rfl, fun _ _ h _ => h, .inl rfl⟩
    unfold appendF
    simp only [ht, h1, h2, hcond, hsrc, and_self, if_true, List.length_nil]
    cases h with
    | emp hb hr => rfl
    | row h0 h =>
      obtain ⟨q, c, r, rfl, _, _, _, _, hl, _⟩ := gr_row h h0
      simp [hl]
  · cases h with
    | @emp b g hb0 hr =>
      refine ⟨.slice (some ⟨σ.next, 0, some 2⟩) (0 + l2.length) (0 + l2.length), .push (.row ⟨(([] : List Value).drop 0).take (0 * 2) ++ wdC l2, 76, true⟩), ?_, ?_, Nat.le_succ _, rfl, fun b y hy _ => get_push_old hy, .inr rfl⟩
      · unfold appendF
        have hmul : l2.length * i.bytes ≤ 1000000 * 64 := Nat.mul_le_mul (by simpa using hb) h5
        simp only [ht, h1, h2, hcond, hsrc, and_self, if_true, if_neg hn, hr]
        rw [if_neg (by omega), if_pos (by rw [h4]; simp; simp at hb; omega), h4]
      · simp only [List.nil_append, Nat.zero_add, Nat.zero_mul, List.take_zero, List.drop_zero]
        refine .row (by omega) (.row (by omega) get_push rfl (wdC_length l2) (Nat.le_refl _) ?_)
        show (wdC l2).take _ = _
        rw [← wdC_length l2, List.take_length]
    | row h0 h =>
      have hmul : (l.length + l2.length) * i.bytes ≤ 1000000 * 64 := Nat.mul_le_mul hb h5
      obtain ⟨v', cmd, k1, k2, k3, k4, k5, k6⟩ := grow_append (P := Tryz.prog) h hG ht ht h1 h2 h3 h4 (by decide) hsrc (by omega) (List.all_eq_true.2 (wdC_one l2)) ⟨by omega, by omega⟩
      refine ⟨v', cmd, k1, .row (by rw [List.length_append]; omega) ?_, k3, k4, k5, k6⟩
      rw [List.length_append, show wdC (l ++ l2) = wdC l ++ wdC l2 by simp [wdC]]
      exact k2
end
end Go.Proofs.YthemeeiedlbhkaaGreatDoor
namespace Go.Proofs.YthemeeiedlbhkaaGreatDoor
set_option maxRecDepth 100000
/-- From c 0 on lie conses with the words of l; behind them Nil. -/
def Chain (m : HM) (c : Nat → Wd) (l : List Wd) : Prop := c l.length = (1, 0) ∧ Path m c (fun j => l.getD j (0, 0)) l.length
def FindsAll (m m' : HM) : Prop := ∀ x o, m.find x = some o → m'.find x = some o
theorem FindsAll.trans {m m1 m2 : HM} (h : FindsAll m m1) (k : FindsAll m1 m2) : FindsAll m m2 := fun x o e => k x o (h x o e)
theorem finds_built (m : HM) (l : List Wd) (t : Wd) : FindsAll m (built m l t).1 := fun x o h => by
  obtain ⟨h0, h1, h2⟩ := HM.find_mem h
  have hx : x = (o.kind, ((x.2.toNat : Nat) : Int)) := Prod.ext h2.symm (by show x.2 = _; omega)
  unfold built
  rw [(bld_is m l t l.length).1]
  have hlt : x.2.toNat < m.objs.length := (List.getElem?_eq_some_iff.1 h1).1
  have h3 : (m.objs ++ (List.range l.length).map fun i => some (HObj.pair (l.getD (l.length - 1 - i) (0, 0)) (if i = 0 then t else (2, ((m.objs.length + i - 1 : Nat) : Int)))))[x.2.toNat]? = some (some o) := by
    rw [List.getElem?_append_left hlt]; exact h1
  unfold HM.find
  have h4 : ¬ x.2 < 0 := by omega
  rw [if_neg h4]
  simp only [h3]
  rw [if_pos h2]
theorem Path.mono {m m' : HM} {c a : Nat → Wd} {n : Nat} (h : Path m c a n) (k : FindsAll m m') : Path m' c a n := fun j hj => k _ _ (h j hj)
theorem Chain.mono {m m' : HM} {c : Nat → Wd} {l : List Wd} (h : Chain m c l) (k : FindsAll m m') : Chain m' c l := ⟨h.1, h.2.mono k⟩
theorem chain_built (m : HM) (l : List Wd) : Chain (built m l (1, 0)).1 (consOf m l (1, 0)) l := ⟨built_end m l (1, 0), built_path m l (1, 0)⟩
/-- The chain of l built on another chain. -/
def consOn (m : HM) (l : List Wd) (t : Wd) (c2 : Nat → Wd) (j : Nat) : Wd := if j < l.length then consOf m l t j else c2 (j - l.length)
theorem consOn_mid (m : HM) (l : List Wd) (t : Wd) (c2 : Nat → Wd) : consOn m l t c2 l.length = c2 0 := by unfold consOn; rw [if_neg (by omega), Nat.sub_self]
theorem consOn_zero (m : HM) (l : List Wd) (c2 : Nat → Wd) : consOn m l (c2 0) c2 0 = (built m l (c2 0)).2 := by
  rw [built_word]
  unfold consOn
  by_cases h : 0 < l.length
  · rw [if_pos h]
  · rw [if_neg h]
    unfold consOf
    rw [if_neg h, Nat.zero_sub]
theorem getD_left {l l2 : List Wd} {j : Nat} (h : j < l.length) : (l ++ l2).getD j (0, 0) = l.getD j (0, 0) := by
  rw [List.getD_eq_getElem?_getD, List.getD_eq_getElem?_getD, List.getElem?_append_left h]
theorem getD_right {l l2 : List Wd} {j : Nat} (h : l.length ≤ j) : (l ++ l2).getD j (0, 0) = l2.getD (j - l.length) (0, 0) := by
  rw [List.getD_eq_getElem?_getD, List.getD_eq_getElem?_getD, List.getElem?_append_right h]
theorem chain_on {m : HM} {c2 : Nat → Wd} {l2 : List Wd} (l : List Wd) (h : Chain m c2 l2) : Chain (built m l (c2 0)).1 (consOn m l (c2 0) c2) (l ++ l2) := by
  refine ⟨?_, fun j hj => ?_⟩
  · unfold consOn
    rw [List.length_append, if_neg (by omega), show l.length + l2.length - l.length = l2.length by omega]
    exact h.1
  · rw [List.length_append] at hj
    show HM.find _ _ = some (.pair ((l ++ l2).getD j (0, 0)) _)
    rcases Nat.lt_or_ge j l.length with h1 | h1
    · rw [getD_left h1]
      have := built_path m l (c2 0) j h1
      unfold consOn
      rw [if_pos h1, this]
      congr 2
      by_cases h2 : j + 1 < l.length
      · rw [if_pos h2]
      · rw [if_neg h2, show j + 1 = l.length by omega, built_end, Nat.sub_self]
    · rw [getD_right h1]
      have := finds_built m l (c2 0) _ _ (h.2 (j - l.length) (by omega))
      unfold consOn
      rw [if_neg (by omega), if_neg (by omega), this, show j + 1 - l.length = j - l.length + 1 by omega]
theorem Chain.drop {m : HM} {c : Nat → Wd} {l : List Wd} (h : Chain m c l) {k : Nat} (hk : k ≤ l.length) : Chain m (fun j => c (k + j)) (l.drop k) := by
  refine ⟨?_, fun j hj => ?_⟩
  · show c (k + _) = _
    rw [List.length_drop, show k + (l.length - k) = l.length by omega]; exact h.1
  · rw [List.length_drop] at hj
    have := h.2 (k + j) (by omega)
    show m.find (c (k + j)) = some (.pair ((l.drop k).getD j (0, 0)) (c (k + j + 1)))
    rw [show (l.drop k).getD j (0, 0) = l.getD (k + j) (0, 0) by simp [List.getD_eq_getElem?_getD]]
    exact this
theorem wdC_app (a b : List Wd) : wdC (a ++ b) = wdC a ++ wdC b := by simp [wdC]
theorem firstN_getD (l : List Wd) : firstN (fun j => l.getD j (0, 0)) l.length = l := by
  apply List.ext_getElem?
  intro i
  rcases Nat.lt_or_ge i l.length with h | h
  · rw [getD_at h]
    simp [firstN, h]
  · rw [List.getElem?_eq_none (by rw [firstN_length]; exact h), List.getElem?_eq_none h]
theorem built_many (m : HM) (l : List Wd) (t : Wd) : (built m l t).1.many = m.many + l.length := bld_many l t l.length
theorem built_limit (m : HM) (l : List Wd) (t : Wd) : (built m l t).1.limit = m.limit := bld_limit l t l.length
theorem built_free (m : HM) (l : List Wd) (t : Wd) : (built m l t).1.free = m.free := bld_free l t l.length
/-- A new heap of the limit L. -/
abbrev hm0 (L : Nat) : HM := ⟨L, [], []⟩
theorem hm0_many (L : Nat) : (hm0 L).many = 0 := rfl
theorem grow_old {G : Nat} {σ σ' : Mem} {e : TypeId} {s n : Nat} {v : Value} {xs : List Value} (h : GRow G σ e s v n xs) (k : ∀ b y, σ.get b = some y → σ'.get b = some y) : GRow G σ' e s v n xs := by
  cases h with
  | nil => exact .nil
  | row hq hr ht hc hl hx => exact .row hq (k _ _ hr) ht hc hl hx
theorem grow_vw {G : Nat} {σ : Mem} {v : Value} {l : List Wd} (h : GRow G σ 76 2 v l.length (wdC l)) : Vw σ v l := ⟨h.len (by kernel_rfl), fun _ => h.sl⟩
theorem srcF_old {σ σ' : Mem} {s : Nat} {v : Value} {n : Nat} {xs : List Value} (h : srcF σ s v = some (n, xs)) (k : ∀ b y, σ.get b = some y → σ'.get b = some y) : srcF σ' s v = some (n, xs) := by
  unfold srcF at h ⊢
  split at h
  · exact h
  · exact h
  · split at h
    · rename_i h0
      rw [if_pos h0]; exact h
    · rename_i h0
      rw [if_neg h0]
      split at h
      · rename_i hr
        rw [k _ _ hr]; exact h
      · cases h
  · exact h
  · cases h
section
variable {G h : Nat} {m : HM} {σ σ0 : Mem}
theorem own_drop {v : Value} {l : List Wd} {k : Nat} (h : OwnW G σ v l) (hk : k ≤ l.length) : ∃ v', sliceF Tryz.prog 111 v (some (.int .i64 (k : Int))) none none = some v' ∧ Vw σ v' (l.drop k) := by
  have ht : uT Tryz.prog 111 = some (.slice 76) := by kernel_rfl
  have hs : sizeT Tryz.prog 76 = some 2 := by kernel_rfl
  cases h with
  | emp hb hr =>
    obtain rfl : k = 0 := by simpa using hk
    refine ⟨_, ?_, (OwnW.emp hb hr).vw⟩
    unfold sliceF
    simp only [ht, hs, boundF]
    simp
  | row h0 h =>
    obtain ⟨q, c, r, rfl, hq, hr, hrt, hc, hl, hx⟩ := gr_row h h0
    refine ⟨.slice (some (if c = k then ⟨q, 0, some 2⟩ else ⟨q, 0 + k * 2, some 2⟩)) (l.length - k) (c - k), ?_, ?_, fun hlen => ?_⟩
    · unfold sliceF
      simp only [ht, hs, boundF]
      rw [if_pos (show (0 : Int) ≤ (k : Int) ∧ (k : Int) ≤ (l.length : Nat) by omega)]
      simp only [Int.toNat_natCast]
      rw [if_pos (show True ∧ l.length ≤ c from ⟨trivial, hl⟩)]
    · unfold lenF
      rw [ht, List.length_drop]
    · rw [List.length_drop] at hlen
      rw [if_neg (by omega)]
      refine .some hr (by rw [wdC_length, List.length_drop]) fun i x hi => ?_
      have hw : wdC (l.drop k) = (wdC l).drop (k * 2) := by
        have h1 : wdC l = wdC (l.take k) ++ wdC (l.drop k) := by
          rw [← wdC_app, List.take_append_drop]
        have h2 : (wdC (l.take k)).length = k * 2 := by rw [wdC_length, List.length_take]; congr 1; omega
        rw [h1, ← h2, List.drop_left]
      rw [hw, List.getElem?_drop, ← hx, List.getElem?_take] at hi
      split at hi
      · rw [show 0 + k * 2 + i = k * 2 + i by omega]; exact hi
      · cases hi
end
end Go.Proofs.YthemeeiedlbhkaaGreatDoor
