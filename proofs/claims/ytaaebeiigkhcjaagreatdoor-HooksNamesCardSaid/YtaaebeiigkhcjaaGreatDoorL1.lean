/-
  Lists in a heap, in plain words: what is built, what a chain of conses is, rings. No walk in this text. Conditions: none.
  The small functions of package lists and of the kit, in the second memory. Conditions: the heap lies there as HeapAt says.
  Going through conses, and backward through a slice, in the second memory; what is done at each is a premise. Conditions: the heap lies there as HeapAt says.
  lists.Slice in the second memory. Conditions: the heap lies there as HeapAt says.
  A walk's registers put in order. Over any program. Conditions: none.
  lists.Slice in the second memory: the whole function. Conditions: the heap lies there as HeapAt says.
  slices.Backward and lists.build, lists.Make in the second memory. Conditions: the heap lies there as HeapAt says, no number is free below.
  lists.build and lists.Make in the second memory. Conditions: the heap lies there as HeapAt says, no number is free below, there is room.
  lists.Tail, Nth, Append, Length, eq in the second memory; the kit's Int and Pick. Conditions: the heap lies there as HeapAt says.
  slices.Reverse, lists.Append and lists.Reverse in the second memory. Conditions: the heap lies there as HeapAt says, no number is free below.
  lists.Append and lists.Reverse in the second memory. Conditions: the heap lies there as HeapAt says, no number is free below.
  copyistkit.Own and copyistkit.Same of words in the second memory. Conditions: none.
  Lists of conses as chains: what build leaves, what stays, what the functions of package lists answer. Conditions: the heap lies there as HeapAt says, no number is free below.
-/
import Derived.Test.YtaaebeiigkhcjaaGreatDoorHg
import Derived.Test.YtaaebeiigkhcjaaGreatDoorS4
import Derived.Test.YtaaebeiigkhcjaaGreatDoorPick
namespace Go.Proofs.YtaaebeiigkhcjaaGreatDoor
set_option maxRecDepth 100000

def Path (m : HM) (c a : Nat → Wd) (n : Nat) : Prop := ∀ j, j < n → m.find (c j) = some (.pair (a j) (c (j + 1)))
theorem Path.kind {m : HM} {c a : Nat → Wd} {n j : Nat} (h : Path m c a n) (hj : j < n) : (c j).1 = 2 := ((HM.find_mem (h j hj)).2.2).symm
theorem find_at {m : HM} {i : Nat} {a d : Wd} (h : m.objs[i]? = some (some (.pair a d))) : m.find (2, (i : Int)) = some (.pair a d) := by
  have h1 : ¬ (i : Int) < 0 := by omega
  simp [HM.find, h1, h, HObj.kind]
theorem car_of {m : HM} {x a d : Wd} (h : m.find x = some (.pair a d)) : m.car x = (a, 0) := by simp [HM.car, h]
theorem cdr_of {m : HM} {x a d : Wd} (h : m.find x = some (.pair a d)) : m.cdr x = (d, 0) := by simp [HM.cdr, h]
def bld (m : HM) (l : List Wd) (t : Wd) : Nat → HM × Wd
  | 0 => (m, t)
  | j + 1 => ((bld m l t j).1.push (.pair (l.getD (l.length - 1 - j) (0, 0)) (bld m l t j).2), (2, ((bld m l t j).1.objs.length : Int)))
theorem bld_is (m : HM) (l : List Wd) (t : Wd) : ∀ j, (bld m l t j).1 = { m with objs := m.objs ++ (List.range j).map fun i => some (.pair (l.getD (l.length - 1 - i) (0, 0)) (if i = 0 then t else (2, ((m.objs.length + i - 1 : Nat) : Int)))) } ∧ (bld m l t j).2 = if j = 0 then t else (2, ((m.objs.length + j - 1 : Nat) : Int))
  | 0 => by simp [bld]
  | j + 1 => by
    obtain ⟨h1, h2⟩ := bld_is m l t j
    refine ⟨?_, ?_⟩
    · simp only [bld, HM.push]
      rw [h1, h2]
      simp [List.range_succ]
    · simp only [bld]
      rw [h1]
      simp
theorem bld_many {m : HM} (l : List Wd) (t : Wd) (j : Nat) : (bld m l t j).1.many = m.many + j := by
  rw [(bld_is m l t j).1]
  unfold HM.many
  simp only [List.filter_append, List.length_append]
  congr 1
  rw [List.filter_eq_self.2]
  · simp
  · intro a ha
    obtain ⟨i, _, rfl⟩ := List.mem_map.1 ha
    rfl
theorem bld_limit {m : HM} (l : List Wd) (t : Wd) (j : Nat) : (bld m l t j).1.limit = m.limit := by rw [(bld_is m l t j).1]
theorem bld_free {m : HM} (l : List Wd) (t : Wd) (j : Nat) : (bld m l t j).1.free = m.free := by rw [(bld_is m l t j).1]
theorem bld_get {m : HM} (l : List Wd) (t : Wd) {n i : Nat} (hi : i < n) : (bld m l t n).1.objs[m.objs.length + i]? = some (some (.pair (l.getD (l.length - 1 - i) (0, 0)) (if i = 0 then t else (2, ((m.objs.length + i - 1 : Nat) : Int))))) := by
  rw [(bld_is m l t n).1]
  simp only
  rw [List.getElem?_append_right (by omega), List.getElem?_map, show m.objs.length + i - m.objs.length = i by omega, List.getElem?_range hi]
  rfl
def built (m : HM) (l : List Wd) (t : Wd) : HM × Wd := bld m l t l.length
def consOf (m : HM) (l : List Wd) (t : Wd) (j : Nat) : Wd := if j < l.length then (2, ((m.objs.length + l.length - 1 - j : Nat) : Int)) else t
theorem built_path (m : HM) (l : List Wd) (t : Wd) : Path (built m l t).1 (consOf m l t) (fun j => l.getD j (0, 0)) l.length := fun j hj => by
  have h := bld_get (m := m) l t (n := l.length) (i := l.length - 1 - j) (by omega)
  have h2 := find_at h
  unfold consOf
  rw [if_pos hj, show m.objs.length + l.length - 1 - j = m.objs.length + (l.length - 1 - j) by omega]
  unfold built
  rw [h2, show l.length - 1 - (l.length - 1 - j) = j by omega]
  congr 2
  by_cases h3 : j + 1 < l.length
  · rw [if_neg (by omega), if_pos h3]
    congr 2
    omega
  · rw [if_pos (by omega), if_neg h3]
theorem built_word (m : HM) (l : List Wd) (t : Wd) : (built m l t).2 = consOf m l t 0 := by
  unfold built consOf
  rw [(bld_is m l t l.length).2]
  by_cases h : l.length = 0
  · rw [if_pos h, if_neg (by omega)]
  · rw [if_neg h, if_pos (by omega)]
    congr 2
theorem built_end (m : HM) (l : List Wd) (t : Wd) : consOf m l t l.length = t := by unfold consOf; rw [if_neg (by omega)]
end Go.Proofs.YtaaebeiigkhcjaaGreatDoor
namespace Go.Proofs.YtaaebeiigkhcjaaGreatDoor
set_option maxRecDepth 100000
section
variable {G : Nat} {σ : Mem} {h : Nat} {m : HM}
theorem resW {ta : Nat → Value} {a : Tmp} {b : Nat} {t : TypeId} {g : Bool} {x y : Int} {vs : List Value} {rv : List ResultVar} (ha : ta a = .pointer (some ⟨b, 0, none⟩)) (hr : σ.get b = some (.row ⟨[.int .i64 x, .int .i64 y], t, g⟩)) (k : resL Tryz.prog ta σ rv = some vs) : resL Tryz.prog ta σ (.cell a 27 :: rv) = some (.agg #[.int .i64 x, .int .i64 y] :: vs) :=
  resL_cell (n := 2) ha hr ((uT_eq _ _).trans Tryz.underlying27) (by kernel_rfl) rfl (by kernel_rfl) k
theorem s_none : SCall G Tryz.prog 74 #[] σ (wdV (1, 0)) σ :=
  closed_scall (G := 16) (n := 100) (K := noK []) (args := []) noK_right (by kernel_rfl) rfl rfl (fun _ _ h => by cases h) (fun _ _ h => by cases h) (fun _ _ h => by cases h) σ (fun _ _ h => by cases h)
theorem s_nilK : SCall G Tryz.prog 9 #[] σ (wdV (1, 0)) σ :=
  closed_scall (G := 16) (n := 100) (K := noK []) (args := []) noK_right (by kernel_rfl) rfl rfl (fun _ _ h => by cases h) (fun _ _ h => by cases h) (fun _ _ h => by cases h) σ (fun _ _ h => by cases h)
theorem null_wc (x : Wd) (hG : G ≤ σ.next) : WC G Tryz.prog 52 #[wdV x] σ fun v σ' => v = .bool (decide (x = (1, 0))) ∧ Grow σ σ' := by
  obtain ⟨xk, xn⟩ := x
  refine WC.enter (fn := Tryz.f52) Tryz.func52 rfl ?_
  refine W.seq ?_
  refine W.region ?_
  refine RW.makeG (x := .row ⟨[.int .i64 xk, .int .i64 xn], 27, false⟩) (fm := fun b => .pointer (some ⟨b, 0, none⟩)) (by kernel_rfl) (by kernel_rfl) (by kernel_rfl) (by kernel_rfl) ?_; intro σ1 _ g1 G1 n1
  refine RW.val (by kernel_rfl) (by kernel_rfl) rfl (by kernel_rfl) ?_
  refine RW.nil ?_
  refine W.seq ?_
  refine W.drawnS (by kernel_rfl) (by kernel_rfl) (Nat.le_trans hG G1.nx) ?_
  refine RW.loads 2 (by kernel_rfl) (by kernel_rfl) rfl rfl g1 rfl rfl (by kernel_rfl) ?_
  refine RW.call (by kernel_rfl) (by kernel_rfl) rfl rfl rfl (by kernel_rfl) (by kernel_rfl) ⟨_, _, s_none, ?_⟩
  refine RW.vop (v := .bool (decide (((xk, xn) : Wd) = (1, 0)))) (by kernel_rfl) (by kernel_rfl) (vop_eqS (b := decide (((xk, xn) : Wd) = (1, 0))) (r := decide (((xk, xn) : Wd) = (1, 0))) rfl (.inl ⟨rfl, rfl⟩) rfl rfl rfl rfl (by kernel_rfl) (fun w => (eqWd _ _ _ _ w).trans (by simp [Prod.ext_iff, Bool.beq_eq_decide_eq]))) (by kernel_rfl) ?_
  refine RW.val (by kernel_rfl) (by kernel_rfl) rfl (by kernel_rfl) ?_
  refine RW.nil ?_
  refine ⟨⟨by kernel_rfl, ?_, fun b => rfl⟩, ?_⟩
  · repeat' (first | exact True.intro | exact fun _ => rfl | exact ⟨_, g1⟩ | refine And.intro ?_ ?_)
  refine W.ret ?_
  exact endG rfl (resL_tmp rfl) ⟨rfl, G1⟩
theorem made_wc (ha : σ.abs = heapAbs h m) (hm : 0 < m.limit) : WC G Tryz.prog 50 #[.pointer (some ⟨h, 0, none⟩)] σ fun v σ' => v = .bool true ∧ σ' = σ := by
  have CL := s_limit (G := G) ha
  refine WC.enter (fn := Tryz.f50) Tryz.func50 rfl ?_
  refine W.seq ?_
  refine W.region ?_
  refine RW.val (by kernel_rfl) (by kernel_rfl) rfl (by kernel_rfl) ?_
  refine RW.nil ?_
  refine W.seq ?_
  refine W.region ?_
  refine RW.val (by kernel_rfl) (by kernel_rfl) rfl (by kernel_rfl) ?_
  refine RW.call (by kernel_rfl) (by kernel_rfl) rfl rfl rfl (by kernel_rfl) (by kernel_rfl) ⟨_, _, CL, ?_⟩
  refine RW.valE (v' := .bool true) (by kernel_rfl) (by kernel_rfl) rfl (congrArg Value.bool (decide_eq_true (by omega))) (by kernel_rfl) ?_
  refine RW.val (by kernel_rfl) (by kernel_rfl) rfl (by kernel_rfl) ?_
  refine RW.nil ?_
  refine W.ret ?_
  exact endG rfl (resL_tmp rfl) ⟨rfl, rfl⟩
theorem isCons_yes (x a d : Wd) (_hG : G ≤ σ.next) (ha : σ.abs = heapAbs h m) (hf : m.find x = some (.pair a d)) : WC G Tryz.prog 80 #[.pointer (some ⟨h, 0, none⟩), wdV x] σ fun v σ' => v = .bool true ∧ Grow σ σ' := by
  obtain ⟨xk, xn⟩ := x
  have hk : xk = 2 := ((HM.find_mem hf).2.2).symm
  subst hk
  refine WC.enter (fn := Tryz.f80) Tryz.func80 rfl ?_
  refine W.seq ?_
  refine W.region ?_
  refine RW.makeG (x := .row ⟨[.int .i64 2, .int .i64 xn], 27, false⟩) (fm := fun b => .pointer (some ⟨b, 0, none⟩)) (by kernel_rfl) (by kernel_rfl) (by kernel_rfl) (by kernel_rfl) ?_; intro σ1 _ g1 G1 n1
  refine RW.val (by kernel_rfl) (by kernel_rfl) rfl (by kernel_rfl) ?_
  refine RW.nil ?_
  have CL := s_live (G := G) xn (G1.abs.trans ha)
  rw [hf] at CL
  refine W.seq ?_
  refine W.region ?_
  refine RW.val (by kernel_rfl) (by kernel_rfl) rfl (by kernel_rfl) ?_
  refine RW.load (by kernel_rfl) (by kernel_rfl) rfl rfl g1 rfl rfl (by kernel_rfl) ?_
  refine RW.val (by kernel_rfl) (by kernel_rfl) rfl (by kernel_rfl) ?_
  refine RW.val (by kernel_rfl) (by kernel_rfl) rfl (by kernel_rfl) ?_
  refine RW.val (by rfl) (by kernel_rfl) rfl (by kernel_rfl) ?_
  refine RW.loads 2 (by rfl) (by kernel_rfl) rfl rfl g1 rfl rfl (by kernel_rfl) ?_
  refine RW.call (by rfl) (by kernel_rfl) rfl rfl rfl (by kernel_rfl) (by kernel_rfl) ⟨_, _, CL, ?_⟩
  refine RW.val (by kernel_rfl) (by kernel_rfl) rfl (by kernel_rfl) ?_
  refine RW.val (by kernel_rfl) (by kernel_rfl) rfl (by kernel_rfl) ?_
  refine RW.nil ?_
  refine W.ret ?_
  exact endG rfl (resL_tmp rfl) ⟨rfl, G1⟩
theorem isCons_no (x : Wd) (_hG : G ≤ σ.next) (ha : σ.abs = heapAbs h m) (hf : x.1 ≠ 2 ∨ m.find x = none) : WC G Tryz.prog 80 #[.pointer (some ⟨h, 0, none⟩), wdV x] σ fun v σ' => v = .bool false ∧ Grow σ σ' := by
  obtain ⟨xk, xn⟩ := x
  refine WC.enter (fn := Tryz.f80) Tryz.func80 rfl ?_
  refine W.seq ?_
  refine W.region ?_
  refine RW.makeG (x := .row ⟨[.int .i64 xk, .int .i64 xn], 27, false⟩) (fm := fun b => .pointer (some ⟨b, 0, none⟩)) (by kernel_rfl) (by kernel_rfl) (by kernel_rfl) (by kernel_rfl) ?_; intro σ1 _ g1 G1 n1
  refine RW.val (by kernel_rfl) (by kernel_rfl) rfl (by kernel_rfl) ?_
  refine RW.nil ?_
  refine W.seq ?_
  refine W.region ?_
  refine RW.val (by kernel_rfl) (by kernel_rfl) rfl (by kernel_rfl) ?_
  refine RW.load (by kernel_rfl) (by kernel_rfl) rfl rfl g1 rfl rfl (by kernel_rfl) ?_
  by_cases hk : xk = 2
  · subst hk
    have hf : m.find (2, xn) = none := hf.resolve_left (fun e => e rfl)
    have CL := s_live (G := G) xn (G1.abs.trans ha)
    rw [hf] at CL
    refine RW.val (by kernel_rfl) (by kernel_rfl) rfl (by kernel_rfl) ?_
    refine RW.val (by kernel_rfl) (by kernel_rfl) rfl (by kernel_rfl) ?_
    refine RW.val (by rfl) (by kernel_rfl) rfl (by kernel_rfl) ?_
    refine RW.loads 2 (by rfl) (by kernel_rfl) rfl rfl g1 rfl rfl (by kernel_rfl) ?_
    refine RW.call (by rfl) (by kernel_rfl) rfl rfl rfl (by kernel_rfl) (by kernel_rfl) ⟨_, _, CL, ?_⟩
    refine RW.val (by kernel_rfl) (by kernel_rfl) rfl (by kernel_rfl) ?_
    refine RW.val (by kernel_rfl) (by kernel_rfl) rfl (by kernel_rfl) ?_
    refine RW.nil ?_
    refine W.ret ?_
    exact endG rfl (resL_tmp rfl) ⟨rfl, G1⟩
  · refine RW.valE (v' := .bool false) (by kernel_rfl) (by kernel_rfl) rfl (congrArg Value.bool (beq_eq_false_iff_ne.2 hk)) (by kernel_rfl) ?_
    refine RW.val (by kernel_rfl) (by kernel_rfl) rfl (by kernel_rfl) ?_
    refine RW.skip (by rfl) (by kernel_rfl) ?_
    refine RW.skip (by rfl) (by kernel_rfl) ?_
    refine RW.skip (by rfl) (by kernel_rfl) ?_
    refine RW.val (by kernel_rfl) (by kernel_rfl) rfl (by kernel_rfl) ?_
    refine RW.val (by kernel_rfl) (by kernel_rfl) rfl (by kernel_rfl) ?_
    refine RW.nil ?_
    refine W.ret ?_
    exact endG rfl (resL_tmp rfl) ⟨rfl, G1⟩
abbrev pp (b : Nat) : Value := .pointer (some ⟨b, 0, none⟩)
theorem conses_wc (x : Wd) (b : Nat) (_hG : G ≤ σ.next) : WC G Tryz.prog 51 #[pp h, wdV x, pp b] σ fun v σ' => v = .func (.func 79) #[] #[pp σ.next, pp (σ.next + 1), pp (σ.next + 2)] ∧ Grow σ σ' ∧ σ'.next = σ.next + 3 ∧
    σ'.get σ.next = some (.row ⟨[pp h], 22, false⟩) ∧ σ'.get (σ.next + 1) = some (.row ⟨[.int .i64 x.1, .int .i64 x.2], 27, false⟩) ∧ σ'.get (σ.next + 2) = some (.row ⟨[pp b], 86, false⟩) := by
  obtain ⟨xk, xn⟩ := x
  refine WC.enter (fn := Tryz.f51) Tryz.func51 rfl ?_
  refine W.seq ?_
  refine W.region ?_
  refine RW.makeG (x := .row ⟨[pp h], 22, false⟩) (fm := fun b => .pointer (some ⟨b, 0, none⟩)) (by kernel_rfl) (by kernel_rfl) (by kernel_rfl) (by kernel_rfl) ?_; intro σ1 _ g1 G1 n1
  refine RW.makeG (x := .row ⟨[.int .i64 xk, .int .i64 xn], 27, false⟩) (fm := fun b => .pointer (some ⟨b, 0, none⟩)) (by kernel_rfl) (by kernel_rfl) (by kernel_rfl) (by kernel_rfl) ?_; intro σ2 _ g2 G2 n2
  refine RW.makeG (x := .row ⟨[pp b], 86, false⟩) (fm := fun b => .pointer (some ⟨b, 0, none⟩)) (by kernel_rfl) (by kernel_rfl) (by kernel_rfl) (by kernel_rfl) ?_; intro σ3 _ g3 G3 n3
  rw [n1] at g2 n2 ⊢
  rw [n2] at g3 n3 ⊢
  refine RW.val (by kernel_rfl) (by kernel_rfl) rfl (by kernel_rfl) ?_
  refine RW.nil ?_
  refine W.seq ?_
  refine W.region ?_
  refine RW.val (by kernel_rfl) (by kernel_rfl) rfl (by kernel_rfl) ?_
  refine RW.val (by kernel_rfl) (by kernel_rfl) rfl (by kernel_rfl) ?_
  refine RW.nil ?_
  refine W.ret ?_
  exact endG rfl (resL_tmp rfl) ⟨by kernel_rfl, (G1.trans G2).trans G3, n3, G3.old _ _ (G2.old _ _ g1), G3.old _ _ g2, g3⟩
end
end Go.Proofs.YtaaebeiigkhcjaaGreatDoor
namespace Go.Proofs.YtaaebeiigkhcjaaGreatDoor
set_option maxRecDepth 100000
abbrev wrow (x : Wd) : Blk2 := .row ⟨[.int .i64 x.1, .int .i64 x.2], 27, false⟩
section
variable {G : Nat} {h : Nat} {m : HM}
theorem consesLoop {c a : Nat → Wd} {n b3 b4 b5 b7 L : Nat} {σ0 : Mem} (hp : Path m c a n) (hb4 : G ≤ b4) (hb7 : G ≤ b7) (hL : G ≤ L) {I J : Nat → Mem → Prop} {R : Mem → Prop}
    (hI : ∀ k σ, I k σ → G ≤ σ.next ∧ σ.abs = heapAbs h m ∧ σ.get b3 = some (.row ⟨[pp h], 22, false⟩) ∧ σ.get b4 = some (wrow (c k)) ∧ σ.get b5 = some (.row ⟨[pp b7], 86, false⟩))
    (hg : ∀ k σ σ', I k σ → Grow σ σ' → I k σ')
    (hy : ∀ k σ, k < n → I k σ → Yield G Tryz.prog L [wdV (c k), wdV (a k)] σ fun r σ' => (r = true → J k σ') ∧ (r = false → R σ'))
    (hJ : ∀ k σ, J k σ → σ.abs = heapAbs h m ∧ σ.get b3 = some (.row ⟨[pp h], 22, false⟩) ∧ σ.get b4 = some (wrow (c k)))
    (hJn : ∀ k σ σ', J k σ → Set1 σ σ' b4 (wrow (c (k + 1))) → I (k + 1) σ')
    (hend : ∀ σ, I n σ → ((c n).1 ≠ 2 ∨ m.find (c n) = none) ∧ ∃ x, σ.get b7 = some (wrow x) ∧ ∀ σ1 σ2, Grow σ σ1 → Set1 σ1 σ2 b7 (wrow (c n)) → R σ2) (h0 : I 0 σ0) :
    WC G Tryz.prog 79 #[.func (.yield L) #[] #[], pp b3, pp b4, pp b5] σ0 fun _ σ' => R σ' := by
  refine WC.enter (fn := Tryz.f79) Tryz.func79 rfl ?_
  refine W.know 0 (x := .func (.yield L) #[] #[]) rfl (W.know 1 (x := pp b3) rfl (W.know 2 (x := pp b4) rfl (W.know 3 (x := pp b5) rfl ?_)))
  refine W.seq ?_
  refine W.block ?_
  refine W.loop (fun mm ta σ => ∃ k, mm + k = n ∧ I k σ ∧ ta 0 = .func (.yield L) #[] #[] ∧ ta 1 = pp b3 ∧ ta 2 = pp b4 ∧ ta 3 = pp b5) n ?_ ?_
  · exact ⟨0, rfl, h0, rfl, rfl, rfl, rfl⟩
  rintro mm ta σ ⟨k, hm, hk, e0, e1, e2, e3⟩
  refine W.know 0 e0 (W.know 1 e1 (W.know 2 e2 (W.know 3 e3 (?_))))
  obtain ⟨hGn, ha, q3, q4, q5⟩ := hI k σ hk
  refine W.seq ?_
  refine W.seq ?_
  refine W.region ?_
  refine RW.load (by kernel_rfl) (by kernel_rfl) rfl rfl q3 rfl rfl (by kernel_rfl) ?_
  refine RW.loads 2 (by kernel_rfl) (by kernel_rfl) rfl rfl q4 rfl rfl (by kernel_rfl) ?_
  by_cases hkn : k < n
  · have hf := hp k hkn
    refine RW.call (by kernel_rfl) (by kernel_rfl) rfl rfl rfl (by kernel_rfl) (by kernel_rfl) ((isCons_yes (c k) _ _ hGn ha hf).mono ?_)
    rintro _ σ1 ⟨rfl, G1⟩
    have k1 := hg _ _ _ hk G1
    obtain ⟨hGn1, ha1, r3, r4, r5⟩ := hI k σ1 k1
    refine RW.nil ?_
    refine W.cond (b := true) rfl (fun _ => ?_) (fun h => by cases h)
    refine W.skip ?_
    refine W.block ?_
    refine W.seq ?_
    refine W.region ?_
    have CC := s_car (G := G) (c k) ha1
    rw [car_of hf] at CC
    refine RW.load (by kernel_rfl) (by kernel_rfl) rfl rfl r3 rfl rfl (by kernel_rfl) ?_
    refine RW.loads 2 (by kernel_rfl) (by kernel_rfl) rfl rfl r4 rfl rfl (by kernel_rfl) ?_
    refine RW.call (by kernel_rfl) (by kernel_rfl) rfl rfl rfl (by kernel_rfl) (by kernel_rfl) ⟨_, _, CC, ?_⟩
    refine RW.val (by kernel_rfl) (by kernel_rfl) rfl (by kernel_rfl) ?_
    refine RW.val (by kernel_rfl) (by kernel_rfl) rfl (by kernel_rfl) ?_
    refine RW.val (by kernel_rfl) (by kernel_rfl) rfl (by kernel_rfl) ?_
    refine RW.varS (d := 5) (r0 := ⟨[.int .i64 0, .int .i64 0], 27, false⟩) (vs := #[.int .i64 (a k).1, .int .i64 (a k).2]) (by kernel_rfl) (by kernel_rfl) (by kernel_rfl) rfl (by kernel_rfl) rfl (by kernel_rfl) rfl rfl rfl rfl (by kernel_rfl) rfl hGn1 ?_
    intro σ2 _ ga oa na aa
    have k2 := hg _ _ _ k1 ⟨oa, by omega, aa⟩
    obtain ⟨hGn2, ha2, p3, p4, p5⟩ := hI k σ2 k2
    refine RW.val (by kernel_rfl) (by kernel_rfl) rfl (by kernel_rfl) ?_
    refine RW.nil ?_
    refine W.seq ?_
    refine W.seq ?_
    refine W.region ?_
    refine RW.val (by kernel_rfl) (by kernel_rfl) rfl (by kernel_rfl) ?_
    refine RW.loads 2 (by kernel_rfl) (by kernel_rfl) rfl rfl p4 rfl rfl (by kernel_rfl) ?_
    refine RW.loads 2 (by kernel_rfl) (by kernel_rfl) rfl rfl ga rfl rfl (by kernel_rfl) ?_
    refine RW.yieldR (by kernel_rfl) (by kernel_rfl) rfl rfl rfl hL rfl (by kernel_rfl) ?_
    refine (hy k σ2 hkn k2).mono fun r σ4 hr => ?_
    obtain ⟨e6, e7⟩ := hr
    cases r with
    | false =>
      refine RW.val (by kernel_rfl) (by kernel_rfl) rfl (by kernel_rfl) ?_
      refine RW.nil ?_
      refine W.cond (b := true) rfl (fun _ => ?_) (fun h => by cases h)
      refine W.ret ?_
      exact endG (R := fun _ σ' => R σ') (vs := []) rfl rfl (e7 rfl)
    | true =>
      obtain ⟨ha3, t3, t4⟩ := hJ k σ4 (e6 rfl)
      have CD := s_cdr (G := G) (c k) ha3
      rw [cdr_of hf] at CD
      refine RW.val (by kernel_rfl) (by kernel_rfl) rfl (by kernel_rfl) ?_
      refine RW.nil ?_
      refine W.cond (b := false) rfl (fun h => by cases h) (fun _ => ?_)
      refine W.skip ?_
      refine W.region ?_
      refine RW.load (by kernel_rfl) (by kernel_rfl) rfl rfl t3 rfl rfl (by kernel_rfl) ?_
      refine RW.loads 2 (by kernel_rfl) (by kernel_rfl) rfl rfl t4 rfl rfl (by kernel_rfl) ?_
      refine RW.call (by kernel_rfl) (by kernel_rfl) rfl rfl rfl (by kernel_rfl) (by kernel_rfl) ⟨_, _, CD, ?_⟩
      refine RW.val (by kernel_rfl) (by kernel_rfl) rfl (by kernel_rfl) ?_
      refine RW.val (by kernel_rfl) (by kernel_rfl) rfl (by kernel_rfl) ?_
      refine RW.val (by kernel_rfl) (by kernel_rfl) rfl (by kernel_rfl) ?_
      refine RW.setG (b := b4) (vs := #[.int .i64 (c (k + 1)).1, .int .i64 (c (k + 1)).2]) (by kernel_rfl) (by kernel_rfl) rfl rfl hb4 t4 rfl rfl (by kernel_rfl) rfl (by kernel_rfl) ?_
      intro σ5 _ s5
      refine RW.nil ?_
      exact ⟨rfl, mm - 1, by omega, k + 1, by omega, hJn k σ4 σ5 (e6 rfl) s5, rfl, rfl, rfl, rfl⟩
  · have hk0 : k = n := by omega
    subst hk0
    obtain ⟨hno, x, x1, x2⟩ := hend σ hk
    refine RW.call (by kernel_rfl) (by kernel_rfl) rfl rfl rfl (by kernel_rfl) (by kernel_rfl) ((isCons_no (c k) hGn ha hno).mono ?_)
    rintro _ σ1 ⟨rfl, G1⟩
    refine RW.nil ?_
    refine W.cond (b := false) rfl (fun h => by cases h) (fun _ => ?_)
    refine W.exit _ ?_
    refine W.region ?_
    refine RW.load (by kernel_rfl) (by kernel_rfl) rfl rfl (G1.old _ _ q5) rfl rfl (by kernel_rfl) ?_
    refine RW.loads 2 (by kernel_rfl) (by kernel_rfl) rfl rfl (G1.old _ _ q4) rfl rfl (by kernel_rfl) ?_
    refine RW.val (by kernel_rfl) (by kernel_rfl) rfl (by kernel_rfl) ?_
    refine RW.setG (b := b7) (vs := #[.int .i64 (c k).1, .int .i64 (c k).2]) (by kernel_rfl) (by kernel_rfl) rfl rfl hb7 (G1.old _ _ x1) rfl rfl (by kernel_rfl) rfl (by kernel_rfl) ?_
    intro σ5 _ s5
    refine RW.nil ?_
    exact endG (R := fun _ σ' => R σ') (vs := []) rfl rfl (x2 σ1 σ5 G1 s5)
end
end Go.Proofs.YtaaebeiigkhcjaaGreatDoor
namespace Go.Proofs.YtaaebeiigkhcjaaGreatDoor
set_option maxRecDepth 100000
def rangePs : Code → Array Tmp | .rangeFunc _ ps _ _ => ps | _ => #[]
def rangeAs : Code → Code | .rangeFunc _ _ as_ _ => as_ | _ => .skip
def rangeBo : Code → Code | .rangeFunc _ _ _ bo => bo | _ => .skip
def rangeIn : Code → Code | .seq (.seq _ (.block _ r)) _ => r | _ => .skip
noncomputable abbrev sliceR : Code := rangeIn (restN 4 (bodyOf Tryz.f12))
noncomputable abbrev sliceL (TA : Nat → Value) (D : Nat) : Blk2 := rdy 30 TA (rangePs sliceR) (rangeAs sliceR) (rangeBo sliceR) D
def firstN (a : Nat → Wd) (k : Nat) : List Wd := (List.range k).map a
theorem firstN_succ (a : Nat → Wd) (k : Nat) : firstN a (k + 1) = firstN a k ++ [a k] := by simp [firstN, List.range_succ]
theorem firstN_length (a : Nat → Wd) (k : Nat) : (firstN a k).length = k := by simp [firstN]
structure SliceAt (G h : Nat) (m : HM) (σ0 σ : Mem) (TA : Nat → Value) (a : Nat → Wd) (k : Nat) (cur : Wd) : Prop where
  old : ∀ b y, σ0.get b = some y → σ.get b = some y
  nx : σ0.next + 10 ≤ σ.next
  abs : σ.abs = heapAbs h m
  r4 : σ.get (σ0.next + 1) = some (.row ⟨[.slice none 0 0], 33, false⟩)
  r5 : σ.get (σ0.next + 2) = some (.row ⟨[.int .i64 0], 30, false⟩)
  out : ∃ v, σ.get (σ0.next + 3) = some (.row ⟨[v], 33, false⟩) ∧ GRow G σ 27 2 v k (wdC (firstN a k)) ∧ ∀ b, blkOf v = some b → σ0.next + 10 ≤ b
  r7 : ∃ x, σ.get (σ0.next + 4) = some (wrow x)
  c3 : σ.get (σ0.next + 5) = some (.row ⟨[pp h], 22, false⟩)
  c4 : σ.get (σ0.next + 6) = some (wrow cur)
  c5 : σ.get (σ0.next + 7) = some (.row ⟨[pp (σ0.next + 4)], 86, false⟩)
  df : σ.get (σ0.next + 8) = some (.defs true)
  lp : σ.get (σ0.next + 9) = some (sliceL TA (σ0.next + 8))
section
variable {G h : Nat} {m : HM} {σ0 σ σ' : Mem} {TA : Nat → Value} {a : Nat → Wd} {k : Nat} {cur : Wd}
theorem SliceAt.grow (S : SliceAt G h m σ0 σ TA a k cur) (g : Grow σ σ') : SliceAt G h m σ0 σ' TA a k cur := by
  obtain ⟨v, o1, o2, o3⟩ := S.out
  refine ⟨fun b y hy => g.old b y (S.old b y hy), Nat.le_trans S.nx g.nx, g.abs.trans S.abs, g.old _ _ S.r4, g.old _ _ S.r5, ⟨v, g.old _ _ o1, o2.keep fun b hb => ?_, o3⟩, ?_, g.old _ _ S.c3, g.old _ _ S.c4, g.old _ _ S.c5, g.old _ _ S.df, g.old _ _ S.lp⟩
  · obtain ⟨r, h1, _⟩ := o2.is hb
    rw [h1, g.old _ _ h1]
  · obtain ⟨x, hx⟩ := S.r7
    exact ⟨x, g.old _ _ hx⟩
theorem SliceAt.keep (_S : SliceAt G h m σ0 σ TA a k cur) {b : Nat} {x : Blk2} (s : Set1 σ σ' b x) (_h1 : σ0.next ≤ b) (_h2 : b < σ0.next + 10) : ∀ c y, c ≠ b → σ.get c = some y → σ'.get c = some y := s.old
theorem SliceAt.setCur (S : SliceAt G h m σ0 σ TA a k cur) {x : Wd} (s : Set1 σ σ' (σ0.next + 6) (wrow x)) : SliceAt G h m σ0 σ' TA a k x := by
  obtain ⟨v, o1, o2, o3⟩ := S.out
  refine ⟨fun b y hy => s.old b y (by have := Mem.lt hy; omega) (S.old b y hy), by rw [s.nx]; exact S.nx, s.abs.trans S.abs, s.old _ _ (by omega) S.r4, s.old _ _ (by omega) S.r5, ⟨v, s.old _ _ (by omega) o1, o2.keep fun b hb => ?_, o3⟩, ?_, s.old _ _ (by omega) S.c3, s.at_, s.old _ _ (by omega) S.c5, s.old _ _ (by omega) S.df, s.old _ _ (by omega) S.lp⟩
  · obtain ⟨r, h1, _⟩ := o2.is hb
    have := o3 b hb
    rw [h1, s.old _ _ (by omega) h1]
  · obtain ⟨y, hy⟩ := S.r7
    exact ⟨y, s.old _ _ (by omega) hy⟩
structure SliceStop (h : Nat) (m : HM) (σ0 σ : Mem) : Prop where
  old : ∀ b y, σ0.get b = some y → σ.get b = some y
  nx : σ0.next + 10 ≤ σ.next
  abs : σ.abs = heapAbs h m
  r4 : σ.get (σ0.next + 1) = some (.row ⟨[.slice none 0 0], 33, false⟩)
  r5 : σ.get (σ0.next + 2) = some (.row ⟨[.int .i64 16], 30, false⟩)
  df : σ.get (σ0.next + 8) = some (.defs true)
  lp : ∃ nt' ta' ps' as' bo' df', σ.get (σ0.next + 9) = some (.loop .done (some .ret) nt' ta' ps' as' bo' df')
theorem slice_yield (hG : G ≤ σ0.next) (S : SliceAt G h m σ0 σ TA a k cur) (hk : k ≤ 65536) (e4 : TA 4 = pp (σ0.next + 1)) (e5 : TA 5 = pp (σ0.next + 2)) (e6 : TA 6 = pp (σ0.next + 3)) :
    Yield G Tryz.prog (σ0.next + 9) [wdV cur, wdV (a k)] σ fun r σ' => (r = true → k < 65536 ∧ SliceAt G h m σ0 σ' TA a (k + 1) cur) ∧ (r = false → k = 65536 ∧ SliceStop h m σ0 σ') := by
  obtain ⟨v, o1, o2, o3⟩ := S.out
  have hGn : G ≤ σ.next := by have := S.nx; omega
  have hnx := S.nx
  refine Yield.of S.lp rfl (by decide) ?_
  refine W.know 4 (x := pp (σ0.next + 1)) e4 (W.know 5 (x := pp (σ0.next + 2)) e5 (W.know 6 (x := pp (σ0.next + 3)) e6 ?_))
  refine W.region ?_
  refine RW.varS (d := 9) (r0 := ⟨[.int .i64 0, .int .i64 0], 27, false⟩) (vs := #[.int .i64 (a k).1, .int .i64 (a k).2]) (by kernel_rfl) (by kernel_rfl) (by kernel_rfl) rfl (by kernel_rfl) rfl (by kernel_rfl) rfl rfl rfl rfl (by kernel_rfl) rfl hGn ?_
  intro σ1 _ g1 q1 n1 a1
  have S1 := S.grow ⟨q1, by omega, a1⟩
  refine RW.nil ?_
  refine ⟨rfl, S1.lp, fun σ2 s2 => ?_⟩
  have o1' := s2.old _ _ (by omega) (q1 _ _ o1)
  have g2 := s2.old _ _ (by omega) g1
  refine W.block ?_
  refine W.seq ?_
  refine W.seq ?_
  refine W.region ?_
  refine RW.load (by kernel_rfl) (by kernel_rfl) rfl rfl o1' rfl rfl (by kernel_rfl) ?_
  refine RW.len (by kernel_rfl) (by kernel_rfl) rfl rfl rfl rfl (o2.len (by kernel_rfl)) (by kernel_rfl) ?_
  by_cases hk6 : k = 65536
  · refine RW.valE (v' := .bool true) (by kernel_rfl) (by kernel_rfl) rfl (congrArg Value.bool (decide_eq_true (by omega))) (by kernel_rfl) ?_
    refine RW.nil ?_
    refine W.cond (b := true) rfl (fun _ => ?_) (fun h => by cases h)
    refine W.seq ?_
    refine W.region ?_
    refine RW.set1G (b := σ0.next + 1) (v := .slice none 0 0) (by kernel_rfl) (by kernel_rfl) rfl rfl (by omega) (s2.old _ _ (by omega) S1.r4) rfl rfl rfl (by kernel_rfl) rfl (by kernel_rfl) ?_; intro σ3 _ s3
    refine RW.set1G (b := σ0.next + 2) (v := .int .i64 16) (by kernel_rfl) (by kernel_rfl) rfl rfl (by omega) (s3.old _ _ (by omega) (s2.old _ _ (by omega) S1.r5)) rfl rfl rfl (by kernel_rfl) rfl (by kernel_rfl) ?_; intro σ4 _ s4
    refine RW.nil ?_
    refine W.ret ?_
    refine ⟨s4.old _ _ (by omega) (s3.old _ _ (by omega) s2.at_), _, _, _, rfl, fun σ5 s5 => ⟨fun h => (by cases h), fun _ => ⟨hk6, ?_⟩⟩⟩
    exact ⟨fun b y hy => s5.old b y (by have := Mem.lt hy; omega) (s4.old b y (by have := Mem.lt hy; omega) (s3.old b y (by have := Mem.lt hy; omega) (s2.old b y (by have := Mem.lt hy; omega) (S1.old b y hy)))), by rw [s5.nx, s4.nx, s3.nx, s2.nx]; exact S1.nx, s5.abs.trans (s4.abs.trans (s3.abs.trans (s2.abs.trans S1.abs))), s5.old _ _ (by omega) (s4.old _ _ (by omega) s3.at_), s5.old _ _ (by omega) s4.at_, s5.old _ _ (by omega) (s4.old _ _ (by omega) (s3.old _ _ (by omega) (s2.old _ _ (by omega) S1.df))), _, _, _, _, _, _, s5.at_⟩
  · refine RW.valE (v' := .bool false) (by kernel_rfl) (by kernel_rfl) rfl (congrArg Value.bool (decide_eq_false (by omega))) (by kernel_rfl) ?_
    refine RW.nil ?_
    refine W.cond (b := false) rfl (fun h => by cases h) (fun _ => ?_)
    refine W.skip ?_
    refine W.region ?_
    refine RW.load (by kernel_rfl) (by kernel_rfl) rfl rfl o1' rfl rfl (by kernel_rfl) ?_
    refine RW.loads 2 (by kernel_rfl) (by kernel_rfl) rfl rfl g2 rfl rfl (by kernel_rfl) ?_
    refine RW.make (x := .row ⟨wdC [a k], 27, false⟩) (fm := fun b => .slice (some ⟨b, 0, none⟩) 1 1) (by kernel_rfl) (by kernel_rfl) (by kernel_rfl) (by kernel_rfl) ?_
    have o2' : GRow G σ2 27 2 v k (wdC (firstN a k)) := o2.keep fun b hb => by
      obtain ⟨r, h1, _⟩ := o2.is hb
      have := o3 b hb
      rw [h1, s2.old _ _ (by omega) (q1 _ _ h1)]
    obtain ⟨v', cmd, k1, k2, k3, k4, k5, k6⟩ := grow_push (P := Tryz.prog) (t := 33) (u := 33) (e2 := 27) (r := ⟨wdC [a k], 27, false⟩) (n := 1) o2' (by rw [s2.nx]; omega) (by kernel_rfl) (by kernel_rfl) (by kernel_rfl) (by decide) (by decide) rfl rfl (by omega)
    refine RW.append (by kernel_rfl) (by kernel_rfl) rfl rfl rfl rfl k1 (by kernel_rfl) ?_
    generalize MCmd.app (σ2.push (.row ⟨wdC [a k], 27, false⟩)) cmd = σ3 at k2 k3 k4 k5 ⊢
    have hold : ∀ b y, b < σ0.next + 10 → σ2.get b = some y → σ3.get b = some y := fun b y hb hy => k5 b y hy fun e => by have := o3 b e; omega
    refine RW.set1G (b := σ0.next + 3) (v := v') (by kernel_rfl) (by kernel_rfl) rfl rfl (by omega) (hold _ _ (by omega) o1') rfl (by cases k2 <;> rfl) (by cases k2 <;> rfl) (by kernel_rfl) rfl (by kernel_rfl) ?_; intro σ4 _ s4
    refine RW.nil ?_
    have kp : ∀ b y, b < σ0.next + 10 → b ≠ σ0.next + 3 → b ≠ σ0.next + 9 → σ1.get b = some y → σ4.get b = some y := fun b y hb h3 h9 hy => s4.old b y h3 (hold b y hb (s2.old b y h9 hy))
    refine ⟨s4.old _ _ (by omega) (hold _ _ (by omega) s2.at_), _, _, _, rfl, fun σ5 s5 => ⟨fun _ => ⟨by omega, ?_⟩, fun h => (by cases h)⟩⟩
    have kq : ∀ b y, b < σ0.next + 10 → b ≠ σ0.next + 3 → b ≠ σ0.next + 9 → σ1.get b = some y → σ5.get b = some y := fun b y hb h3 h9 hy => s5.old b y h9 (kp b y hb h3 h9 hy)
    have hs2n := s2.nx
    have hs4n := s4.nx
    have hs5n := s5.nx
    refine ⟨fun b y hy => kq b y (by have := Mem.lt hy; omega) (by have := Mem.lt hy; omega) (by have := Mem.lt hy; omega) (S1.old b y hy), by omega, s5.abs.trans (s4.abs.trans (k4.trans (s2.abs.trans S1.abs))), kq _ _ (by omega) (by omega) (by omega) S1.r4, kq _ _ (by omega) (by omega) (by omega) S1.r5, ⟨v', s5.old _ _ (by omega) s4.at_, ?_, fun b hb => ?_⟩, ?_, kq _ _ (by omega) (by omega) (by omega) S1.c3, kq _ _ (by omega) (by omega) (by omega) S1.c4, kq _ _ (by omega) (by omega) (by omega) S1.c5, kq _ _ (by omega) (by omega) (by omega) S1.df, s5.at_⟩
    · rw [firstN_succ, show wdC (firstN a k ++ [a k]) = wdC (firstN a k) ++ wdC [a k] by simp [wdC]]
      refine k2.keep fun b hb => ?_
      obtain ⟨r, h1, _⟩ := k2.is hb
      have hb10 : σ0.next + 10 ≤ b := by
        rcases k6 b hb with h2 | h2
        · exact o3 b h2
        · omega
      rw [h1, s5.old _ _ (by omega) (s4.old _ _ (by omega) h1)]
    · rcases k6 b hb with h2 | h2
      · exact o3 b h2
      · omega
    · obtain ⟨y, hy⟩ := S1.r7
      exact ⟨y, kq _ _ (by omega) (by omega) (by omega) hy⟩
end
end Go.Proofs.YtaaebeiigkhcjaaGreatDoor
namespace Go.Proofs.YtaaebeiigkhcjaaGreatDoor
theorem resE {σ : Mem} {ta : Nat → Value} {a : Tmp} {b : Nat} {t : TypeId} {g : Bool} {v : Value} {vs : List Value} {rv : List ResultVar} (ha : ta a = .pointer (some ⟨b, 0, none⟩)) (hr : σ.get b = some (.row ⟨[v], t, g⟩)) (k : resL Tryz.prog ta σ rv = some vs) : resL Tryz.prog ta σ (.cell a 30 :: rv) = some (v :: vs) :=
  resL_cell (n := 1) ha hr ((uT_eq _ _).trans Tryz.underlying30) (by kernel_rfl) rfl (by kernel_rfl) k
theorem GRow.one {G : Nat} {σ : Mem} {e : TypeId} {s n : Nat} {v : Value} {xs : List Value} (g : GRow G σ e s v n xs) : v.cells.toList = [v] := by cases g <;> rfl
end Go.Proofs.YtaaebeiigkhcjaaGreatDoor
namespace Go.Proofs.YtaaebeiigkhcjaaGreatDoor
set_option maxRecDepth 100000
theorem set1_put {σ : Mem} {b : Nat} {x y : Blk2} (h : σ.get b = some y) : Set1 σ (σ.put b x) b x := ⟨get_put h, fun _ _ hc hy => get_put_ne hy hc, rfl, rfl⟩
section
variable {G h : Nat} {m : HM} {σ : Mem}
theorem resS {ta : Nat → Value} {a : Tmp} {b : Nat} {t : TypeId} {g : Bool} {v : Value} {vs : List Value} {rv : List ResultVar} (ha : ta a = .pointer (some ⟨b, 0, none⟩)) (hr : σ.get b = some (.row ⟨[v], t, g⟩)) (k : resL Tryz.prog ta σ rv = some vs) : resL Tryz.prog ta σ (.cell a 33 :: rv) = some (v :: vs) :=
  resL_cell (n := 1) ha hr ((uT_eq _ _).trans Tryz.underlying33) (by kernel_rfl) rfl (by kernel_rfl) k
def SliceR (G : Nat) (n : Nat) (c a : Nat → Wd) (σ0 : Mem) (v : Value) (σ' : Mem) : Prop :=
  Grow σ0 σ' ∧ ((n = 65537 ∧ v = .tuple #[.slice none 0 0, .int .i64 16]) ∨ (n ≤ 65536 ∧ c n ≠ (1, 0) ∧ v = .tuple #[.slice none 0 0, .int .i64 6]) ∨
    (n ≤ 65536 ∧ c n = (1, 0) ∧ ∃ sl, v = .tuple #[sl, .int .i64 0] ∧ GRow G σ' 27 2 sl n (wdC (firstN a n)) ∧ ∀ b, blkOf sl = some b → σ0.next ≤ b))
theorem slice_wc {σ0 : Mem} (hG : G ≤ σ0.next) (ha : σ0.abs = heapAbs h m) (hlim : 0 < m.limit) {c a : Nat → Wd} {n : Nat} (hp : Path m c a n) (hend : n = 65537 ∨ n ≤ 65536 ∧ ((c n).1 ≠ 2 ∨ m.find (c n) = none)) :
    WC G Tryz.prog 12 #[pp h, wdV (c 0)] σ0 (SliceR G n c a σ0) := by
  refine WC.enterD (fn := Tryz.f12) Tryz.func12 rfl ?_
  refine W.know 0 (x := pp h) rfl ?_
  refine W.seq ?_
  refine W.region ?_
  refine RW.makeG (x := .row ⟨[.int .i64 (c 0).1, .int .i64 (c 0).2], 27, false⟩) (fm := fun b => .pointer (some ⟨b, 0, none⟩)) (by kernel_rfl) (by kernel_rfl) (by kernel_rfl) (by kernel_rfl) ?_; intro σ1 _ g1 G1 n1
  refine RW.makeG (x := .row ⟨[.slice none 0 0], 33, false⟩) (fm := fun b => .pointer (some ⟨b, 0, none⟩)) (by kernel_rfl) (by kernel_rfl) (by kernel_rfl) (by kernel_rfl) ?_; intro σ2 _ g2 G2 n2
  refine RW.makeG (x := .row ⟨[.int .i64 0], 30, false⟩) (fm := fun b => .pointer (some ⟨b, 0, none⟩)) (by kernel_rfl) (by kernel_rfl) (by kernel_rfl) (by kernel_rfl) ?_; intro σ3 _ g3 G3 n3
  rw [n1] at g2 n2 ⊢
  rw [n2] at g3 n3 ⊢
  refine RW.nil ?_
  have G03 := (G1.trans G2).trans G3
  refine W.seq ?_
  refine W.seq ?_
  refine W.region ?_
  refine RW.val (by kernel_rfl) (by kernel_rfl) rfl (by kernel_rfl) ?_
  refine RW.call (by kernel_rfl) (by kernel_rfl) rfl rfl rfl (by kernel_rfl) (by kernel_rfl) ((made_wc (G03.abs.trans ha) hlim).mono ?_)
  rintro _ _ ⟨rfl, rfl⟩
  refine RW.val (by kernel_rfl) (by kernel_rfl) rfl (by kernel_rfl) ?_
  refine RW.nil ?_
  refine W.cond (b := false) rfl (fun h => by cases h) (fun _ => ?_)
  refine W.skip ?_
  refine W.seq ?_
  refine W.region ?_
  refine RW.makeG (x := .row ⟨[.slice none 0 0], 33, false⟩) (fm := fun b => .pointer (some ⟨b, 0, none⟩)) (by kernel_rfl) (by kernel_rfl) (by kernel_rfl) (by kernel_rfl) ?_; intro σ4 _ g4 G4 n4
  rw [n3] at g4 n4 ⊢
  refine RW.nil ?_
  have q1 := G4.old _ _ (G3.old _ _ (G2.old _ _ g1))
  refine W.seq ?_
  refine W.region ?_
  refine RW.loads 2 (by kernel_rfl) (by kernel_rfl) rfl rfl q1 rfl rfl (by kernel_rfl) ?_
  refine RW.varS (d := 7) (r0 := ⟨[.int .i64 0, .int .i64 0], 27, false⟩) (vs := #[.int .i64 (c 0).1, .int .i64 (c 0).2]) (by kernel_rfl) (by kernel_rfl) (by kernel_rfl) rfl (by kernel_rfl) rfl (by kernel_rfl) rfl rfl rfl rfl (by kernel_rfl) rfl (by omega) ?_
  intro σ5 _ g5 o5 n5 a5
  have G5 : Grow σ4 σ5 := ⟨o5, by omega, a5⟩
  rw [n4] at g5 n5 ⊢
  refine RW.nil ?_
  refine W.seq ?_
  refine W.seq ?_
  refine W.region ?_
  refine RW.val (by kernel_rfl) (by kernel_rfl) rfl (by kernel_rfl) ?_
  refine RW.loads 2 (by kernel_rfl) (by kernel_rfl) rfl rfl (G5.old _ _ q1) rfl rfl (by kernel_rfl) ?_
  refine RW.call (by kernel_rfl) (by kernel_rfl) rfl rfl rfl (by kernel_rfl) (by kernel_rfl) ((conses_wc (c 0) (σ0.next + 1 + 1 + 1 + 1) (by omega)).mono ?_)
  rintro _ σ6 ⟨rfl, G6, n6, c3, c4, c5⟩
  refine RW.nil ?_
  refine W.block ?_
  have G06 := ((G03.trans G4).trans G5).trans G6
  have hn6 : σ6.next = σ0.next + 8 := by omega
  refine W.tas 4 5 6 7 16 (x1 := pp (σ0.next + 1)) (x2 := pp (σ0.next + 2)) (x3 := pp (σ0.next + 3)) (x4 := pp (σ0.next + 4)) (x5 := .func (.func 79) #[] #[pp (σ0.next + 5), pp (σ0.next + 6), pp (σ0.next + 7)]) rfl rfl rfl rfl (by rw [show σ0.next + 5 = σ5.next by omega, show σ0.next + 6 = σ5.next + 1 by omega, show σ0.next + 7 = σ5.next + 2 by omega]; rfl) fun TA t4 t5 t6 t7 t16 => ?_
  refine W.range (fa := #[]) (ca := #[pp (σ0.next + 5), pp (σ0.next + 6), pp (σ0.next + 7)]) t16 (fun i h => by cases h) (fun v h => by cases h) (by kernel_rfl) ?_
  rw [hn6]
  rw [show σ5.next = σ0.next + 5 by omega] at c3 c4 c5
  obtain ⟨σ7, h7⟩ : ∃ s, s = (σ6.push (.defs true)).push (sliceL TA (σ0.next + 8)) := ⟨_, rfl⟩
  have G7 : Grow σ6 σ7 := by
    rw [h7]
    exact ⟨fun b y hy => get_push_old (get_push_old hy), by show σ6.next ≤ σ6.next + 1 + 1; omega, rfl⟩
  have hn7 : σ7.next = σ0.next + 10 := by rw [h7]; show σ6.next + 1 + 1 = _; omega
  have d7 : σ7.get (σ0.next + 8) = some (.defs true) := by rw [h7, ← hn6]; exact get_push_old get_push
  have l7 : σ7.get (σ0.next + 9) = some (sliceL TA (σ0.next + 8)) := by
    rw [h7, show σ0.next + 9 = (σ6.push (.defs true)).next by show _ = σ6.next + 1; omega]
    exact get_push
  have G07 := G06.trans G7
  have S0 : SliceAt G h m σ0 σ7 TA a 0 (c 0) := by
    refine ⟨G07.old, by omega, G07.abs.trans ha, ?_, ?_, ⟨.slice none 0 0, ?_, .nil, fun b hb => by cases hb⟩, ⟨c 0, ?_⟩, G7.old _ _ c3, G7.old _ _ c4, G7.old _ _ c5, d7, l7⟩
    · exact G7.old _ _ (G6.old _ _ (G5.old _ _ (G4.old _ _ (G3.old _ _ g2))))
    · exact G7.old _ _ (G6.old _ _ (G5.old _ _ (G4.old _ _ g3)))
    · exact G7.old _ _ (G6.old _ _ (G5.old _ _ g4))
    · exact G7.old _ _ (G6.old _ _ g5)
  show WC G Tryz.prog 79 #[.func (.yield (σ0.next + 9)) #[] #[], pp (σ0.next + 5), pp (σ0.next + 6), pp (σ0.next + 7)] ((σ6.push (.defs true)).push (sliceL TA (σ0.next + 8))) _
  rw [← h7]
  clear h7 G1 G2 G3 G4 G5 G6 G03 G06 g1 g2 g3 g4 g5 o5 q1 c3 c4 c5 d7 l7
  refine (consesLoop (h := h) (m := m) (c := c) (a := a) (n := n) (b3 := σ0.next + 5) (b4 := σ0.next + 6) (b5 := σ0.next + 7) (b7 := σ0.next + 4) (L := σ0.next + 9) hp (by omega) (by omega) (by omega) (I := fun k σ => k ≤ 65536 ∧ SliceAt G h m σ0 σ TA a k (c k)) (J := fun k σ => k < 65536 ∧ SliceAt G h m σ0 σ TA a (k + 1) (c k)) (R := fun σ => (n ≤ 65536 ∧ SliceAt G h m σ0 σ TA a n (c n) ∧ σ.get (σ0.next + 4) = some (wrow (c n))) ∨ (n = 65537 ∧ SliceStop h m σ0 σ)) ?_ ?_ ?_ ?_ ?_ ?_ ⟨by omega, S0⟩).mono ?_
  · rintro k σ ⟨_, S⟩
    exact ⟨by have := S.nx; omega, S.abs, S.c3, S.c4, S.c5⟩
  · rintro k σ σ' ⟨hk, S⟩ g
    exact ⟨hk, S.grow g⟩
  · rintro k σ hkn ⟨hk, S⟩
    refine (slice_yield hG S hk t4 t5 t6).mono fun r σ' hr => ⟨fun e => hr.1 e, fun e => .inr ⟨?_, (hr.2 e).2⟩⟩
    have := (hr.2 e).1
    rcases hend with h1 | ⟨h1, _⟩ <;> omega
  · rintro k σ ⟨_, S⟩
    exact ⟨S.abs, S.c3, S.c4⟩
  · rintro k σ σ' ⟨hk, S⟩ s
    exact ⟨by omega, S.setCur s⟩
  · rintro σ ⟨hk, S⟩
    have hno : n ≤ 65536 ∧ ((c n).1 ≠ 2 ∨ m.find (c n) = none) := by
      rcases hend with h1 | h1
      · omega
      · exact h1
    obtain ⟨x, hx⟩ := S.r7
    refine ⟨hno.2, x, hx, fun σ1 σ2 g s => .inl ⟨hno.1, ?_, s.at_⟩⟩
    have S1 := S.grow g
    obtain ⟨v, o1, o2, o3⟩ := S1.out
    refine ⟨fun b y hy => s.old b y (by have := Mem.lt hy; omega) (S1.old b y hy), by rw [s.nx]; exact S1.nx, s.abs.trans S1.abs, s.old _ _ (by omega) S1.r4, s.old _ _ (by omega) S1.r5, ⟨v, s.old _ _ (by omega) o1, o2.keep fun b hb => ?_, o3⟩, ⟨_, s.at_⟩, s.old _ _ (by omega) S1.c3, s.old _ _ (by omega) S1.c4, s.old _ _ (by omega) S1.c5, s.old _ _ (by omega) S1.df, s.old _ _ (by omega) S1.lp⟩
    obtain ⟨r, h1, _⟩ := o2.is hb
    have := o3 b hb
    rw [h1, s.old _ _ (by omega) h1]
  · rintro _ σ8 (⟨hn, S, hr7⟩ | ⟨hn, S⟩)
    · obtain ⟨v, o1, o2, o3⟩ := S.out
      have hnx := S.nx
      refine ⟨_, _, _, _, _, _, _, _, .normal, S.lp, rfl, rfl, ?_⟩
      have sL := set1_put (x := .loop .exhausted none 30 TA (rangePs sliceR) (rangeAs sliceR) (rangeBo sliceR) (σ0.next + 8)) S.lp
      generalize σ8.put (σ0.next + 9) (.loop .exhausted none 30 TA (rangePs sliceR) (rangeAs sliceR) (rangeBo sliceR) (σ0.next + 8)) = σ9 at sL
      have G9 : Grow σ0 σ9 := (⟨S.old, by omega, S.abs.trans ha.symm⟩ : Grow σ0 σ8).set sL (by omega)
      have p4 := sL.old _ _ (by omega) S.r4
      have p5 := sL.old _ _ (by omega) S.r5
      have p6 := sL.old _ _ (by omega) o1
      have p7 := sL.old _ _ (by omega) hr7
      have p8 := sL.old _ _ (by omega) S.df
      have og : ∀ b r, blkOf v = some b → σ8.get b = some (.row r) → σ9.get b = some (.row r) := fun b r hb hr => sL.old _ _ (by have := o3 b hb; omega) hr
      have hn9 := sL.nx
      clear sL
      refine W.know 4 t4 (W.know 5 t5 (W.know 6 t6 (W.know 7 t7 ?_)))
      refine W.seq ?_
      refine W.seq ?_
      refine W.region ?_
      refine RW.loads 2 (by kernel_rfl) (by kernel_rfl) rfl rfl p7 rfl rfl (by kernel_rfl) ?_
      refine RW.call (by kernel_rfl) (by kernel_rfl) rfl rfl rfl (by kernel_rfl) (by kernel_rfl) ((null_wc (c n) (by omega)).mono ?_)
      rintro _ σ10 ⟨rfl, G10⟩
      have hn10 := G10.nx
      by_cases hc : c n = (1, 0)
      · rw [decide_eq_true hc]
        refine RW.val (by kernel_rfl) (by kernel_rfl) rfl (by kernel_rfl) ?_
        refine RW.nil ?_
        refine W.cond (b := false) rfl (fun h => by cases h) (fun _ => ?_)
        refine W.skip ?_
        refine W.seq ?_
        refine W.region ?_
        refine RW.load (by kernel_rfl) (by kernel_rfl) rfl rfl (G10.old _ _ p6) rfl rfl (by kernel_rfl) ?_
        refine RW.set1G (b := σ0.next + 1) (v := v) (by kernel_rfl) (by kernel_rfl) rfl rfl (by omega) (G10.old _ _ p4) rfl (by cases o2 <;> rfl) (by cases o2 <;> rfl) (by kernel_rfl) rfl (by kernel_rfl) ?_; intro σ11 _ s11
        refine RW.set1G (b := σ0.next + 2) (v := .int .i64 0) (by kernel_rfl) (by kernel_rfl) rfl rfl (by omega) (s11.old _ _ (by omega) (G10.old _ _ p5)) rfl rfl rfl (by kernel_rfl) rfl (by kernel_rfl) ?_; intro σ12 _ s12
        refine RW.nil ?_
        refine W.ret ?_
        have p8' := s12.old _ _ (by omega) (s11.old _ _ (by omega) (G10.old _ _ p8))
        have s13 := set1_put (x := .defs false) p8'
        refine endGD rfl p8' (by omega) (resS rfl (s13.old _ _ (by omega) (s12.old _ _ (by omega) s11.at_)) (resE rfl (s13.old _ _ (by omega) s12.at_) rfl)) ?_
        refine ⟨((((G9.trans G10).set s11 (by omega)).set s12 (by omega)).set s13 (by omega)), .inr (.inr ⟨hn, hc, v, rfl, o2.keep fun b hb => ?_, fun b hb => by have := o3 b hb; omega⟩)⟩
        obtain ⟨r, h1, _⟩ := o2.is hb
        have := o3 b hb
        rw [h1, s13.old _ _ (by omega) (s12.old _ _ (by omega) (s11.old _ _ (by omega) (G10.old _ _ (og b r hb h1))))]
      · rw [decide_eq_false hc]
        refine RW.val (by kernel_rfl) (by kernel_rfl) rfl (by kernel_rfl) ?_
        refine RW.nil ?_
        refine W.cond (b := true) rfl (fun _ => ?_) (fun h => by cases h)
        refine W.seq ?_
        refine W.region ?_
        refine RW.set1G (b := σ0.next + 1) (v := .slice none 0 0) (by kernel_rfl) (by kernel_rfl) rfl rfl (by omega) (G10.old _ _ p4) rfl rfl rfl (by kernel_rfl) rfl (by kernel_rfl) ?_; intro σ11 _ s11
        refine RW.set1G (b := σ0.next + 2) (v := .int .i64 6) (by kernel_rfl) (by kernel_rfl) rfl rfl (by omega) (s11.old _ _ (by omega) (G10.old _ _ p5)) rfl rfl rfl (by kernel_rfl) rfl (by kernel_rfl) ?_; intro σ12 _ s12
        refine RW.nil ?_
        refine W.ret ?_
        have p8' := s12.old _ _ (by omega) (s11.old _ _ (by omega) (G10.old _ _ p8))
        have s13 := set1_put (x := .defs false) p8'
        refine endGD rfl p8' (by omega) (resS rfl (s13.old _ _ (by omega) (s12.old _ _ (by omega) s11.at_)) (resE rfl (s13.old _ _ (by omega) s12.at_) rfl)) ?_
        exact ⟨((((G9.trans G10).set s11 (by omega)).set s12 (by omega)).set s13 (by omega)), .inr (.inl ⟨hn, hc, rfl⟩)⟩
    · obtain ⟨nt', ta', ps', as', bo', df', hl⟩ := S.lp
      have hnx := S.nx
      refine ⟨_, _, _, _, _, _, _, _, .ret, hl, rfl, rfl, ?_⟩
      have sL := set1_put (x := .loop .exhausted (some .ret) nt' ta' ps' as' bo' df') hl
      generalize σ8.put (σ0.next + 9) (.loop .exhausted (some .ret) nt' ta' ps' as' bo' df') = σ9 at sL
      have G9 : Grow σ0 σ9 := (⟨S.old, by omega, S.abs.trans ha.symm⟩ : Grow σ0 σ8).set sL (by omega)
      have p8' := sL.old _ _ (by omega) S.df
      have s13 := set1_put (x := .defs false) p8'
      refine endGD rfl p8' (by omega) (resS t4 (s13.old _ _ (by omega) (sL.old _ _ (by omega) S.r4)) (resE t5 (s13.old _ _ (by omega) (sL.old _ _ (by omega) S.r5)) rfl)) ?_
      exact ⟨G9.set s13 (by omega), .inl ⟨hn, rfl⟩⟩
end
end Go.Proofs.YtaaebeiigkhcjaaGreatDoor
namespace Go.Proofs.YtaaebeiigkhcjaaGreatDoor
set_option maxRecDepth 100000
theorem sl_old {σ σ' : Mem} {s : Nat} {v : Value} {xs : List Value} (h : Sl σ s v xs) (k : ∀ b y, σ.get b = some y → σ'.get b = some y) : Sl σ' s v xs := by
  cases h with
  | nil => exact .nil
  | some hr hx hc => exact .some (k _ _ hr) hx hc
theorem sl_at {σ : Mem} {v : Value} {l : List Wd} (h : Sl σ 2 v (wdC l)) {j : Nat} (hj : j < l.length) : ∃ b p sp c r, v = .slice (some ⟨b, p, sp⟩) l.length c ∧ σ.get b = some (.row r) ∧ (r.cs.drop (p + ((j : Nat) : Int).toNat * 2)).take 2 = [.int .i64 (l.getD j (0, 0)).1, .int .i64 (l.getD j (0, 0)).2] := by
  have hlen := wdC_length l
  generalize hxs : wdC l = xs at h
  cases h with
  | nil => rw [hxs] at hlen; simp at hlen; exact absurd hj (by omega)
  | @some b p n c sp r _ hr hx hc =>
    rw [hxs, hx] at hlen
    obtain rfl : n = l.length := by omega
    refine ⟨b, p, sp, c, r, rfl, hr, ?_⟩
    obtain ⟨w0, w1⟩ := wdC_get l j hj
    rw [hxs] at w0 w1
    have c0 := hc _ _ w0
    have c1 := hc _ _ w1
    have hg : l.getD j (0, 0) = l[j] := by simp [List.getD_eq_getElem?_getD, hj]
    rw [hg, Int.toNat_natCast]
    have h1 : p + j * 2 + 1 < r.cs.length := by
      rw [← Nat.add_assoc] at c1
      exact (List.getElem?_eq_some_iff.1 c1).1
    rw [List.drop_eq_getElem_cons (by omega), List.drop_eq_getElem_cons (by omega)]
    rw [List.getElem?_eq_getElem (by omega)] at c0
    rw [show p + (j * 2 + 1) = p + j * 2 + 1 by omega, List.getElem?_eq_getElem h1] at c1
    simp only [List.take_succ_cons, List.take_zero]
    rw [Option.some.inj c0, Option.some.inj c1]
def SlW (σ : Mem) (v : Value) (l : List Wd) : Prop := 0 < l.length → Sl σ 2 v (wdC l)
theorem slw_old {σ σ' : Mem} {v : Value} {l : List Wd} (h : SlW σ v l) (k : ∀ b y, σ.get b = some y → σ'.get b = some y) : SlW σ' v l := fun hl => sl_old (h hl) k
section
variable {G h : Nat} {m : HM} {σ σ0 : Mem}
theorem backward_wc (s : Value) (hs : s.cells.toList = [s]) (_hG : G ≤ σ.next) : WC G Tryz.prog 96 #[s] σ fun v σ' => v = .func (.func 111) #[] #[pp σ.next] ∧ Grow σ σ' ∧ σ'.next = σ.next + 1 ∧ σ'.get σ.next = some (.row ⟨[s], 33, false⟩) := by
  refine WC.enter (fn := Tryz.f96) Tryz.func96 rfl ?_
  refine W.seq ?_
  refine W.region ?_
  refine RW.makeG (x := .row ⟨s.cells.toList, 33, false⟩) (fm := fun b => .pointer (some ⟨b, 0, none⟩)) (by kernel_rfl) (by kernel_rfl) (by kernel_rfl) (by kernel_rfl) ?_; intro σ1 _ g1 G1 n1
  rw [hs] at g1
  refine RW.val (by kernel_rfl) (by kernel_rfl) rfl (by kernel_rfl) ?_
  refine RW.nil ?_
  refine W.seq ?_
  refine W.region ?_
  refine RW.val (by kernel_rfl) (by kernel_rfl) rfl (by kernel_rfl) ?_
  refine RW.val (by kernel_rfl) (by kernel_rfl) rfl (by kernel_rfl) ?_
  refine RW.nil ?_
  refine W.ret ?_
  exact endG rfl (resL_tmp rfl) ⟨by kernel_rfl, G1, n1, g1⟩
theorem backLoop {l : List Wd} {s : Value} {b1 L : Nat} (hL : G ≤ L) (hlen : lenF Tryz.prog 33 s = some (.int .i64 l.length)) (hl : l.length ≤ 1000000) {I : Nat → Mem → Prop} {R : Mem → Prop}
    (hI : ∀ k σ, I k σ → σ.get b1 = some (.row ⟨[s], 33, false⟩) ∧ SlW σ s l)
    (hy : ∀ k j σ, k + 1 + j = l.length → I k σ → Yield G Tryz.prog L [.int .i64 (j : Int), wdV (l.getD j (0, 0))] σ fun r σ' => r = true ∧ I (k + 1) σ')
    (hend : ∀ σ, I l.length σ → R σ) (h0 : I 0 σ0) :
    WC G Tryz.prog 111 #[.func (.yield L) #[] #[], pp b1] σ0 fun _ σ' => R σ' := by
  refine WC.enter (fn := Tryz.f111) Tryz.func111 rfl ?_
  refine W.know 0 (x := .func (.yield L) #[] #[]) rfl (W.know 1 (x := pp b1) rfl ?_)
  refine W.seq ?_
  refine W.region ?_
  refine RW.load (by kernel_rfl) (by kernel_rfl) rfl rfl (hI 0 σ0 h0).1 rfl rfl (by kernel_rfl) ?_
  refine RW.len (by kernel_rfl) (by kernel_rfl) rfl rfl rfl rfl hlen (by kernel_rfl) ?_
  refine RW.valE (by kernel_rfl) (by kernel_rfl) rfl (congrArg (Value.int .i64) (wrap_in (by omega) (by omega))) (by kernel_rfl) ?_
  refine RW.val (by kernel_rfl) (by kernel_rfl) rfl (by kernel_rfl) ?_
  refine RW.nil ?_
  refine W.block ?_
  refine W.loop (fun mm ta σ => ∃ k, mm + k = l.length ∧ I k σ ∧ ta 0 = .func (.yield L) #[] #[] ∧ ta 1 = pp b1 ∧ ta 3 = .int .i64 ((l.length : Int) - 1 - (k : Int))) l.length ?_ ?_
  · exact ⟨0, rfl, h0, rfl, rfl, by show Value.int .i64 _ = _; simp⟩
  rintro mm ta σ ⟨k, hm, hk, e0, e1, e3⟩
  refine W.know 0 e0 (W.know 1 e1 (W.know 3 e3 (?_)))
  obtain ⟨q1, q2⟩ := hI k σ hk
  refine W.seq ?_
  refine W.seq ?_
  refine W.region ?_
  refine RW.val (by kernel_rfl) (by kernel_rfl) rfl (by kernel_rfl) ?_
  refine RW.val (by kernel_rfl) (by kernel_rfl) rfl (by kernel_rfl) ?_
  refine RW.nil ?_
  refine W.cond rfl (fun hh => ?_) (fun hh => ?_)
  · have hkn : k < l.length := by have := of_decide_eq_true hh; omega
    obtain ⟨j, hj⟩ : ∃ j, k + 1 + j = l.length := ⟨l.length - 1 - k, by omega⟩
    have ej : (l.length : Int) - 1 - (k : Int) = ((j : Nat) : Int) := by omega
    obtain ⟨b, p, sp, cc, r, rfl, hr, hc⟩ := sl_at (q2 (by omega)) (j := j) (by omega)
    refine W.skip ?_
    refine W.seq ?_
    refine W.block ?_
    refine W.seq ?_
    refine W.region ?_
    rw [ej]
    refine RW.val (by kernel_rfl) (by kernel_rfl) rfl (by kernel_rfl) ?_
    refine RW.val (by kernel_rfl) (by kernel_rfl) rfl (by kernel_rfl) ?_
    refine RW.load (by kernel_rfl) (by kernel_rfl) rfl rfl q1 rfl rfl (by kernel_rfl) ?_
    refine RW.val (by kernel_rfl) (by kernel_rfl) rfl (by kernel_rfl) ?_
    refine RW.idx (s := 2) (by kernel_rfl) (by kernel_rfl) rfl Tryz.underlying33 (by kernel_rfl) rfl rfl ⟨by omega, by omega⟩ (by kernel_rfl) ?_
    refine RW.loads 2 (by kernel_rfl) (by kernel_rfl) rfl rfl hr hc rfl (by kernel_rfl) ?_
    refine RW.yieldR (by kernel_rfl) (by kernel_rfl) rfl rfl rfl hL rfl (by kernel_rfl) ?_
    refine (hy k j σ hj hk).mono fun r σ4 hr => ?_
    obtain ⟨rfl, h4⟩ := hr
    refine RW.val (by kernel_rfl) (by kernel_rfl) rfl (by kernel_rfl) ?_
    refine RW.nil ?_
    refine W.cond (b := false) rfl (fun h => by cases h) (fun _ => ?_)
    refine W.skip ?_
    refine W.region ?_
    refine RW.val (by kernel_rfl) (by kernel_rfl) rfl (by kernel_rfl) ?_
    refine RW.valE (by kernel_rfl) (by kernel_rfl) rfl (congrArg (Value.int .i64) (wrap_in (by omega) (by omega))) (by kernel_rfl) ?_
    refine RW.val (by kernel_rfl) (by kernel_rfl) rfl (by kernel_rfl) ?_
    refine RW.nil ?_
    exact ⟨rfl, mm - 1, by omega, k + 1, by omega, h4, rfl, rfl, by show Value.int .i64 _ = _; congr 1; omega⟩
  · have hkn : k = l.length := by have := of_decide_eq_false hh; omega
    subst hkn
    refine W.exit _ ?_
    exact endG (R := fun _ σ' => R σ') (vs := []) rfl rfl (hend σ hk)
end
end Go.Proofs.YtaaebeiigkhcjaaGreatDoor
namespace Go.Proofs.YtaaebeiigkhcjaaGreatDoor
set_option maxRecDepth 100000
noncomputable abbrev buildR : Code := rangeIn (restN 2 (bodyOf Tryz.f73))
noncomputable abbrev bldLp (TA : Nat → Value) (D : Nat) : Blk2 := rdy 31 TA (rangePs buildR) (rangeAs buildR) (rangeBo buildR) D
structure BuildAt (h : Nat) (m : HM) (l : List Wd) (t : Wd) (s : Value) (σ0 σ : Mem) (TA : Nat → Value) (k : Nat) : Prop where
  old : ∀ b y, σ0.get b = some y → σ.get b = some y
  nx : σ0.next + 6 ≤ σ.next
  abs : σ.abs = heapAbs h (bld m l t k).1
  r3 : σ.get σ0.next = some (.row ⟨[pp h], 22, false⟩)
  r5 : σ.get (σ0.next + 1) = some (wrow (bld m l t k).2)
  r6 : σ.get (σ0.next + 2) = some (wrow (0, 0))
  b1 : σ.get (σ0.next + 3) = some (.row ⟨[s], 33, false⟩)
  df : σ.get (σ0.next + 4) = some (.defs true)
  lp : σ.get (σ0.next + 5) = some (bldLp TA (σ0.next + 4))
section
variable {G h : Nat} {m : HM} {l : List Wd} {t : Wd} {s : Value} {σ0 σ σ' : Mem} {TA : Nat → Value} {k : Nat}
theorem build_yield (hG : G ≤ σ0.next) (B : BuildAt h m l t s σ0 σ TA k) (hf : m.free = []) (hr : m.many + l.length ≤ m.limit) {j : Nat} (hj : k + 1 + j = l.length) (e3 : TA 3 = pp σ0.next) (e5 : TA 5 = pp (σ0.next + 1)) :
    Yield G Tryz.prog (σ0.next + 5) [.int .i64 (j : Int), wdV (l.getD j (0, 0))] σ fun r σ' => r = true ∧ BuildAt h m l t s σ0 σ' TA (k + 1) := by
  have hnx := B.nx
  refine Yield.of B.lp rfl (by decide) ?_
  refine W.know 3 (x := pp σ0.next) e3 (W.know 5 (x := pp (σ0.next + 1)) e5 ?_)
  refine W.region ?_
  refine RW.varS (d := 9) (r0 := ⟨[.int .i64 0, .int .i64 0], 27, false⟩) (vs := #[.int .i64 (l.getD j (0, 0)).1, .int .i64 (l.getD j (0, 0)).2]) (by kernel_rfl) (by kernel_rfl) (by kernel_rfl) rfl (by kernel_rfl) rfl (by kernel_rfl) rfl rfl rfl rfl (by kernel_rfl) rfl (by omega) ?_
  intro σ1 _ g1 q1 n1 a1
  refine RW.nil ?_
  refine ⟨rfl, q1 _ _ B.lp, fun σ2 s2 => ?_⟩
  have hn2 := s2.nx
  have kp : ∀ b y, b ≠ σ0.next + 5 → σ.get b = some y → σ2.get b = some y := fun b y hb hy => s2.old b y hb (q1 b y hy)
  have ab : σ2.abs = heapAbs h (bld m l t k).1 := s2.abs.trans (a1.trans B.abs)
  have CC := s_cons (G := G) (l.getD j (0, 0)) (bld m l t k).2 ab (by rw [bld_many, bld_limit]; omega) (by rw [bld_free]; exact hf)
  refine W.block ?_
  refine W.region ?_
  refine RW.load (by kernel_rfl) (by kernel_rfl) rfl rfl (kp _ _ (by omega) B.r3) rfl rfl (by kernel_rfl) ?_
  refine RW.loads 2 (by kernel_rfl) (by kernel_rfl) rfl rfl (s2.old _ _ (by omega) g1) rfl rfl (by kernel_rfl) ?_
  refine RW.loads 2 (by kernel_rfl) (by kernel_rfl) rfl rfl (kp _ _ (by omega) B.r5) rfl rfl (by kernel_rfl) ?_
  refine RW.call (by kernel_rfl) (by kernel_rfl) rfl rfl rfl (by kernel_rfl) (by kernel_rfl) ⟨_, _, CC, ?_⟩
  refine RW.val (by kernel_rfl) (by kernel_rfl) rfl (by kernel_rfl) ?_
  refine RW.val (by kernel_rfl) (by kernel_rfl) rfl (by kernel_rfl) ?_
  refine RW.val (by kernel_rfl) (by kernel_rfl) rfl (by kernel_rfl) ?_
  have r5' : (σ2.with (heapAbs h ((bld m l t k).1.push (.pair (l.getD j (0, 0)) (bld m l t k).2)))).get (σ0.next + 1) = some (wrow (bld m l t k).2) := kp _ _ (by omega) B.r5
  refine RW.setG (b := σ0.next + 1) (vs := #[.int .i64 2, .int .i64 ((bld m l t k).1.objs.length : Int)]) (by kernel_rfl) (by kernel_rfl) rfl rfl (by omega) r5' rfl rfl (by kernel_rfl) rfl (by kernel_rfl) ?_; intro σ3 _ s3
  refine RW.nil ?_
  have hn3 := s3.nx
  have hw : (σ2.with (heapAbs h ((bld m l t k).1.push (.pair (l.getD j (0, 0)) (bld m l t k).2)))).next = σ2.next := rfl
  refine ⟨s3.old _ _ (by omega) s2.at_, _, _, _, rfl, fun σ4 s4 => ⟨rfl, ?_⟩⟩
  have hn4 := s4.nx
  have kq : ∀ b y, b ≠ σ0.next + 5 → b ≠ σ0.next + 1 → σ.get b = some y → σ4.get b = some y := fun b y h5 h1 hy => s4.old b y h5 (s3.old b y h1 (kp b y h5 hy))
  have hb1 : bld m l t (k + 1) = ((bld m l t k).1.push (.pair (l.getD j (0, 0)) (bld m l t k).2), (2, ((bld m l t k).1.objs.length : Int))) := by
    simp only [bld]
    rw [show l.length - 1 - k = j by omega]
  refine ⟨fun b y hy => kq b y (by have := Mem.lt hy; omega) (by have := Mem.lt hy; omega) (B.old b y hy), by omega, ?_, kq _ _ (by omega) (by omega) B.r3, ?_, kq _ _ (by omega) (by omega) B.r6, kq _ _ (by omega) (by omega) B.b1, kq _ _ (by omega) (by omega) B.df, s4.at_⟩
  · rw [hb1]
    exact s4.abs.trans s3.abs
  · rw [hb1]
    exact s4.old _ _ (by omega) s3.at_
structure GrowA (σ σ' : Mem) : Prop where
  old : ∀ b y, σ.get b = some y → σ'.get b = some y
  nx : σ.next ≤ σ'.next
theorem Grow.a (h : Grow σ σ') : GrowA σ σ' := ⟨h.old, h.nx⟩
theorem GrowA.trans {σ2 : Mem} (h : GrowA σ σ') (k : GrowA σ' σ2) : GrowA σ σ2 := ⟨fun b y hy => k.old b y (h.old b y hy), Nat.le_trans h.nx k.nx⟩
theorem GrowA.set {σ2 : Mem} {b : Nat} {x : Blk2} (h : GrowA σ0 σ) (k : Set1 σ σ2 b x) (hb : σ0.next ≤ b) : GrowA σ0 σ2 := ⟨fun c y hy => k.old c y (by have := Mem.lt hy; omega) (h.old c y hy), by rw [k.nx]; exact h.nx⟩
def BuildR (h : Nat) (m : HM) (l : List Wd) (t : Wd) (σ0 : Mem) (v : Value) (σ' : Mem) : Prop :=
  v = .tuple #[wdV (built m l t).2, .int .i64 0] ∧ GrowA σ0 σ' ∧ σ'.abs = heapAbs h (built m l t).1
theorem build_wc (hG : G ≤ σ0.next) (ha : σ0.abs = heapAbs h m) (hf : m.free = []) (hr : m.many + l.length ≤ m.limit) (hlim : m.limit ≤ 65536) (hs : SlW σ0 s l) (hsc : s.cells.toList = [s]) (hlen : lenF Tryz.prog 33 s = some (.int .i64 l.length)) :
    WC G Tryz.prog 73 #[pp h, s, wdV t] σ0 (BuildR h m l t σ0) := by
  refine WC.enterD (fn := Tryz.f73) Tryz.func73 rfl ?_
  refine W.know 0 (x := pp h) rfl (W.know 1 (x := s) rfl ?_)
  refine W.seq ?_
  refine W.region ?_
  refine RW.makeG (x := .row ⟨[pp h], 22, false⟩) (fm := fun b => .pointer (some ⟨b, 0, none⟩)) (by kernel_rfl) (by kernel_rfl) (by kernel_rfl) (by kernel_rfl) ?_; intro σ1 _ g1 G1 n1
  refine RW.makeG (x := .row ⟨[.int .i64 t.1, .int .i64 t.2], 27, false⟩) (fm := fun b => .pointer (some ⟨b, 0, none⟩)) (by kernel_rfl) (by kernel_rfl) (by kernel_rfl) (by kernel_rfl) ?_; intro σ2 _ g2 G2 n2
  refine RW.makeG (x := .row ⟨[.int .i64 0, .int .i64 0], 27, false⟩) (fm := fun b => .pointer (some ⟨b, 0, none⟩)) (by kernel_rfl) (by kernel_rfl) (by kernel_rfl) (by kernel_rfl) ?_; intro σ3 _ g3 G3 n3
  rw [n1] at g2 n2 ⊢
  rw [n2] at g3 n3 ⊢
  refine RW.val (by kernel_rfl) (by kernel_rfl) rfl (by kernel_rfl) ?_
  refine RW.nil ?_
  have G03 := (G1.trans G2).trans G3
  have q1 := G3.old _ _ (G2.old _ _ g1)
  have CLi := s_limit (G := G) (G03.abs.trans ha)
  have CMa := s_many (G := G) (G03.abs.trans ha)
  refine W.seq ?_
  refine W.seq ?_
  refine W.drawnS (by kernel_rfl) (by kernel_rfl) (by omega) ?_
  refine RW.val (by kernel_rfl) (by kernel_rfl) rfl (by kernel_rfl) ?_
  refine RW.len (by kernel_rfl) (by kernel_rfl) rfl rfl rfl rfl hlen (by kernel_rfl) ?_
  refine RW.load (by kernel_rfl) (by kernel_rfl) rfl rfl q1 rfl rfl (by kernel_rfl) ?_
  refine RW.call (by kernel_rfl) (by kernel_rfl) rfl rfl rfl (by kernel_rfl) (by kernel_rfl) ⟨_, _, CLi, ?_⟩
  refine RW.load (by kernel_rfl) (by kernel_rfl) rfl rfl q1 rfl rfl (by kernel_rfl) ?_
  refine RW.call (by kernel_rfl) (by kernel_rfl) rfl rfl rfl (by kernel_rfl) (by kernel_rfl) ⟨_, _, CMa, ?_⟩
  refine RW.valE (by kernel_rfl) (by kernel_rfl) rfl (congrArg (Value.int .i64) (wrap_in (by omega) (by omega))) (by kernel_rfl) ?_
  refine RW.valE (v' := .bool false) (by kernel_rfl) (by kernel_rfl) rfl (congrArg Value.bool (decide_eq_false (by omega))) (by kernel_rfl) ?_
  refine RW.nil ?_
  refine ⟨⟨by kernel_rfl, ?_, fun b => rfl⟩, ?_⟩
  · repeat' (first | exact True.intro | exact fun _ => rfl | exact ⟨_, q1⟩ | refine And.intro ?_ ?_)
  refine W.cond (b := false) rfl (fun h => by cases h) (fun _ => ?_)
  refine W.skip ?_
  refine W.seq ?_
  refine W.seq ?_
  refine W.region ?_
  refine RW.val (by kernel_rfl) (by kernel_rfl) rfl (by kernel_rfl) ?_
  refine RW.call (by kernel_rfl) (by kernel_rfl) rfl rfl rfl (by kernel_rfl) (by kernel_rfl) ((backward_wc s hsc (by omega)).mono ?_)
  rintro _ σ4 ⟨rfl, G4, n4, g4⟩
  refine RW.nil ?_
  refine W.block ?_
  have G04 := G03.trans G4
  have hn4 : σ4.next = σ0.next + 4 := by omega
  refine W.tas 3 5 6 20 20 (x1 := pp σ0.next) (x2 := pp (σ0.next + 1)) (x3 := pp (σ0.next + 2)) (x4 := .func (.func 111) #[] #[pp (σ0.next + 3)]) rfl rfl rfl (by rw [show σ0.next + 3 = σ3.next by omega]; rfl) rfl fun TA t3 t5 t6 t20 _ => ?_
  refine W.range (fa := #[]) (ca := #[pp (σ0.next + 3)]) t20 (fun i h => by cases h) (fun v h => by cases h) (by kernel_rfl) ?_
  rw [hn4]
  rw [show σ3.next = σ0.next + 3 by omega] at g4
  obtain ⟨σ7, h7⟩ : ∃ s, s = (σ4.push (.defs true)).push (bldLp TA (σ0.next + 4)) := ⟨_, rfl⟩
  have G7 : Grow σ4 σ7 := by
    rw [h7]
    exact ⟨fun b y hy => get_push_old (get_push_old hy), by show σ4.next ≤ σ4.next + 1 + 1; omega, rfl⟩
  have hn7 : σ7.next = σ0.next + 6 := by rw [h7]; show σ4.next + 1 + 1 = _; omega
  have d7 : σ7.get (σ0.next + 4) = some (.defs true) := by rw [h7, ← hn4]; exact get_push_old get_push
  have l7 : σ7.get (σ0.next + 5) = some (bldLp TA (σ0.next + 4)) := by
    rw [h7, show σ0.next + 5 = (σ4.push (.defs true)).next by show _ = σ4.next + 1; omega]
    exact get_push
  have G07 := G04.trans G7
  have B0 : BuildAt h m l t s σ0 σ7 TA 0 := ⟨G07.old, by omega, G07.abs.trans ha, G7.old _ _ (G4.old _ _ q1), G7.old _ _ (G4.old _ _ (G3.old _ _ g2)), G7.old _ _ (G4.old _ _ g3), G7.old _ _ g4, d7, l7⟩
  show WC G Tryz.prog 111 #[.func (.yield (σ0.next + 5)) #[] #[], pp (σ0.next + 3)] ((σ4.push (.defs true)).push (bldLp TA (σ0.next + 4))) _
  rw [← h7]
  clear h7 G1 G2 G3 G4 G03 G04 g1 g2 g3 g4 q1 d7 l7
  refine (backLoop (l := l) (s := s) (b1 := σ0.next + 3) (L := σ0.next + 5) (by omega) hlen (by omega) (I := fun k σ => BuildAt h m l t s σ0 σ TA k) (R := fun σ => BuildAt h m l t s σ0 σ TA l.length) ?_ ?_ (fun σ B => B) B0).mono ?_
  · intro k σ B
    exact ⟨B.b1, slw_old hs B.old⟩
  · intro k j σ hj B
    exact build_yield hG B hf hr hj t3 t5
  · rintro _ σ8 B
    have hnx := B.nx
    refine ⟨_, _, _, _, _, _, _, _, .normal, B.lp, rfl, rfl, ?_⟩
    have sL := set1_put (x := .loop .exhausted none 31 TA (rangePs buildR) (rangeAs buildR) (rangeBo buildR) (σ0.next + 4)) B.lp
    generalize σ8.put (σ0.next + 5) (.loop .exhausted none 31 TA (rangePs buildR) (rangeAs buildR) (rangeBo buildR) (σ0.next + 4)) = σ9 at sL
    have G9 : GrowA σ0 σ9 := (⟨B.old, by omega⟩ : GrowA σ0 σ8).set sL (by omega)
    refine W.know 5 t5 (W.know 6 t6 ?_)
    refine W.seq ?_
    refine W.region ?_
    refine RW.loads 2 (by kernel_rfl) (by kernel_rfl) rfl rfl (sL.old _ _ (by omega) B.r5) rfl rfl (by kernel_rfl) ?_
    refine RW.setG (b := σ0.next + 2) (vs := #[.int .i64 (bld m l t l.length).2.1, .int .i64 (bld m l t l.length).2.2]) (by kernel_rfl) (by kernel_rfl) rfl rfl (by omega) (sL.old _ _ (by omega) B.r6) rfl rfl (by kernel_rfl) rfl (by kernel_rfl) ?_; intro σ10 _ s10
    refine RW.val (by kernel_rfl) (by kernel_rfl) rfl (by kernel_rfl) ?_
    refine RW.nil ?_
    refine W.ret ?_
    have p8' := s10.old _ _ (by omega) (sL.old _ _ (by omega) B.df)
    have s13 := set1_put (x := .defs false) p8'
    refine endGD rfl p8' (by omega) (resW rfl (s13.old _ _ (by omega) s10.at_) (resL_tmp rfl)) ?_
    exact ⟨rfl, (G9.set s10 (by omega)).set s13 (by omega), s13.abs.trans (s10.abs.trans (sL.abs.trans B.abs))⟩
theorem make_wc (hG : G ≤ σ0.next) (ha : σ0.abs = heapAbs h m) (hf : m.free = []) (hr : m.many + l.length ≤ m.limit) (hlo : 0 < m.limit) (hlim : m.limit ≤ 65536) (hs : SlW σ0 s l) (hsc : s.cells.toList = [s]) (hlen : lenF Tryz.prog 33 s = some (.int .i64 l.length)) :
    WC G Tryz.prog 39 #[pp h, s] σ0 (BuildR h m l (1, 0) σ0) := by
  refine WC.enter (fn := Tryz.f39) Tryz.func39 rfl ?_
  refine W.know 0 (x := pp h) rfl (W.know 1 (x := s) rfl ?_)
  refine W.seq ?_
  refine W.region ?_
  refine RW.makeG (x := .row ⟨[.int .i64 0, .int .i64 0], 27, false⟩) (fm := fun b => .pointer (some ⟨b, 0, none⟩)) (by kernel_rfl) (by kernel_rfl) (by kernel_rfl) (by kernel_rfl) ?_; intro σ1 _ g1 G1 n1
  refine RW.val (by kernel_rfl) (by kernel_rfl) rfl (by kernel_rfl) ?_
  refine RW.nil ?_
  refine W.seq ?_
  refine W.block ?_
  refine W.seq ?_
  refine W.region ?_
  refine RW.val (by kernel_rfl) (by kernel_rfl) rfl (by kernel_rfl) ?_
  refine RW.call (by kernel_rfl) (by kernel_rfl) rfl rfl rfl (by kernel_rfl) (by kernel_rfl) ((made_wc (G1.abs.trans ha) hlo).mono ?_)
  rintro _ _ ⟨rfl, rfl⟩
  refine RW.val (by kernel_rfl) (by kernel_rfl) rfl (by kernel_rfl) ?_
  refine RW.val (by kernel_rfl) (by kernel_rfl) rfl (by kernel_rfl) ?_
  refine RW.nil ?_
  refine W.cond (b := false) rfl (fun h => by cases h) (fun _ => ?_)
  refine W.seq ?_
  refine W.region ?_
  refine RW.val (by kernel_rfl) (by kernel_rfl) rfl (by kernel_rfl) ?_
  refine RW.len (by kernel_rfl) (by kernel_rfl) rfl rfl rfl rfl hlen (by kernel_rfl) ?_
  refine RW.valE (v' := .bool false) (by kernel_rfl) (by kernel_rfl) rfl (congrArg Value.bool (decide_eq_false (by omega))) (by kernel_rfl) ?_
  refine RW.val (by kernel_rfl) (by kernel_rfl) rfl (by kernel_rfl) ?_
  refine RW.nil ?_
  refine W.cond (b := false) rfl (fun h => by cases h) (fun _ => ?_)
  refine W.skip ?_
  refine W.seq ?_
  refine W.region ?_
  refine RW.val (by kernel_rfl) (by kernel_rfl) rfl (by kernel_rfl) ?_
  refine RW.val (by kernel_rfl) (by kernel_rfl) rfl (by kernel_rfl) ?_
  refine RW.call (by kernel_rfl) (by kernel_rfl) rfl rfl rfl (by kernel_rfl) (by kernel_rfl) ⟨_, _, s_none, ?_⟩
  refine RW.call (by kernel_rfl) (by kernel_rfl) rfl rfl rfl (by kernel_rfl) (by kernel_rfl) ((build_wc (t := (1, 0)) (by omega) (G1.abs.trans ha) hf hr hlim (slw_old hs G1.old) hsc hlen).mono ?_)
  rintro _ σ2 ⟨rfl, G2, a2⟩
  refine RW.val (by kernel_rfl) (by kernel_rfl) rfl (by kernel_rfl) ?_
  refine RW.val (by kernel_rfl) (by kernel_rfl) rfl (by kernel_rfl) ?_
  refine RW.setG (b := σ0.next) (vs := #[.int .i64 (built m l (1, 0)).2.1, .int .i64 (built m l (1, 0)).2.2]) (by kernel_rfl) (by kernel_rfl) rfl rfl hG (G2.old _ _ g1) rfl rfl (by kernel_rfl) rfl (by kernel_rfl) ?_; intro σ3 _ s3
  refine RW.val (by kernel_rfl) (by kernel_rfl) rfl (by kernel_rfl) ?_
  refine RW.nil ?_
  refine W.ret ?_
  exact endG rfl (resW rfl s3.at_ (resL_tmp rfl)) ⟨rfl, (G1.a.trans G2).set s3 (Nat.le_refl _), s3.abs.trans a2⟩
end
end Go.Proofs.YtaaebeiigkhcjaaGreatDoor
namespace Go.Proofs.YtaaebeiigkhcjaaGreatDoor
open Go.RowKit
set_option maxRecDepth 100000
theorem int_any (a : Int) (w : World) : Calls Tryz.prog 37 #[.int .i64 a] w fun e w' => e = .returned (.agg #[.int .i64 0, .int .i64 a]) ∧ Below w.heap.size w w' := by
  go_enter Tryz.func37, Tryz.ntmps37
  go_wp2
  exact bodyPost_ret (v := .agg #[.int .i64 0, .int .i64 a]) (by simp [results, Tryz.results37, go_sem]) rfl ⟨rfl, (Below.refl _ _).alloc (Nat.le_refl _) _⟩
section
variable {G h : Nat} {m : HM} {σ0 σ : Mem}
theorem s_int (a : Int) : SCall G Tryz.prog 37 #[.int .i64 a] σ (wdV (0, a)) σ := below_call rfl rfl fun w => int_any a w
theorem s_pick (x n : Int) (h1 : -9223372036854775808 ≤ x) (h2 : x ≤ 9223372036854775807) (h3 : 0 < n) (h4 : n ≤ 9223372036854775807) : SCall G Tryz.prog 35 #[.int .i64 x, .int .i64 n] σ (.int .i64 (pickOf x n)) σ :=
  below_call rfl rfl fun w => (pick_any x n w h1 h2 (by omega) h4).mono fun e w' ⟨k1, k2⟩ => ⟨k1, k2 ▸ Below.refl _ _⟩
end
end Go.Proofs.YtaaebeiigkhcjaaGreatDoor
namespace Go.Proofs.YtaaebeiigkhcjaaGreatDoor
set_option maxRecDepth 100000
theorem getD_at {l : List Wd} {i : Nat} (h : i < l.length) : l[i]? = some (l.getD i (0, 0)) := by simp [List.getD_eq_getElem?_getD, h]
section
variable {G h : Nat} {m : HM} {σ σ0 : Mem}
end
end Go.Proofs.YtaaebeiigkhcjaaGreatDoor
namespace Go.Proofs.YtaaebeiigkhcjaaGreatDoor
set_option maxRecDepth 100000
section
variable {G h : Nat} {m : HM} {σ σ0 : Mem}
theorem sliceR_ok {n : Nat} {c a : Nat → Wd} {v : Value} (hn : n ≤ 65536) (hc : c n = (1, 0)) (H : SliceR G n c a σ0 v σ) : Grow σ0 σ ∧ ∃ sl, v = .tuple #[sl, .int .i64 0] ∧ GRow G σ 27 2 sl n (wdC (firstN a n)) ∧ ∀ b, blkOf sl = some b → σ0.next ≤ b := by
  obtain ⟨g, h1 | h1 | h1⟩ := H
  · omega
  · exact absurd hc h1.2.1
  · exact ⟨g, h1.2.2⟩
end
end Go.Proofs.YtaaebeiigkhcjaaGreatDoor
namespace Go.Proofs.YtaaebeiigkhcjaaGreatDoor
set_option maxRecDepth 100000
structure Vw (σ : Mem) (v : Value) (l : List Wd) : Prop where
  len : lenF Tryz.prog 33 v = some (.int .i64 l.length)
  at_ : SlW σ v l
theorem Vw.old {σ σ' : Mem} {v : Value} {l : List Wd} (h : Vw σ v l) (k : ∀ b y, σ.get b = some y → σ'.get b = some y) : Vw σ' v l := ⟨h.len, slw_old h.at_ k⟩
structure AW (G : Nat) (σ : Mem) (v : Value) (l : List Wd) : Prop where
  vw : Vw σ v l
  one : v.cells.toList = [v]
  src : srcF σ 2 v = some (l.length, wdC l)
inductive OwnW (G : Nat) (σ : Mem) : Value → List Wd → Prop
  | emp {b : Nat} {g : Bool} (hb : G ≤ b) (hr : σ.get b = some (.row ⟨[], 27, g⟩)) : OwnW G σ (.slice (some ⟨b, 0, none⟩) 0 0) []
  | row {v : Value} {l : List Wd} (h0 : 0 < l.length) (h : GRow G σ 27 2 v l.length (wdC l)) : OwnW G σ v l
section
variable {G h : Nat} {m : HM} {σ σ0 : Mem}
theorem OwnW.vw {v : Value} {l : List Wd} (h : OwnW G σ v l) : Vw σ v l := by
  cases h with
  | emp hb hr => exact ⟨by kernel_rfl, fun h => absurd h (by simp)⟩
  | row h0 h => exact ⟨h.len (by kernel_rfl), fun _ => h.sl⟩
set_option maxHeartbeats 1000000 in
theorem same_wc {v1 v2 : Value} {l1 l2 : List Wd} (hG : G ≤ σ0.next) (a1 : Vw σ0 v1 l1) (a2 : Vw σ0 v2 l2) (hb : l1.length ≤ 1000000) :
    WC G Tryz.prog 18 #[v1, v2] σ0 fun r σ' => r = .bool (decide (l1 = l2)) ∧ σ' = σ0 := by
  refine WC.enter (fn := Tryz.f18) Tryz.func18 rfl ?_
  refine W.know 0 (x := v1) rfl (W.know 1 (x := v2) rfl ?_)
  refine W.seq ?_
  refine W.region ?_
  refine RW.val (by kernel_rfl) (by kernel_rfl) rfl (by kernel_rfl) ?_
  refine RW.nil ?_
  refine W.seq ?_
  refine W.seq ?_
  refine W.region ?_
  refine RW.val (by kernel_rfl) (by kernel_rfl) rfl (by kernel_rfl) ?_
  refine RW.len (by kernel_rfl) (by kernel_rfl) rfl rfl rfl rfl a1.len (by kernel_rfl) ?_
  refine RW.val (by kernel_rfl) (by kernel_rfl) rfl (by kernel_rfl) ?_
  refine RW.len (by kernel_rfl) (by kernel_rfl) rfl rfl rfl rfl a2.len (by kernel_rfl) ?_
  refine RW.val (by kernel_rfl) (by kernel_rfl) rfl (by kernel_rfl) ?_
  refine RW.nil ?_
  refine W.cond rfl (fun hh => ?_) (fun hh => ?_)
  · have hne : l1.length ≠ l2.length := by have := bne_iff_ne.1 (show ((l1.length : Int) != (l2.length : Int)) = true from hh); omega
    refine W.seq ?_
    refine W.region ?_
    refine RW.val (by kernel_rfl) (by kernel_rfl) rfl (by kernel_rfl) ?_
    refine RW.nil ?_
    refine W.ret ?_
    have E : Value.bool false = .bool (decide (l1 = l2)) := by rw [decide_eq_false (fun e => hne (by rw [e]))]
    exact endG (R := fun r σ' => r = .bool (decide (l1 = l2)) ∧ σ' = σ0) rfl (resL_tmp rfl) ⟨E, rfl⟩
  have heq : l1.length = l2.length := by have := bne_eq_false_iff_eq.1 (show ((l1.length : Int) != (l2.length : Int)) = false from hh); omega
  clear hh
  refine W.skip ?_
  refine W.seq ?_
  refine W.seq ?_
  refine W.region ?_
  refine RW.val (by kernel_rfl) (by kernel_rfl) rfl (by kernel_rfl) ?_
  refine RW.nil ?_
  refine W.block ?_
  refine W.loop (fun mm ta σ => ∃ k : Nat, mm + k = l1.length ∧ σ = σ0 ∧ (∀ i, i < k → l1[i]? = l2[i]?) ∧ ta 0 = v1 ∧ ta 1 = v2 ∧ ta 5 = .int .i64 (k : Int)) l1.length ?_ ?_
  · exact ⟨0, rfl, rfl, fun i h => absurd h (by omega), rfl, rfl, rfl⟩
  rintro mm ta σ ⟨k, hm, hσ, hk, e0, e1, e5⟩
  obtain rfl := hσ.symm
  refine W.know 0 e0 (W.know 1 e1 (W.know 5 e5 (?_)))
  refine W.seq ?_
  refine W.seq ?_
  refine W.region ?_
  refine RW.val (by kernel_rfl) (by kernel_rfl) rfl (by kernel_rfl) ?_
  refine RW.val (by kernel_rfl) (by kernel_rfl) rfl (by kernel_rfl) ?_
  refine RW.len (by kernel_rfl) (by kernel_rfl) rfl rfl rfl rfl a1.len (by kernel_rfl) ?_
  refine RW.val (by kernel_rfl) (by kernel_rfl) rfl (by kernel_rfl) ?_
  refine RW.nil ?_
  refine W.cond rfl (fun hh => ?_) (fun hh => ?_)
  · have hkn : k < l1.length := by have := of_decide_eq_true hh; omega
    obtain ⟨b, p, sp, c, r, rfl, hr, hc⟩ := sl_at (a1.at_ (by omega)) (j := k) hkn
    obtain ⟨b', p', sp', c', r', rfl, hr', hc'⟩ := sl_at (a2.at_ (by omega)) (j := k) (by omega)
    refine W.skip ?_
    refine W.seq ?_
    refine W.block ?_
    refine W.seq ?_
    refine W.drawnS (by kernel_rfl) (by kernel_rfl) hG ?_
    refine RW.val (by kernel_rfl) (by kernel_rfl) rfl (by kernel_rfl) ?_
    refine RW.val (by kernel_rfl) (by kernel_rfl) rfl (by kernel_rfl) ?_
    refine RW.idx (s := 2) (by kernel_rfl) (by kernel_rfl) rfl Tryz.underlying33 (by kernel_rfl) rfl rfl ⟨by omega, by omega⟩ (by kernel_rfl) ?_
    refine RW.loads 2 (by kernel_rfl) (by kernel_rfl) rfl rfl hr hc rfl (by kernel_rfl) ?_
    refine RW.val (by kernel_rfl) (by kernel_rfl) rfl (by kernel_rfl) ?_
    refine RW.val (by kernel_rfl) (by kernel_rfl) rfl (by kernel_rfl) ?_
    refine RW.idx (s := 2) (by kernel_rfl) (by kernel_rfl) rfl Tryz.underlying33 (by kernel_rfl) rfl rfl ⟨by omega, by omega⟩ (by kernel_rfl) ?_
    refine RW.loads 2 (by kernel_rfl) (by kernel_rfl) rfl rfl hr' hc' rfl (by kernel_rfl) ?_
    refine RW.vop (v := .bool (!decide (l1.getD k (0, 0) = l2.getD k (0, 0)))) (by kernel_rfl) (by kernel_rfl) (vop_eqS (b := decide (l1.getD k (0, 0) = l2.getD k (0, 0))) (r := !decide (l1.getD k (0, 0) = l2.getD k (0, 0))) rfl (.inr ⟨rfl, rfl⟩) rfl rfl rfl rfl (by kernel_rfl) (fun w => (eqWd _ _ _ _ w).trans (by simp [Prod.ext_iff, Bool.beq_eq_decide_eq]))) (by kernel_rfl) ?_
    refine RW.nil ?_
    refine ⟨⟨by kernel_rfl, ?_, fun b => rfl⟩, ?_⟩
    · repeat' (first | exact True.intro | exact fun _ => rfl | exact ⟨_, hr⟩ | exact ⟨_, hr'⟩ | refine And.intro ?_ ?_)
    by_cases hq : l1.getD k (0, 0) = l2.getD k (0, 0)
    · refine W.cond (b := false) (by rw [decide_eq_true hq]; rfl) (fun h => by cases h) (fun _ => ?_)
      refine W.skip ?_
      refine W.region ?_
      refine RW.val (by kernel_rfl) (by kernel_rfl) rfl (by kernel_rfl) ?_
      refine RW.valE (by kernel_rfl) (by kernel_rfl) rfl (congrArg (Value.int .i64) (wrap_in (by omega) (by omega))) (by kernel_rfl) ?_
      refine RW.val (by kernel_rfl) (by kernel_rfl) rfl (by kernel_rfl) ?_
      refine RW.nil ?_
      refine ⟨rfl, mm - 1, by omega, k + 1, by omega, rfl, fun i hi => ?_, rfl, rfl, rfl⟩
      rcases Nat.lt_or_ge i k with h1 | h1
      · exact hk i h1
      · obtain rfl : i = k := by omega
        rw [getD_at hkn, getD_at (by omega), hq]
    · refine W.cond (b := true) (by rw [decide_eq_false hq]; rfl) (fun _ => ?_) (fun h => by cases h)
      refine W.seq ?_
      refine W.region ?_
      refine RW.val (by kernel_rfl) (by kernel_rfl) rfl (by kernel_rfl) ?_
      refine RW.nil ?_
      refine W.ret ?_
      have E : Value.bool false = .bool (decide (l1 = l2)) := by rw [decide_eq_false (fun e => hq (by rw [e]))]
      exact endG (R := fun r σ' => r = .bool (decide (l1 = l2)) ∧ σ' = σ0) rfl (resL_tmp rfl) ⟨E, rfl⟩
  · have hkn : k = l1.length := by have := of_decide_eq_false hh; omega
    refine W.exit _ ?_
    refine W.seq ?_
    refine W.region ?_
    refine RW.val (by kernel_rfl) (by kernel_rfl) rfl (by kernel_rfl) ?_
    refine RW.nil ?_
    refine W.ret ?_
    have E : Value.bool true = .bool (decide (l1 = l2)) := by
      rw [decide_eq_true]
      apply List.ext_getElem?
      intro i
      rcases Nat.lt_or_ge i k with h1 | h1
      · exact hk i h1
      · rw [List.getElem?_eq_none (by omega), List.getElem?_eq_none (by omega)]
    exact endG (R := fun r σ' => r = .bool (decide (l1 = l2)) ∧ σ' = σ0) rfl (resL_tmp rfl) ⟨E, rfl⟩
end
end Go.Proofs.YtaaebeiigkhcjaaGreatDoor
namespace Go.Proofs.YtaaebeiigkhcjaaGreatDoor
set_option maxRecDepth 100000
def Chain (m : HM) (c : Nat → Wd) (l : List Wd) : Prop := c l.length = (1, 0) ∧ Path m c (fun j => l.getD j (0, 0)) l.length
def FindsAll (m m' : HM) : Prop := ∀ x o, m.find x = some o → m'.find x = some o
theorem FindsAll.trans {m m1 m2 : HM} (h : FindsAll m m1) (k : FindsAll m1 m2) : FindsAll m m2 := fun x o e => k x o (h x o e)
theorem finds_built (m : HM) (l : List Wd) (t : Wd) : FindsAll m (built m l t).1 := fun x o h => by
  obtain ⟨h0, h1, h2⟩ := HM.find_mem h
  have hx : x = (o.kind, ((x.2.toNat : Nat) : Int)) := Prod.ext h2.symm (by show x.2 = _; omega)
  unfold built
  rw [(bld_is m l t l.length).1]
  have hlt : x.2.toNat < m.objs.length := (List.getElem?_eq_some_iff.1 h1).1
  have h3 : (m.objs ++ (List.range l.length).map fun i => some (HObj.pair (l.getD (l.length - 1 - i) (0, 0)) (if i = 0 then t else (2, ((m.objs.length + i - 1 : Nat) : Int)))))[x.2.toNat]? = some (some o) := by
    rw [List.getElem?_append_left hlt]; exact h1
  unfold HM.find
  have h4 : ¬ x.2 < 0 := by omega
  rw [if_neg h4]
  simp only [h3]
  rw [if_pos h2]
theorem Path.mono {m m' : HM} {c a : Nat → Wd} {n : Nat} (h : Path m c a n) (k : FindsAll m m') : Path m' c a n := fun j hj => k _ _ (h j hj)
theorem Chain.mono {m m' : HM} {c : Nat → Wd} {l : List Wd} (h : Chain m c l) (k : FindsAll m m') : Chain m' c l := ⟨h.1, h.2.mono k⟩
theorem chain_built (m : HM) (l : List Wd) : Chain (built m l (1, 0)).1 (consOf m l (1, 0)) l := ⟨built_end m l (1, 0), built_path m l (1, 0)⟩
theorem Chain.drop {m : HM} {c : Nat → Wd} {l : List Wd} (h : Chain m c l) {k : Nat} (hk : k ≤ l.length) : Chain m (fun j => c (k + j)) (l.drop k) := by
  refine ⟨?_, fun j hj => ?_⟩
  · show c (k + _) = _
    rw [List.length_drop, show k + (l.length - k) = l.length by omega]; exact h.1
  · rw [List.length_drop] at hj
    have := h.2 (k + j) (by omega)
    show m.find (c (k + j)) = some (.pair ((l.drop k).getD j (0, 0)) (c (k + j + 1)))
    rw [show (l.drop k).getD j (0, 0) = l.getD (k + j) (0, 0) by simp [List.getD_eq_getElem?_getD]]
    exact this
theorem wdC_app (a b : List Wd) : wdC (a ++ b) = wdC a ++ wdC b := by simp [wdC]
theorem firstN_getD (l : List Wd) : firstN (fun j => l.getD j (0, 0)) l.length = l := by
  apply List.ext_getElem?
  intro i
  rcases Nat.lt_or_ge i l.length with h | h
  · rw [getD_at h]
    simp [firstN, h]
  · rw [List.getElem?_eq_none (by rw [firstN_length]; exact h), List.getElem?_eq_none h]
theorem built_many (m : HM) (l : List Wd) (t : Wd) : (built m l t).1.many = m.many + l.length := bld_many l t l.length
theorem built_limit (m : HM) (l : List Wd) (t : Wd) : (built m l t).1.limit = m.limit := bld_limit l t l.length
theorem built_free (m : HM) (l : List Wd) (t : Wd) : (built m l t).1.free = m.free := bld_free l t l.length
abbrev hm0 (L : Nat) : HM := ⟨L, [], []⟩
theorem hm0_many (L : Nat) : (hm0 L).many = 0 := rfl
theorem grow_vw {G : Nat} {σ : Mem} {v : Value} {l : List Wd} (h : GRow G σ 27 2 v l.length (wdC l)) : Vw σ v l := ⟨h.len (by kernel_rfl), fun _ => h.sl⟩
section
variable {G h : Nat} {m : HM} {σ σ0 : Mem}
theorem same_c {v1 v2 : Value} {l1 l2 : List Wd} (he : l1 = l2) (hG : G ≤ σ0.next) (a1 : Vw σ0 v1 l1) (a2 : Vw σ0 v2 l2) (hb : l1.length ≤ 1000000) :
    WC G Tryz.prog 18 #[v1, v2] σ0 fun r σ' => r = .bool true ∧ σ' = σ0 := by
  refine (same_wc hG a1 a2 hb).mono fun v σ' H => ⟨?_, H.2⟩
  rw [H.1, decide_eq_true he]
end
end Go.Proofs.YtaaebeiigkhcjaaGreatDoor
