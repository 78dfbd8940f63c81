/-
  The chapter's example (lives) and the makers of words of copyistkit. Conditions: the tables of unicode/utf8 lie as laid.
-/
import Derived.Test.YthmfiahmfdadgaaDoorMake
import Derived.Test.YthmfiahmfdadgaaDoorHeap
namespace Go.Proofs.YthmfiahmfdadgaaDoor
open Go.RowKit
set_option maxRecDepth 100000

/-- A heap that a law made: nothing that lay before the law is the heap's, nothing of it has turned. -/
structure LawAt (w0 w : World) (S : Own) (p : Nat) (m : HM) : Prop where
  heap : HeapAt w S p m
  bel : Below w0.heap.size w0 w
  out : ∀ b, b < w0.heap.size → S b = none
theorem LawAt.turn {w0 w w' : World} {S S' : Own} {p : Nat} {m m' : HM} (h : LawAt w0 w S p m) (hH : HeapAt w' S' p m') (ht : Turn S w w' S') : LawAt w0 w' S' p m' :=
  ⟨hH, h.bel.trans (ht.below h.bel.size h.out), ht.out h.bel.size h.out⟩
theorem LawAt.below {w0 w w' : World} {S : Own} {p : Nat} {m : HM} (h : LawAt w0 w S p m) (hb : Below w.heap.size w w') : LawAt w0 w' S p m :=
  ⟨h.heap.below hb, h.bel.trans (hb.mono h.bel.size), h.out⟩
theorem LawAt.tabs {w0 w : World} {S : Own} {p : Nat} {m : HM} (h : LawAt w0 w S p m) (hT : Tabs w0) : Tabs w ∧ TabsOut S :=
  ⟨tabs_later hT h.bel, h.out _ (tabs_lt hT).1, h.out _ (tabs_lt hT).2⟩
/-- A variable of the law's own: it stands, and is none of the heap's. -/
structure VarAt (w : World) (S : Own) (b : Nat) (t : TypeId) (cs : Array Value) : Prop where
  blk : Blk w b t cs
  out : S b = none
theorem VarAt.turn {w w' : World} {S S' : Own} {b : Nat} {t : TypeId} {cs : Array Value} (h : VarAt w S b t cs) (ht : Turn S w w' S') : VarAt w' S' b t cs :=
  ⟨h.blk.turn ht h.out, ht.new b h.blk.lt h.out⟩
theorem VarAt.below {w w' : World} {S : Own} {b : Nat} {t : TypeId} {cs : Array Value} (h : VarAt w S b t cs) (hb : Below w.heap.size w w') : VarAt w' S b t cs := ⟨h.blk.below hb, h.out⟩
theorem VarAt.new {w : World} {S : Own} {p : Nat} {m : HM} (h : HeapAt w S p m) (t : TypeId) (cs : Array Value) : VarAt (w.alloc (.cells cs t)) S w.heap.size t cs :=
  ⟨Blk.new w t cs, by obtain ⟨_, _, _, _, hI⟩ := h; exact own_none hI (Nat.le_refl _)⟩

theorem word_any (a b : Int) (w : World) : Calls Tryd.prog 22 #[.int .i64 a, .int .i64 b] w fun e w' => e = .returned (.agg #[.int .i64 a, .int .i64 b]) ∧ Below w.heap.size w w' := by
  go_enter Tryd.func22, Tryd.ntmps22
  go_wp2
  exact bodyPost_ret (v := .agg #[.int .i64 a, .int .i64 b]) (by simp [results, Tryd.results22, go_sem]) rfl ⟨rfl, (Below.refl _ _).alloc (Nat.le_refl _) _⟩
theorem int_any (a : Int) (w : World) : Calls Tryd.prog 20 #[.int .i64 a] w fun e w' => e = .returned (.agg #[.int .i64 0, .int .i64 a]) ∧ Below w.heap.size w w' := by
  go_enter Tryd.func20, Tryd.ntmps20
  go_wp2
  exact bodyPost_ret (v := .agg #[.int .i64 0, .int .i64 a]) (by simp [results, Tryd.results20, go_sem]) rfl ⟨rfl, (Below.refl _ _).alloc (Nat.le_refl _) _⟩
theorem sym_any (a : Int) (w : World) : Calls Tryd.prog 45 #[.int .i64 a] w fun e w' => e = .returned (.agg #[.int .i64 1, .int .i64 a]) ∧ Below w.heap.size w w' := by
  go_enter Tryd.func45, Tryd.ntmps45
  go_wp2
  exact bodyPost_ret (v := .agg #[.int .i64 1, .int .i64 a]) (by simp [results, Tryd.results45, go_sem]) rfl ⟨rfl, (Below.refl _ _).alloc (Nat.le_refl _) _⟩
theorem nil_any (w : World) : Calls Tryd.prog 21 #[] w fun e w' => e = .returned (.agg #[.int .i64 1, .int .i64 0]) ∧ Below w.heap.size w w' := by
  go_enter Tryd.func21, Tryd.ntmps21
  go_wp2_with fail
  refine (sym_any 0 _).mono ?_
  rintro e w1 ⟨rfl, hb1⟩
  have B1 : Below w.heap.size w w1 := ((Below.refl _ _).alloc (Nat.le_refl _) _).trans (hb1.mono (by simp))
  have R := (Blk.new w 24 #[.int .i64 0, .int .i64 0]).below hb1
  have r0 : w1.cell? ⟨w.heap.size, 0, none⟩ = some (.int .i64 0) := R.cell 0
  have r1 : w1.cell? ⟨w.heap.size, 1, none⟩ = some (.int .i64 0) := R.cell 1
  have f0 := R.frozen 0
  have f1 := R.frozen 1
  clear R hb1
  go_wp2
  exact bodyPost_ret (v := .agg #[.int .i64 1, .int .i64 0]) (by simp [results, Tryd.results21, go_sem, r0, r1]) rfl ⟨rfl, (B1.setCell (by simp) _).setCell (by simp) _⟩

theorem new_law (n : Nat) (w : World) (h1 : 1 ≤ n) (h2 : n ≤ 65536) :
    Calls Tryd.prog 9 #[.int .i64 n] w fun e w' => e = .returned (.tuple #[.pointer (some ⟨w.heap.size, 0, none⟩), .int .i64 0]) ∧ LawAt w w' (Own.one w.heap.size) w.heap.size ⟨n, [], []⟩ :=
  (new_heap n w h1 h2).mono fun e w' ⟨he, hH, hb⟩ => ⟨he, hH, hb, fun b hb => by simp [Own.one]; omega⟩

set_option maxHeartbeats 1000000 in
theorem lives_any (w : World) (hT : Tabs w) : Calls Tryd.prog 8 #[] w fun e w' => e = .returned (.bool true) ∧ Below w.heap.size w w' := by
  have HT := Lib.hid hT
  clear hT
  go_enter Tryd.func8, Tryd.ntmps8
  go_wp2_with fail
  refine (new_law 2 w (by omega) (by omega)).mono ?_
  rintro e w1 ⟨rfl, L1⟩
  have H1 := Lib.hid L1
  clear L1
  generalize hp0 : w.heap.size = p at H1 ⊢
  generalize Own.one p = S1 at H1
  have HP := Lib.hid hp0
  clear hp0
  go_wp2_with fail
  refine (int_any 1 w1).mono ?_
  rintro e w2 ⟨rfl, hb2⟩
  have H2 := Lib.hid (H1.out.below hb2)
  clear hb2 H1
  go_wp2_with fail
  refine (nil_any w2).mono ?_
  rintro e w3 ⟨rfl, hb3⟩
  have H3 := Lib.hid (H2.out.below hb3)
  clear hb3 H2
  go_wp2_with fail
  refine (cons_new S1 p ⟨2, [], []⟩ (0, 1) (1, 0) w3 H3.out.heap (by decide) rfl).mono ?_
  rintro e w4 ⟨S4, he4, hH4, hT4⟩
  obtain rfl : e = .returned (.tuple #[.agg #[.int .i64 2, .int .i64 0], .int .i64 0]) := he4
  have H4 := Lib.hid (H3.out.turn hH4 hT4)
  clear hH4 hT4 H3
  go_wp2_with fail
  have V5 := Lib.hid (VarAt.new H4.out.heap 24 #[.int .i64 2, .int .i64 0])
  have H5 := Lib.hid (H4.out.below ((Below.refl _ _).alloc (Nat.le_refl _) (.cells #[.int .i64 2, .int .i64 0] 24)))
  clear H4
  generalize w4.alloc (.cells #[.int .i64 2, .int .i64 0] 24) = w5 at V5 H5 ⊢
  generalize w4.heap.size = b5 at V5 ⊢
  refine (text_new S4 p _ ⟨#[97]⟩ w5 H5.out.heap (by decide) (H5.out.tabs HT.out).1 (H5.out.tabs HT.out).2 (by decide +kernel) (by decide +kernel) (by decide) rfl (by decide +kernel)).mono ?_
  rintro e w6 ⟨S6, he6, hH6, hT6⟩
  obtain rfl : e = .returned (.tuple #[.agg #[.int .i64 3, .int .i64 1], .int .i64 0]) := he6
  have H6 := Lib.hid (H5.out.turn hH6 hT6)
  have V6 := Lib.hid (V5.out.turn hT6)
  clear hH6 hT6 H5 V5
  go_wp2_with fail
  have U7 := Lib.hid (VarAt.new H6.out.heap 24 #[.int .i64 3, .int .i64 1])
  have hb7 := (Below.refl w6.heap.size w6).alloc (Nat.le_refl _) (.cells #[.int .i64 3, .int .i64 1] 24)
  have H7 := Lib.hid (H6.out.below hb7)
  have V7 := Lib.hid (V6.out.below hb7)
  clear H6 V6 hb7
  generalize w6.alloc (.cells #[.int .i64 3, .int .i64 1] 24) = w7 at U7 V7 H7 ⊢
  generalize w6.heap.size = b7 at U7 ⊢
  refine (vec_full S6 p _ none 0 0 [] w7 H7.out.heap (by decide) Reads.none_ (by decide)).mono ?_
  rintro e w8 ⟨rfl, hb8⟩
  have H8 := Lib.hid (H7.out.below hb8)
  have V8 := Lib.hid (V7.out.below hb8)
  have U8 := Lib.hid (U7.out.below hb8)
  clear H7 V7 U7 hb8
  go_wp2
  have hb9 := (Below.refl w8.heap.size w8).alloc (Nat.le_refl _) (.cells #[.int .i64 0, .int .i64 0] 24)
  have H9 := Lib.hid (H8.out.below hb9)
  have V9 := Lib.hid (V8.out.below hb9)
  have U9 := Lib.hid (U8.out.below hb9)
  clear H8 V8 U8 hb9
  generalize w8.alloc (.cells #[.int .i64 0, .int .i64 0] 24) = w9 at U9 V9 H9 ⊢
  have k0 : w9.drew.cell? ⟨b5, 0, none⟩ = some (.int .i64 2) := V9.out.blk.cell 0
  have k1 : w9.drew.cell? ⟨b5, 1, none⟩ = some (.int .i64 0) := V9.out.blk.cell 1
  have k2 : w9.drew.cell? ⟨b7, 0, none⟩ = some (.int .i64 3) := U9.out.blk.cell 0
  have k3 : w9.drew.cell? ⟨b7, 1, none⟩ = some (.int .i64 1) := U9.out.blk.cell 1
  have k4 : Below w.heap.size w w9.drew := H9.out.bel.drew
  go_region_held3 (fun w' => w'.cell? ⟨b5, 0, none⟩ = some (.int .i64 2) ∧ w'.cell? ⟨b5, 1, none⟩ = some (.int .i64 0) ∧ w'.cell? ⟨b7, 0, none⟩ = some (.int .i64 3) ∧ w'.cell? ⟨b7, 1, none⟩ = some (.int .i64 1) ∧ Below w.heap.size w w')
    (first | exact ⟨k0, k1, k2, k3, k4⟩ | (go_split_ands; exact ⟨cell_later hb (by assumption), cell_later hb (by assumption), cell_later hb (by assumption), cell_later hb (by assumption), Below.trans (by assumption) (hb.mono (Below.size (by assumption)))⟩))
    (first | (go_at_call 22; refine (word_any _ _ _).mono ?_; rintro e wa ⟨rfl, hb⟩))
  have B : Below w.heap.size w wa := by go_split_ands; assumption
  go_wp2
  go_ret
  exact ⟨rfl, B⟩

theorem turn_cell {S S' : Own} {w w' : World} (ht : Turn S w w' S') {b o : Nat} {v : Value} (hs : S b = none) (h : w.cell? ⟨b, o, none⟩ = some v) : w'.cell? ⟨b, o, none⟩ = some v :=
  (ht.cell (p := ⟨b, o, none⟩) (World.block_lt_of_cell? _ _ h) hs).trans h
/-- A row of the law's own: none of the heap's. -/
structure RowAt (w : World) (S : Own) (B : Nat) (e : TypeId) (size : Nat) (v : Value) (n : Nat) (xs : List Value) : Prop where
  row : w.ownsRow B e size v n xs
  out : ∀ g, v.ownBlock = some g → S g = none
theorem RowAt.nil (w : World) (S : Own) (B : Nat) (e : TypeId) (size : Nat) : RowAt w S B e size (.slice none 0 0) 0 [] := ⟨World.ownsRow_nil _ _ _ _, fun g hg => by simp [Value.ownBlock] at hg⟩
theorem RowAt.turn {w w' : World} {S S' : Own} {B : Nat} {e : TypeId} {size : Nat} {v : Value} {n : Nat} {xs : List Value} (h : RowAt w S B e size v n xs) (ht : Turn S w w' S') : RowAt w' S' B e size v n xs :=
  ⟨owns_keep h.row fun g hg => ht.block g (h.row.lt g hg).2 (h.out g hg), fun g hg => ht.new g (h.row.lt g hg).2 (h.out g hg)⟩
theorem RowAt.below {w w' : World} {S : Own} {B : Nat} {e : TypeId} {size : Nat} {v : Value} {n : Nat} {xs : List Value} (h : RowAt w S B e size v n xs) (hb : Below w.heap.size w w') : RowAt w' S B e size v n xs :=
  ⟨owns_later h.row hb, h.out⟩
/-- An append to a row of the law's own leaves the heap. -/
theorem LawAt.grown {w0 w w' : World} {S : Own} {p : Nat} {m : HM} (h : LawAt w0 w S p m) {row : Option Nat} (hg : w.grownBy w' row) (hr : ∀ g, row = some g → S g = none ∧ w0.heap.size ≤ g) : LawAt w0 w' S p m :=
  ⟨h.heap.keep hg.size fun b hb => hg.block b (h.heap.lt b hb) (fun e => hb (hr b e.symm).1), h.bel.grown hg h.bel.size fun k hk => (hr k hk).2, h.out⟩
theorem VarAt.grown {w w' : World} {S : Own} {b : Nat} {t : TypeId} {cs : Array Value} (h : VarAt w S b t cs) {row : Option Nat} (hg : w.grownBy w' row) (hr : row ≠ some b) : VarAt w' S b t cs :=
  ⟨h.blk.keep (hg.block b h.blk.lt (Ne.symm hr)), h.out⟩
theorem LawAt.store {w0 w : World} {S : Own} {p : Nat} {m : HM} (h : LawAt w0 w S p m) {b : Nat} (hb : S b = none) (h0 : w0.heap.size ≤ b) (i : Nat) (u : Value) : LawAt w0 (w.setCell ⟨b, i, none⟩ u) S p m :=
  ⟨h.heap.res hb i u, h.bel.setCell h0 u, h.out⟩
theorem VarAt.store {w : World} {S : Own} {b : Nat} {t : TypeId} {cs : Array Value} (h : VarAt w S b t cs) {c : Nat} (hne : b ≠ c) (i : Nat) (u : Value) : VarAt (w.setCell ⟨c, i, none⟩ u) S b t cs := ⟨h.blk.far (p := ⟨c, i, none⟩) hne u, h.out⟩
theorem VarAt.set {w : World} {S : Own} {b : Nat} {t : TypeId} {cs : Array Value} (h : VarAt w S b t cs) (i : Nat) (u : Value) : VarAt (w.setCell ⟨b, i, none⟩ u) S b t (cs.setIfInBounds i u) := ⟨h.blk.set i u, h.out⟩
theorem RowAt.store {w : World} {S : Own} {B : Nat} {e : TypeId} {size : Nat} {v : Value} {n : Nat} {xs : List Value} (h : RowAt w S B e size v n xs) {c : Nat} (hne : ∀ g, v.ownBlock = some g → g ≠ c) (i : Nat) (u : Value) : RowAt (w.setCell ⟨c, i, none⟩ u) S B e size v n xs :=
  ⟨owns_keep h.row fun g hg => Below.heap_setCell _ _ _ _ (hne g hg), h.out⟩
theorem HeapAt.drew {w : World} {S : Own} {p : Nat} {m : HM} (h : HeapAt w S p m) : HeapAt w.drew S p m := h.keep (Nat.le_refl _) fun _ _ => rfl
theorem Turn.of_drew {S S' : Own} {w w' : World} (h : Turn S w.drew w' S') : Turn S w w' S' := ⟨h.os, h.tape, h.output, h.size, h.block, h.new⟩
theorem al_cell {w : World} {o : Obj} {a : Addr} {v : Value} (h : w.cell? a = some v) : (w.alloc o).cell? a = some v := (World.cell?_alloc_lt _ _ _ (World.block_lt_of_cell? _ _ h)).trans h
theorem st_cell {w : World} {c j : Nat} {u : Value} {b o : Nat} {v : Value} (h : w.cell? ⟨b, o, none⟩ = some v) (hne : b ≠ c) : (w.setCell ⟨c, j, none⟩ u).cell? ⟨b, o, none⟩ = some v :=
  (World.cell?_setCell_other w ⟨c, j, none⟩ ⟨b, o, none⟩ u (fun e => hne (congrArg Addr.block e).symm)).trans h
/-- Behind an append to a row of the law's own, whose new element lies in a new block. -/
theorem row_appended {w0 w w' : World} {S : Own} {p : Nat} {m : HM} {B : Nat} {e : TypeId} {size : Nat} {v v2 : Value} {n k : Nat} {xs ys : List Value} {o : Obj} (hL : LawAt w0 w S p m) (hR : RowAt w S B e size v n xs)
    (hown : w'.ownsRow B e size v2 k ys) (hg : (w.alloc o).grownBy w' v.ownBlock) (hat : v2.ownBlock = v.ownBlock ∨ v2.ownBlock = some (w.alloc o).heap.size) (hB : w0.heap.size ≤ B) :
    LawAt w0 w' S p m ∧ RowAt w' S B e size v2 k ys ∧ (∀ b t cs, VarAt w S b t cs → b < B → VarAt w' S b t cs) ∧ w.heap.size ≤ w'.heap.size := by
  have ha : Below w.heap.size w (w.alloc o) := (Below.refl _ _).alloc (Nat.le_refl _) o
  refine ⟨(hL.below ha).grown hg fun g hg' => ⟨hR.out g hg', Nat.le_trans hB (hR.row.lt g hg').1⟩, ⟨hown, fun g hg' => ?_⟩, fun b t cs hv hb => (hv.below ha).grown hg (fun e => ?_), Nat.le_trans ha.size hg.size⟩
  · rcases hat with h | h
    · exact hR.out g (h ▸ hg')
    · rw [h] at hg'
      obtain ⟨_, _, _, _, hI⟩ := hL.heap
      exact own_none hI (by simp at hg'; omega)
  · have := (hR.row.lt b e).1
    omega
theorem reads_new2 (w : World) (a b : Value) (t : TypeId) : Reads (w.alloc (.cells #[a, b] t)) (w.heap.size + 1) 2 (some ⟨w.heap.size, 0, none⟩) 1 [a, b] :=
  ⟨rfl, fun _ => ⟨_, rfl, Nat.lt_succ_self _, fun j u hu => by
    have hadd : (⟨w.heap.size, 0, none⟩ : Addr).add j = ⟨w.heap.size, j, none⟩ := by unfold Addr.add; split <;> simp_all
    rw [hadd, (Blk.new w t #[a, b]).cell j, ← hu]
    simp⟩⟩
end Go.Proofs.YthmfiahmfdadgaaDoor
