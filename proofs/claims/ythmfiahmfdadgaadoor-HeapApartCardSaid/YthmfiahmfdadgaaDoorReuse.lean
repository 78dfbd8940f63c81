/-
  (*heap.Heap).add at a vector where one number is free: the vector takes that number. Conditions: the heap's block lies as said; what the method size gives.
-/
import Derived.Test.YthmfiahmfdadgaaDoorPops
import Derived.Test.YthmfiahmfdadgaaDoorA1
import Derived.Test.YthmfiahmfdadgaaDoorMake
namespace Go.Proofs.YthmfiahmfdadgaaDoor
open Go.RowKit
set_option maxRecDepth 100000

theorem owns_put {w : World} {e : TypeId} {g n cap : Nat} {xs : List Value} (h : w.ownsRow 0 e 1 (.slice (some ⟨g, 0, none⟩) n cap) n xs) (i : Nat) (u : Value) : (w.setCell ⟨g, i, none⟩ u).ownsRow 0 e 1 (.slice (some ⟨g, 0, none⟩) n cap) n (xs.set i u) := by
  obtain ⟨h1, h2⟩ := h
  rcases h2 with ⟨h, _⟩ | ⟨g', cap', cur, hv, hb, hg, h3, h4, h5, h6⟩
  · cases h
  · cases hv
    refine ⟨by simpa using h1, .inr ⟨g, cap, cur.setIfInBounds i u, rfl, hb, Blk.set hg i u, h3, h4, by simpa using h5, ?_⟩⟩
    rw [Array.toList_setIfInBounds, List.take_set, h6]
theorem owns_none {w : World} {e : TypeId} {g n cap : Nat} {xs : List Value} (h : w.ownsRow 0 e 1 (.slice (some ⟨g, 0, none⟩) n cap) n xs) : w.ownsRow 0 e 1 (.slice (some ⟨g, 0, none⟩) 0 cap) 0 [] := by
  obtain ⟨h1, h2⟩ := h
  rcases h2 with ⟨h, _⟩ | ⟨g', cap', cur, hv, hb, hg, h3, h4, h5, h6⟩
  · cases h
  · cases hv
    exact ⟨rfl, .inr ⟨g, cap, cur, rfl, hb, hg, by omega, h4, h5, by simp⟩⟩
/-- What add leaves: the object has taken the free number. -/
def Reused (S : Own) (w : World) (p L M U n kd k : Nat) (vo vf : Value) (os : List Value) (x : Value) (e : Ending) (w' : World) : Prop :=
  e = .returned (.tuple #[.agg #[.int .i64 kd, .int .i64 k], .int .i64 0]) ∧ w'.ownsRow 0 86 1 vo os.length (os.set k x) ∧
    Blk w' p 67 #[.int .i64 L, .int .i64 ((M + 1 : Nat) : Int), .int .i64 ((U + n : Nat) : Int), vo, vf] ∧ Turn S w w' S
theorem Reused.turn {S : Own} {w : World} {p L M U n kd k : Nat} {vo vf : Value} {os : List Value} {x : Value} {e : Ending} {w' : World} (h : Reused S w p L M U n kd k vo vf os x e w') : Turn S w w' S := h.2.2.2
theorem many_fill {l : List (Option HObj)} {k : Nat} {o : HObj} (h : l[k]? = some none) : ((l.set k (some o)).filter Option.isSome).length = (l.filter Option.isSome).length + 1 := by
  induction l generalizing k with
  | nil => cases h
  | cons a l ih =>
    cases k with
    | zero => cases h; simp
    | succ k =>
      have := ih (k := k) (by simpa using h)
      rw [List.set_cons_succ, List.filter_cons, List.filter_cons]
      cases a with
      | none => simpa using this
      | some a => simp [this]
theorem used_fill {l : List (Option HObj)} {k : Nat} {o : HObj} (h : l[k]? = some none) : ((l.set k (some o)).map optSize).sum = (l.map optSize).sum + o.size := by
  induction l generalizing k with
  | nil => cases h
  | cons a l ih =>
    cases k with
    | zero => cases h; simp [optSize]; omega
    | succ k =>
      have := ih (k := k) (by simpa using h)
      rw [List.set_cons_succ, List.map_cons, List.map_cons, List.sum_cons, List.sum_cons, this]
      omega
/-- A heap in which a free number is taken. -/
def HM.take (m : HM) (k : Nat) (o : HObj) : HM := ⟨m.limit, m.objs.set k (some o), []⟩
theorem HM.Ok.take {m : HM} (h : m.Ok) {k : Nat} (o : HObj) (hk : m.objs[k]? = some none) (hf : m.free = [(k : Int)]) (hu : m.used + o.size ≤ 1048576) : (m.take k o).Ok where
  lo := h.lo
  hi := h.hi
  len := by simpa [HM.take] using h.len
  used := by show ((m.objs.set k (some o)).map optSize).sum ≤ _; rw [used_fill hk]; exact hu
  free := by
    have := h.free
    rw [hf] at this
    show 0 + ((m.objs.set k (some o)).filter Option.isSome).length = (m.objs.set k (some o)).length
    rw [many_fill hk, List.length_set]
    have e : m.many = (m.objs.filter Option.isSome).length := rfl
    simp at this
    omega
theorem HeapIn.reused {w0 w w2 : World} {S : Own} {p : Nat} {m : HM} {vo : Value} {g c k : Nat} {os : List Value} {x : Value} {o : HObj} {e : Ending} {bs : List Nat} {kd : Nat}
    (h : HeapIn w S p m vo (.slice (some ⟨g, 0, none⟩) 1 c) os) (hok : m.Ok) (hk : m.objs[k]? = some none) (hf : m.free = [(k : Int)]) (hu : m.used + o.size ≤ 1048576)
    (hA : Reused (Own.core p vo) w p m.limit m.many m.used o.size kd k vo (.slice (some ⟨g, 0, none⟩) 0 c) os x e w2) (hbs : ∀ b ∈ bs, S b = none ∧ b < w.heap.size) (hw0 : Below w0.heap.size w0 w) (hb0 : ∀ b ∈ bs, w0.heap.size ≤ b) (hobj : ObjAt w (S.with bs (k + 3)) (k + 3) x o) :
    ∃ S2, e = .returned (.tuple #[.agg #[.int .i64 kd, .int .i64 k], .int .i64 0]) ∧ HeapAt w2 S2 p (m.take k o) ∧ Turn S w0 w2 S2 ∧ ∀ b, b < w.heap.size → S b = none → b ∉ bs → S2 b = none := by
  obtain ⟨he, hown, hblk, ht⟩ := hA
  have hkl : k < m.objs.length := (List.getElem?_eq_some_iff.1 hk).1
  have hS2 : ∀ b j, S b = some j → (S.with bs (k + 3)) b = some j := by
    intro b j hj
    have hnb : b ∉ bs := fun hb => by have := (hbs b hb).1; rw [hj] at this; cases this
    simp [Own.with, hnb, hj]
  have hst : ∀ b, b < w.heap.size → S b ≠ some 0 → S b ≠ some 1 → w2.heap[b]? = w.heap[b]? := fun b hb h0 h1 => ht.block b hb (h.core_none h0 h1)
  have hnew : ∀ b, S.with bs (k + 3) b = some (k + 3) → w2.heap[b]? = w.heap[b]? ∧ (S.with bs (k + 3)) b = some (k + 3) := by
    intro b hb
    refine ⟨?_, hb⟩
    by_cases hm : b ∈ bs
    · obtain ⟨h1, h2⟩ := hbs b hm
      exact hst b h2 (by rw [h1]; simp) (by rw [h1]; simp)
    · have hb' : S b = some (k + 3) := by simpa [Own.with, hm] using hb
      exact hst b (h.lt b (by rw [hb']; simp)) (by rw [hb']; simp) (by rw [hb']; simp)
  refine ⟨S.with bs (k + 3), he, ⟨hok.take o hk hf hu, vo, .slice (some ⟨g, 0, none⟩) 0 c, os.set k x, ?_⟩, ?_, ?_⟩
  · exact {
      blk := by
        have e1 : (m.take k o).many = m.many + 1 := many_fill hk
        have e2 : (m.take k o).used = m.used + o.size := used_fill hk
        rw [e1, e2]
        exact hblk
      own := hS2 p 0 h.own
      row := by rw [List.length_set]; exact hown
      rowOwn := fun g hg => hS2 g 1 (h.rowOwn g hg)
      len := by simp [HM.take, h.len]
      objs := fun i v o' h1 h2 => by
        have h2' : (m.objs.set k (some o))[i]? = some o' := h2
        rw [List.getElem?_set] at h1 h2'
        by_cases hi : k = i
        · subst hi
          rw [if_pos rfl, if_pos (by rw [h.len]; exact hkl)] at h1
          rw [if_pos rfl, if_pos hkl] at h2'
          cases h1; cases h2'
          exact ObjAt.keep (S := S.with bs (k + 3)) hobj hnew
        · rw [if_neg hi] at h1 h2'
          exact (h.objs i v o' h1 h2').keep fun b hb => ⟨hst b (h.lt b (by rw [hb]; simp)) (by rw [hb]; simp) (by rw [hb]; simp), hS2 b _ hb⟩
      fre := by
        have hf1 := h.fre
        rw [hf] at hf1
        have hf2 := owns_none hf1
        exact owns_keep hf2 fun g' hg' => hst g' (h.lt g' (by rw [h.freOwn g' hg']; simp)) (by rw [h.freOwn g' hg']; simp) (by rw [h.freOwn g' hg']; simp)
      freOwn := fun g' hg' => hS2 g' 2 (h.freOwn g' hg')
      lt := fun b hb => by
        by_cases h2 : b ∈ bs
        · exact Nat.lt_of_lt_of_le (hbs b h2).2 ht.size
        · have : S b ≠ none := by simpa [Own.with, h2] using hb
          exact Nat.lt_of_lt_of_le (h.lt b this) ht.size }
  · have hsz := hw0.size
    refine ⟨ht.os.trans hw0.os, ht.tape.trans hw0.tape, ht.output.trans hw0.output, Nat.le_trans hsz ht.size, fun b hb hs => (hst b (by omega) (by rw [hs]; simp) (by rw [hs]; simp)).trans (hw0.block b hb), fun b hb hs => ?_⟩
    have h2 : b ∉ bs := fun hm => by have := hb0 b hm; omega
    simp [Own.with, h2, hs]
  · intro b hb hs h2
    simp [Own.with, h2, hs]
set_option maxHeartbeats 2000000 in
theorem add_reuse_vector (S : Own) (p b L M U n k g : Nat) (vo : Value) (os : List Value) (c : Nat) (w : World) (hS : SizeIs 79 S w b n) (_hL : L ≤ 65536) (hM : M ≠ L) (hM2 : M ≤ 65536) (hU : U + n ≤ 1048576) (hN : os.length ≤ 65536) (hSp : S p ≠ none) (hSr : ∀ g, vo.ownBlock = some g → S g ≠ none ∧ g ≠ p)
    (hO : w.ownsRow 0 86 1 vo os.length os) (hk : k < os.length) (hF : w.ownsRow 0 3 1 (.slice (some ⟨g, 0, none⟩) 1 c) 1 [.int .i64 k]) (hgp : g ≠ p) (hgo : vo.ownBlock ≠ some g)
    (hB : Blk w p 67 #[.int .i64 L, .int .i64 M, .int .i64 U, vo, .slice (some ⟨g, 0, none⟩) 1 c]) :
    Calls Tryd.prog 37 #[.pointer (some ⟨p, 0, none⟩), .iface 69 (.pointer (some ⟨b, 0, none⟩))] w (Reused S w p L M U n 4 k vo (.slice (some ⟨g, 0, none⟩) 0 c) os (.iface 69 (.pointer (some ⟨b, 0, none⟩)))) := by
  obtain ⟨v0a, v0c, hvo⟩ : ∃ go cv, vo = .slice (some ⟨go, 0, none⟩) os.length cv := by
    rcases hO.2 with ⟨_, h⟩ | ⟨go, cap, cur, h, _⟩
    · omega
    · exact ⟨_, _, h⟩
  subst hvo
  have hgo' : g ≠ v0a := fun e => hgo (by rw [e]; rfl)
  have hop : v0a ≠ p := (hSr v0a rfl).2
  have hoS : S v0a ≠ none := (hSr v0a rfl).1
  have i1 : (0 : Int) ≤ (k : Int) := by omega
  have i2 : (k : Int) < (os.length : Int) := by omega
  have HS := Lib.hid hS
  have c0 : w.cell? ⟨p, 0, none⟩ = some (.int .i64 L) := hB.cell 0
  have c1 : w.cell? ⟨p, 1, none⟩ = some (.int .i64 M) := hB.cell 1
  have c2 : w.cell? ⟨p, 2, none⟩ = some (.int .i64 U) := hB.cell 2
  have hlt := hB.lt
  have hm := msize_vector ⟨b, 0, none⟩
  have hm2 := mkind_vector ⟨b, 0, none⟩
  have e1 : ((M : Int) == (L : Int)) = false := beq_eq_false_iff_ne.2 (by omega)
  have A1 : Below w.heap.size w (w.alloc (.cells #[.int .i64 0, .int .i64 0] 24)) := (Below.refl _ _).alloc (Nat.le_refl _) _
  have k0 : (w.alloc (.cells #[.int .i64 0, .int .i64 0] 24)).drew.cell? ⟨p, 0, none⟩ = some (.int .i64 L) := cell_later A1.drew c0
  have k1 : (w.alloc (.cells #[.int .i64 0, .int .i64 0] 24)).drew.cell? ⟨p, 1, none⟩ = some (.int .i64 M) := cell_later A1.drew c1
  have k2 : (w.alloc (.cells #[.int .i64 0, .int .i64 0] 24)).drew.cell? ⟨p, 2, none⟩ = some (.int .i64 U) := cell_later A1.drew c2
  have k4 : Blk (w.alloc (.cells #[.int .i64 0, .int .i64 0] 24)).drew w.heap.size 24 #[.int .i64 0, .int .i64 0] := Blk.new w _ _
  have e2 : decide ((1048576 : Int) < (U : Int) + (n : Int)) = false := decide_eq_false (by omega)
  have hw : IntKind.i64.wrap ((U : Int) + (n : Int)) = (U : Int) + (n : Int) := IntWalk.i64_in _ (by omega)
  have HB := Lib.hid hB
  have HO := Lib.hid hO
  have HF := Lib.hid hF
  clear hB hO hF hS hM hSr hgo
  go_enter Tryd.func37, Tryd.ntmps37
  go_wp2
  go_region_held3 (fun w' => w'.cell? ⟨p, 0, none⟩ = some (.int .i64 L) ∧ w'.cell? ⟨p, 1, none⟩ = some (.int .i64 M) ∧ w'.cell? ⟨p, 2, none⟩ = some (.int .i64 U) ∧ Below w.heap.size w w' ∧ Blk w' w.heap.size 24 #[.int .i64 0, .int .i64 0])
    (first | exact ⟨k0, k1, k2, A1.drew, k4⟩ | (go_split_ands; exact ⟨cell_later hb (by assumption), cell_later hb (by assumption), cell_later hb (by assumption), Below.trans (by assumption) (hb.mono (Below.size (by assumption))), Blk.below (by assumption) hb⟩))
    (first | (go_at_call 79; refine (HS.out _ ?_).mono ?_; (go_split_ands; exact Turn.of_below (by assumption)); rintro e w1 ⟨rfl, hb⟩))
  have B1 : Below w.heap.size w w1 := by go_split_ands; assumption
  have R1 : Blk w1 w.heap.size 24 #[.int .i64 0, .int .i64 0] := by go_split_ands; assumption
  clear hb k0 k1 k2 k4 c0 c1 c2 e2 hw
  have D1 := HB.out.below B1
  have O1 := owns_later HO.out B1
  have F1 := owns_later HF.out B1
  have d1 : w1.cell? ⟨p, 1, none⟩ = some (.int .i64 M) := D1.cell 1
  have d2 : w1.cell? ⟨p, 2, none⟩ = some (.int .i64 U) := D1.cell 2
  have d3 : w1.cell? ⟨p, 3, none⟩ = some (.slice (some ⟨v0a, 0, none⟩) os.length v0c) := D1.cell 3
  have d4 : w1.cell? ⟨p, 4, none⟩ = some (.slice (some ⟨g, 0, none⟩) 1 c) := D1.cell 4
  have hlt1 := D1.lt
  have hzw := B1.size
  have CP := Lib.hid (hpop p g c (k : Int) _ _ _ _ w1 D1 F1 hgp)
  have HD1 := Lib.hid D1
  have HO1 := Lib.hid O1
  have HF1 := Lib.hid F1
  have HR1 := Lib.hid R1
  have hta : ∀ w : World, (Instr.typeAssert (.iface 3 (.int .i64 k)) 20 3 false).run Tryd.prog w = .ok (.int .i64 k) w := fun _ => rfl
  clear D1 O1 F1 R1
  go_wp2_with fail
  refine CP.out.mono ?_
  rintro e w3 ⟨rfl, w2, hb2, rfl⟩
  have T3 : Turn S w (w2.setCell ⟨p, 4, none⟩ (.slice (some ⟨g, 0, none⟩) 0 c)) S := ((Turn.of_below B1).later hb2).setCell (p := ⟨p, 4, none⟩) hSp _
  have D3 := (HD1.out.below hb2).set 4 (.slice (some ⟨g, 0, none⟩) 0 c)
  have O3 : (w2.setCell ⟨p, 4, none⟩ (.slice (some ⟨g, 0, none⟩) 0 c)).ownsRow 0 86 1 (.slice (some ⟨v0a, 0, none⟩) os.length v0c) os.length os := owns_keep (owns_later HO1.out hb2) fun g' hg' => Below.heap_setCell _ _ _ _ (by cases hg'; exact hop)
  have R3 := (HR1.out.below hb2).far (p := ⟨p, 4, none⟩) (by show w.heap.size ≠ p; omega) (.slice (some ⟨g, 0, none⟩) 0 c)
  simp at D3
  generalize w2.setCell ⟨p, 4, none⟩ (.slice (some ⟨g, 0, none⟩) 0 c) = w3 at T3 D3 O3 R3 ⊢
  have s1 : w3.cell? ⟨p, 1, none⟩ = some (.int .i64 M) := D3.cell 1
  have s3 : w3.cell? ⟨p, 3, none⟩ = some (.slice (some ⟨v0a, 0, none⟩) os.length v0c) := D3.cell 3
  have t1 := D3.frozen 1
  obtain ⟨oc, of⟩ : (∃ u, w3.cell? ⟨v0a, k, none⟩ = some u) ∧ w3.frozen? ⟨v0a, k, none⟩ = false := by
    rcases O3.2 with ⟨h, _⟩ | ⟨g', cap', cur, hv, _, hg', h3, h4, h5, h6⟩
    · cases h
    · cases hv
      exact ⟨⟨_, (Blk.cell hg' k).trans (Array.getElem?_eq_getElem (by rw [h5]; omega))⟩, Blk.frozen hg' k⟩
  obtain ⟨u0, oc⟩ := oc
  have HD3 := Lib.hid D3
  have HO3 := Lib.hid O3
  have HR3 := Lib.hid R3
  have HT3 := Lib.hid T3
  clear hb2 D3 O3 R3 T3 d1 d2 d3 d4 HD1 HO1 HF1 HR1 CP
  go_wp2
  have hpw : p ≠ w.heap.size := by omega
  have how : v0a ≠ w.heap.size := by have := HO.out.lt v0a rfl; omega
  obtain ⟨w5, HW5⟩ : ∃ w5, w5 = (w3.setCell ⟨v0a, k, none⟩ (.iface 69 (.pointer (some ⟨b, 0, none⟩)))).setCell ⟨p, 1, none⟩ (.int .i64 ((M : Int) + 1)) := ⟨_, rfl⟩
  rw [← HW5]
  have D5 := (HD3.out.far (p := ⟨v0a, k, none⟩) hop.symm (.iface 69 (.pointer (some ⟨b, 0, none⟩)))).set 1 (.int .i64 ((M : Int) + 1))
  have R5 := (HR3.out.far (p := ⟨v0a, k, none⟩) (by simpa using how.symm) (.iface 69 (.pointer (some ⟨b, 0, none⟩)))).far (p := ⟨p, 1, none⟩) (by simpa using hpw.symm) (.int .i64 ((M : Int) + 1))
  have T5 := (HT3.out.setCell (p := ⟨v0a, k, none⟩) hoS (.iface 69 (.pointer (some ⟨b, 0, none⟩)))).setCell (p := ⟨p, 1, none⟩) hSp (.int .i64 ((M : Int) + 1))
  have O5 : w5.ownsRow 0 86 1 (.slice (some ⟨v0a, 0, none⟩) os.length v0c) os.length (os.set k (.iface 69 (.pointer (some ⟨b, 0, none⟩)))) := by
    rw [HW5]
    exact owns_keep (owns_put HO3.out k _) fun g' hg' => Below.heap_setCell _ _ _ _ (by cases hg'; exact hop)
  rw [← HW5] at D5 R5 T5
  simp at D5
  have s2 : w5.cell? ⟨p, 2, none⟩ = some (.int .i64 U) := D5.cell 2
  have t2 : w5.frozen? ⟨p, 2, none⟩ = false := D5.frozen 2
  have hlt3 := D5.lt
  clear HW5
  have HS5 := Lib.hid (HS.out w5.drew (T5.drewN 1))
  have HD5 := Lib.hid D5
  have HR5 := Lib.hid R5
  have HT5 := Lib.hid T5
  have HO5 := Lib.hid O5
  clear D5 R5 T5 O5 HS HD3 HR3 HO3 HT3 s1 s3 t1 oc of hta
  have hw : IntKind.i64.wrap ((U : Int) + (n : Int)) = (U : Int) + (n : Int) := IntWalk.i64_in _ (by omega)
  go_region_with ((go_at_call 79; refine HS5.out.mono ?_; rintro e w4 ⟨rfl, hb4⟩; have s4 : w4.cell? ⟨p, 2, none⟩ = some (.int .i64 U) := cell_later hb4 s2; have t4 : w4.frozen? ⟨p, 2, none⟩ = false := frozen_later hb4 s2 t2))
  all_goals
    have hb4' : Below w5.heap.size w5 w4 := ⟨hb4.os, hb4.tape, hb4.output, hb4.size, hb4.block⟩
    have D4 := (HD5.out.below hb4').set 2 (.int .i64 ((U : Int) + (n : Int)))
    have R4 := (HR5.out.below hb4').far (p := ⟨p, 2, none⟩) (by simpa using hpw.symm) (.int .i64 ((U : Int) + (n : Int)))
    have T4 := (HT5.out.later hb4').setCell (p := ⟨p, 2, none⟩) hSp (.int .i64 ((U : Int) + (n : Int)))
    have O4 : (w4.setCell ⟨p, 2, none⟩ (.int .i64 ((U : Int) + (n : Int)))).ownsRow 0 86 1 (.slice (some ⟨v0a, 0, none⟩) os.length v0c) os.length (os.set k (.iface 69 (.pointer (some ⟨b, 0, none⟩)))) :=
      owns_keep (owns_later HO5.out hb4') fun g' hg' => Below.heap_setCell _ _ _ _ (by cases hg'; exact hop)
    have r0 : (w4.setCell ⟨p, 2, none⟩ (.int .i64 ((U : Int) + (n : Int)))).cell? ⟨w.heap.size, 0, none⟩ = some (.int .i64 0) := R4.cell 0
    have r1 : (w4.setCell ⟨p, 2, none⟩ (.int .i64 ((U : Int) + (n : Int)))).cell? ⟨w.heap.size, 1, none⟩ = some (.int .i64 0) := R4.cell 1
    have f0 := R4.frozen 0
    have f1 := R4.frozen 1
    simp at D4
    generalize w4.setCell ⟨p, 2, none⟩ (.int .i64 ((U : Int) + (n : Int))) = w6 at D4 R4 T4 O4 r0 r1 f0 f1 ⊢
    have H5 := Lib.hid (And.intro D4 (And.intro T4 O4))
    clear D4 R4 T4 O4 hb4 hb4' s4 t4 hw
    go_wp2_with (go_at_call 78; refine (kind_vector _ _).mono ?_; rintro e w' ⟨rfl, rfl⟩)
    obtain ⟨D6, T6, O6⟩ := H5.out
    refine bodyPost_ret (v := .tuple #[.agg #[.int .i64 4, .int .i64 k], .int .i64 0]) (by simp [results, Tryd.results37, go_sem, r0, r1]) rfl ⟨rfl, ?_, ?_, ?_⟩
    · exact owns_keep O6 fun g' hg' => by cases hg'; rw [Below.heap_setCell _ _ _ _ how, Below.heap_setCell _ _ _ _ how]
    · have := (D6.far (p := ⟨w.heap.size, 0, none⟩) hpw (.int .i64 4)).far (p := ⟨w.heap.size, 1, none⟩) hpw (.int .i64 k)
      simpa [Int.natCast_add] using this
    · exact (T6.setCell_new (p := ⟨w.heap.size, 0, none⟩) (Nat.le_refl _) _).setCell_new (p := ⟨w.heap.size, 1, none⟩) (Nat.le_refl _) _
set_option maxHeartbeats 1000000 in
theorem vec_reuse (S : Own) (p : Nat) (m : HM) (A : Option Addr) (n c : Nat) (l : List Wd) (w : World) (hH : HeapAt w S p m) (hn : n ≤ 65536) (hr : Reads w w.heap.size 2 A n (wdC l)) (hm : m.many < m.limit) {k : Nat} (hf : m.free = [(k : Int)]) (hk : m.objs[k]? = some none) (hu : m.used + n ≤ 1048576) :
    Calls Tryd.prog 10 #[.pointer (some ⟨p, 0, none⟩), .slice A n c] w fun e w' => ∃ S', e = .returned (.tuple #[.agg #[.int .i64 4, .int .i64 k], .int .i64 0]) ∧ HeapAt w' S' p (m.take k (.vec l)) ∧ Turn S w w' S' := by
  obtain ⟨hok, vo, vf, os, hI⟩ := hH
  obtain ⟨g, cf, rfl⟩ : ∃ g c, vf = .slice (some ⟨g, 0, none⟩) 1 c := by
    have := hI.fre
    rw [hf] at this
    rcases this.2 with ⟨_, h⟩ | ⟨g, cap, cur, h, _⟩
    · simp at h
    · exact ⟨_, _, h⟩
  have hF0 : w.ownsRow 0 3 1 (.slice (some ⟨g, 0, none⟩) 1 cf) 1 [.int .i64 k] := by have := hI.fre; rw [hf] at this; exact this
  have hgp : g ≠ p := fun e => by have h1 := hI.freOwn g rfl; rw [e, hI.own] at h1; cases h1
  have hgo : vo.ownBlock ≠ some g := fun e => by have h1 := hI.freOwn g rfl; rw [hI.rowOwn g e] at h1; cases h1
  have hko : k < os.length := by rw [hI.len]; exact (List.getElem?_eq_some_iff.1 hk).1
  have HF0 := Lib.hid hF0
  have c0 : w.cell? ⟨p, 0, none⟩ = some (.int .i64 m.limit) := hI.blk.cell 0
  have hlt := hI.blk.lt
  have h0 : 0 < m.limit := hok.lo
  have HI := Lib.hid hI
  have HOK := Lib.hid hok
  clear hI hok hF0
  have k0 : (w.alloc (.cells #[.int .i64 0, .int .i64 0] 24)).cell? ⟨p, 0, none⟩ = some (.int .i64 m.limit) := cell_later ((Below.refl _ _).alloc (Nat.le_refl _) _) c0
  have BR : Below w.heap.size w (w.alloc (.cells #[.int .i64 0, .int .i64 0] 24)) := (Below.refl _ _).alloc (Nat.le_refl _) _
  have RR : Blk (w.alloc (.cells #[.int .i64 0, .int .i64 0] 24)) w.heap.size 24 #[.int .i64 0, .int .i64 0] := Blk.new w _ _
  have d1 : decide ((65536 : Int) < (n : Int)) = false := decide_eq_false (by omega)
  have HR := Lib.hid (hr.alloc (Nat.le_refl _) (.cells #[.int .i64 0, .int .i64 0] 24))
  have hnl : l.length = n := by have := hr.1; rw [wdC_length] at this; omega
  have HNL := Lib.hid hnl
  have HRR := Lib.hid RR
  clear hr hnl RR
  go_enter Tryd.func10, Tryd.ntmps10
  go_wp2_with (go_at_call 36; refine (made_yes p m.limit _ h0 k0).mono ?_; rintro e w' ⟨rfl, rfl⟩)
  clear k0
  refine (clone_words A n c l _ (by omega) (HR.out.more (by simp))).mono ?_
  rintro e w1 ⟨v, rfl, hown1, hb1⟩
  have B1 : Below w.heap.size w w1 := BR.trans (hb1.mono BR.size)
  have hz1 := hb1.size
  simp at hz1
  obtain ⟨va, vc, hv⟩ : ∃ va vc, v = .slice va n vc := by
    rcases hown1.2 with ⟨h, h2⟩ | ⟨g, cap, cur, h, _⟩
    · exact ⟨none, 0, by rw [h, h2]⟩
    · exact ⟨_, _, h⟩
  subst hv
  have HO1 := Lib.hid hown1
  have HR1 := Lib.hid (HRR.out.below hb1)
  clear hown1 hb1 HRR BR
  go_wp2_with fail
  obtain ⟨W, HW⟩ : ∃ W, W = w1.alloc (.cells #[.slice va n vc] 71) := ⟨_, rfl⟩
  rw [← HW]
  have B1W : Below w1.heap.size w1 W := by rw [HW]; exact (Below.refl _ _).alloc (Nat.le_refl _) _
  have BW : Below w.heap.size w W := B1.trans (B1W.mono B1.size)
  have hIW := Lib.hid (HI.out.keep BW.size fun b hb => BW.block b (HI.out.lt b hb))
  have RW := Lib.hid (HR1.out.below B1W)
  have OW : Blk W w1.heap.size 71 #[.slice va n vc] := by rw [HW]; exact Blk.new w1 _ _
  clear HW
  have hml := HOK.out.many_le
  have hlen := HOK.out.len
  have hhi := HOK.out.hi
  have husd := HOK.out.used
  refine (add_reuse_vector (Own.core p vo) p w1.heap.size m.limit m.many m.used n k g vo os cf W (fun w' ht => size_vector w1.heap.size va n vc w' ((OW.turn ht (hIW.out.core_none (by rw [own_none HI.out (by omega)]; simp) (by rw [own_none HI.out (by omega)]; simp))).cell 0)) hhi (by omega) (by omega) (by omega) (by rw [HI.out.len]; omega) (Own.core_p p vo) hIW.out.core_row hIW.out.row hko (by have := hIW.out.fre; rw [hf] at this; exact this) hgp hgo hIW.out.blk).mono ?_
  rintro e w2 hA
  have OB := owns_later HO1.out B1W
  have hbsz := OW.lt
  have hA' : Reused (Own.core p vo) W p m.limit m.many m.used (HObj.vec l).size 4 k vo (.slice (some ⟨g, 0, none⟩) 0 cf) os (.iface 69 (.pointer (some ⟨w1.heap.size, 0, none⟩))) e w2 := by
    rw [show (HObj.vec l).size = n from HNL.out]; exact hA
  obtain ⟨S2, rfl, hH2, hT2, hN2⟩ := hIW.out.reused (w0 := w) (bs := w1.heap.size :: (Value.slice va n vc).ownBlock.toList) (o := .vec l) HOK.out hk hf (by rw [show (HObj.vec l).size = n from HNL.out]; exact hu) hA'
    (fun b hb => by
      simp only [List.mem_cons, Option.mem_toList] at hb
      rcases hb with rfl | hb
      · exact ⟨own_none HI.out (by omega), hbsz⟩
      · have := OB.lt b hb
        exact ⟨own_none HI.out (by simp at this; omega), this.2⟩)
    BW
    (fun b hb => by
      simp only [List.mem_cons, Option.mem_toList] at hb
      rcases hb with rfl | hb
      · omega
      · have := OB.lt b hb; simp at this; omega)
    ⟨w1.heap.size, .slice va n vc, rfl, by simp [Own.with], OW, owns_mono (by rw [HNL.out]; exact OB) (Nat.zero_le _), fun g hg => by simp [Own.with, hg]⟩
  have hx : w.heap.size ∉ w1.heap.size :: (Value.slice va n vc).ownBlock.toList := by
    simp only [List.mem_cons, Option.mem_toList, not_or]
    exact ⟨by omega, fun hb => by have := OB.lt _ hb; simp at this; omega⟩
  have R2 : Blk w2 (w.heap.size) 24 #[.int .i64 0, .int .i64 0] := RW.out.turn hA.turn (hIW.out.core_none (by rw [own_none HI.out (by omega)]; simp) (by rw [own_none HI.out (by omega)]; simp))
  have r0 : w2.cell? ⟨w.heap.size, 0, none⟩ = some (.int .i64 0) := R2.cell 0
  have r1 : w2.cell? ⟨w.heap.size, 1, none⟩ = some (.int .i64 0) := R2.cell 1
  have f0 := R2.frozen 0
  have f1 := R2.frozen 1
  have H2 := Lib.hid (And.intro hH2 (And.intro hT2 hN2))
  clear R2 hA hH2 hT2 hN2
  go_wp2
  obtain ⟨hH2, hT2, hN2⟩ := H2.out
  have hr : S2 (w.heap.size) = none := hN2 _ (Blk.lt RW.out) (own_none HI.out (by omega)) hx
  refine bodyPost_ret (v := .tuple #[.agg #[.int .i64 4, .int .i64 k], .int .i64 0]) (by simp [results, Tryd.results10, go_sem, r0, r1]) rfl ⟨S2, rfl, (hH2.res hr 0 _).res hr 1 _, ?_⟩
  exact (hT2.setCell_new (p := ⟨_, 0, none⟩) (by simp <;> omega) _).setCell_new (p := ⟨_, 1, none⟩) (by simp <;> omega) _
end Go.Proofs.YthmfiahmfdadgaaDoor
