/-
  Package heap over a heap in memory: what each look-up and each change gives, said of the plain heap. Conditions: the heap lies as HeapAt says.
-/
import Derived.Test.YthemeeiedlbhkaaGreatDoorG1
import Derived.Test.YthemeeiedlbhkaaGreatDoorVec
import Derived.Test.YthemeeiedlbhkaaGreatDoorPush
namespace Go.Proofs.YthemeeiedlbhkaaGreatDoor
open Go.RowKit
set_option maxRecDepth 100000

def HM.find (m : HM) (x : Wd) : Option HObj :=
  if x.2 < 0 then none else match m.objs[x.2.toNat]? with
    | some (some o) => if o.kind = x.1 then some o else none
    | _ => none
theorem HeapIn.vo_form {w : World} {S : Own} {p : Nat} {m : HM} {vo vf : Value} {os : List Value} (h : HeapIn w S p m vo vf os) : ∃ A c, vo = .slice A os.length c ∧ ∀ i v, os[i]? = some v → ∃ g, A = some ⟨g, 0, none⟩ ∧ w.cell? ⟨g, i, none⟩ = some v := by
  rcases h.row.2 with ⟨h1, h2⟩ | ⟨g, cap, cur, h1, _⟩
  · refine ⟨none, 0, by rw [h1, h2], fun i v hv => ?_⟩
    have := (List.getElem?_eq_some_iff.1 hv).1
    omega
  · refine ⟨some ⟨g, 0, none⟩, cap, h1, fun i v hv => ⟨g, rfl, ?_⟩⟩
    have := h.row.cells (g := g) (by rw [h1]; rfl) i v hv
    have hadd : (⟨g, 0, none⟩ : Addr).add i = ⟨g, i, none⟩ := by unfold Addr.add; split <;> simp_all
    rwa [hadd] at this

def hp (p : Nat) : Value := .pointer (some ⟨p, 0, none⟩)

theorem HeapAt.c0 {w : World} {S : Own} {p : Nat} {m : HM} (hH : HeapAt w S p m) : 0 < m.limit ∧ w.cell? ⟨p, 0, none⟩ = some (.int .i64 m.limit) := by
  obtain ⟨hok, vo, vf, os, hI⟩ := hH
  exact ⟨hok.lo, hI.blk.cell 0⟩
theorem RowOf.reads {w : World} {S : Own} {k : Nat} {e : TypeId} {size : Nat} {v : Value} {n : Nat} {xs : List Value} (h : RowOf w S k e size v n xs) : ∃ A c, v = .slice A n c ∧ Reads w w.heap.size size A n xs := by
  rcases h.1.2 with ⟨h1, h2⟩ | ⟨g, cap, cur, h1, _⟩
  · subst h1; subst h2
    exact ⟨none, 0, rfl, Reads.of_own h.1⟩
  · subst h1
    exact ⟨_, _, rfl, Reads.of_own h.1⟩
def HM.at (m : HM) (x : Wd) (i : Int) : Wd × Int := match m.find x with
  | some (.vec l) => if i < 0 then ((0, 0), 3) else match l[i.toNat]? with
    | some y => (y, 0)
    | none => ((0, 0), 3)
  | _ => ((0, 0), 6)
theorem HM.find_mem {m : HM} {x : Wd} {o : HObj} (h : m.find x = some o) : 0 ≤ x.2 ∧ m.objs[x.2.toNat]? = some (some o) ∧ o.kind = x.1 := by
  unfold HM.find at h
  split at h
  · cases h
  · split at h
    · rename_i ho
      split at h
      · cases h; exact ⟨by omega, ho, ‹_›⟩
      · cases h
    · cases h
theorem RowOf.row {w : World} {S : Own} {k : Nat} {e : TypeId} {size : Nat} {v : Value} {n : Nat} {xs : List Value} (h : RowOf w S k e size v n xs) (hn : 0 < n) : ∃ g c cur, v = .slice (some ⟨g, 0, none⟩) n c ∧ S g = some k ∧ n ≤ c ∧ Blk w g e cur ∧ cur.size = c * size ∧ cur.toList.take (n * size) = xs := by
  rcases h.1.2 with ⟨_, h2⟩ | ⟨g, cap, cur, h1, _, h3, h4, _, h5, h6⟩
  · omega
  · exact ⟨g, cap, cur, h1, h.2 g (by rw [h1]; rfl), h4, h3, h5, h6⟩
theorem HeapAt.ok {w : World} {S : Own} {p : Nat} {m : HM} (h : HeapAt w S p m) : m.Ok := h.1
def HM.put (m : HM) (i : Nat) (o : HObj) : HM := { m with objs := m.objs.set i (some o) }
theorem filter_set (l : List (Option HObj)) (i : Nat) (o o' : HObj) (h : l[i]? = some (some o)) : ((l.set i (some o')).filter Option.isSome).length = (l.filter Option.isSome).length := by
  induction l generalizing i with
  | nil => simp at h
  | cons a l ih =>
    cases i with
    | zero => simp at h; subst h; simp
    | succ i => simp at h; simp only [List.set_cons_succ, List.filter_cons]; split <;> simp [ih i h]
theorem sum_set (l : List (Option HObj)) (i : Nat) (o o' : HObj) (h : l[i]? = some (some o)) (hs : o'.size = o.size) : ((l.set i (some o')).map optSize).sum = (l.map optSize).sum := by
  induction l generalizing i with
  | nil => simp at h
  | cons a l ih =>
    cases i with
    | zero => simp at h; subst h; simp [optSize, hs]
    | succ i => simp at h; have := ih i h; simp only [List.set_cons_succ, List.map_cons, List.sum_cons, this]
theorem HM.many_put {m : HM} {i : Nat} {o o' : HObj} (h : m.objs[i]? = some (some o)) : (m.put i o').many = m.many := filter_set _ _ _ _ h
theorem HM.used_put {m : HM} {i : Nat} {o o' : HObj} (h : m.objs[i]? = some (some o)) (hs : o'.size = o.size) : (m.put i o').used = m.used := sum_set _ _ _ _ h hs
theorem HM.Ok.put {m : HM} (hok : m.Ok) {i : Nat} {o o' : HObj} (h : m.objs[i]? = some (some o)) (hs : o'.size = o.size) : (m.put i o').Ok where
  lo := hok.lo
  hi := hok.hi
  len := by simpa [HM.put] using hok.len
  used := by rw [HM.used_put h hs]; exact hok.used
  free := by rw [HM.many_put h]; simpa [HM.put] using hok.free
theorem HeapIn.put {w w' : World} {S : Own} {p : Nat} {m : HM} {vo vf : Value} {os : List Value} (h : HeapIn w S p m vo vf os) {i b : Nat} {v : Value} {o o' : HObj} (hi : m.objs[i]? = some (some o)) (hs : o'.size = o.size) (hg : w.grownBy w' (some b)) (hb : S b = some (i + 3)) (hv : os[i]? = some v) (hobj : ObjAt w' S (i + 3) v o') : HeapIn w' S p (m.put i o') vo vf os := by
  have hst : ∀ c, S c ≠ none → S c ≠ some (i + 3) → w'.heap[c]? = w.heap[c]? := fun c h1 h2 => hg.block c (h.lt c h1) (fun e => h2 (by cases e; exact hb))
  exact {
    blk := by
      rw [HM.many_put hi, HM.used_put hi hs]
      exact h.blk.keep (hst p (by rw [h.own]; simp) (by rw [h.own]; simp))
    own := h.own
    row := owns_keep h.row fun g hg => hst g (by rw [h.rowOwn g hg]; simp) (by rw [h.rowOwn g hg]; simp)
    rowOwn := h.rowOwn
    len := by simpa [HM.put] using h.len
    objs := fun k u q h1 h2 => by
      by_cases e : k = i
      · subst e
        have hq : q = some o' := by
          have hlt := (List.getElem?_eq_some_iff.1 hi).1
          simpa [HM.put, hlt] using h2.symm
        subst hq
        rw [hv] at h1; cases h1
        exact hobj
      · have h2' : m.objs[k]? = some q := by simpa [HM.put, List.getElem?_set_ne (Ne.symm e)] using h2
        exact (h.objs k u q h1 h2').keep fun c hc => ⟨hst c (by rw [hc]; simp) (by rw [hc]; simp; omega), hc⟩
    fre := owns_keep h.fre fun g hg => hst g (by rw [h.freOwn g hg]; simp) (by rw [h.freOwn g hg]; simp)
    freOwn := h.freOwn
    lt := fun c hc => Nat.lt_of_lt_of_le (h.lt c hc) hg.size }
theorem finds_yes {w : World} {S : Own} {p : Nat} {m : HM} {vo vf : Value} {os : List Value} (hok : m.Ok) (hI : HeapIn w S p m vo vf os) {x : Wd} {o : HObj} (he : m.find x = some o) :
    ∃ V, os[x.2.toNat]? = some V ∧ ObjAt w S (x.2.toNat + 3) V o ∧ Finds w p x V := by
  obtain ⟨h1, ho, hk⟩ := HM.find_mem he
  have h0 : 0 < m.limit := hok.lo
  have c0 : ∀ w', Below w.heap.size w w' → w'.cell? ⟨p, 0, none⟩ = some (.int .i64 m.limit) := fun w' hb => (hI.blk.below hb).cell 0
  have c3 : ∀ w', Below w.heap.size w w' → w'.cell? ⟨p, 3, none⟩ = some vo := fun w' hb => (hI.blk.below hb).cell 3
  obtain ⟨A, c, rfl, hA⟩ := hI.vo_form
  have hi : x.2 = (x.2.toNat : Int) := by omega
  have hl : x.2.toNat < os.length := by rw [hI.len]; exact (List.getElem?_eq_some_iff.1 ho).1
  have hv : os[x.2.toNat]? = some os[x.2.toNat] := List.getElem?_eq_getElem hl
  obtain ⟨g, rfl, hg⟩ := hA _ _ hv
  have hc := hI.objs _ _ _ hv ho
  generalize os[x.2.toNat] = v at hv hg hc
  refine ⟨v, hv, hc, fun w' hb => ?_⟩
  cases o with
  | pair a d => obtain ⟨b, rfl, _⟩ := hc; exact find_pair p m.limit os.length g c x b w' h0 (c0 w' hb) (c3 w' hb) _ hi hl (cell_later hb hg) hk.symm
  | text s => obtain ⟨b, rfl, _⟩ := hc; exact find_text p m.limit os.length g c x b w' h0 (c0 w' hb) (c3 w' hb) _ hi hl (cell_later hb hg) hk.symm
  | vec l => obtain ⟨b, r, rfl, _⟩ := hc; exact find_vector p m.limit os.length g c x b w' h0 (c0 w' hb) (c3 w' hb) _ hi hl (cell_later hb hg) hk.symm
  | code a1 a2 a3 bs cs => exact hc.elim
theorem HeapAt.object {w : World} {S : Own} {p : Nat} {m : HM} (h : HeapAt w S p m) {x : Wd} {o : HObj} (he : m.find x = some o) :
    ∃ V, Finds w p x V ∧ ObjAt w S (x.2.toNat + 3) V o ∧ ∀ (w' : World) (b : Nat) (o' : HObj), o'.size = o.size → w.grownBy w' (some b) → S b = some (x.2.toNat + 3) → ObjAt w' S (x.2.toNat + 3) V o' → HeapAt w' S p (m.put x.2.toNat o') := by
  obtain ⟨hok, vo, vf, os, hI⟩ := h
  obtain ⟨V, h1, h2, h3⟩ := finds_yes hok hI he
  have ho := (HM.find_mem he).2.1
  exact ⟨V, h3, h2, fun w' b o' hs hg hb hobj => ⟨hok.put ho hs, vo, vf, os, hI.put ho hs hg hb h1 hobj⟩⟩
end Go.Proofs.YthemeeiedlbhkaaGreatDoor
