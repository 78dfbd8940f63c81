/-
  HeapFull in plain words: its heap, what Collect and Vec leave of it. Conditions: none.
  The calls of package heap at a full heap, and Vec where a number is free, as calls of the second memory. Conditions: the heap lies there as HeapAt says.
-/
import Derived.Test.YthmfiahmfdadgaaDoorHs
import Derived.Test.YthmfiahmfdadgaaDoorReuse
import Derived.Test.YthmfiahmfdadgaaDoorKept
namespace Go.Proofs.YthmfiahmfdadgaaDoor
open Go.RowKit
set_option maxRecDepth 100000
/-- The heap behind i conses. -/
def hmF (n i : Nat) : HM := ⟨n, (List.range i).map fun j : Nat => some (.pair (0, (j : Int)) (1, 0)), []⟩
theorem hmF_succ (n i : Nat) : (hmF n i).push (.pair (0, (i : Int)) (1, 0)) = hmF n (i + 1) := by simp [HM.push, hmF, List.range_succ]
theorem hmF_len (n i : Nat) : (hmF n i).objs.length = i := by simp [hmF]
theorem hmF_get {n i j : Nat} (h : j < i) : (hmF n i).objs[j]? = some (some (.pair (0, (j : Int)) (1, 0))) := by simp [hmF, h]
theorem hmF_many (n i : Nat) : (hmF n i).many = i := by
  unfold HM.many
  rw [List.filter_eq_self.2]
  · exact hmF_len n i
  · intro a ha
    obtain ⟨j, _, rfl⟩ := List.mem_map.1 ha
    rfl
theorem find_atF {m : HM} {i : Nat} {a d : Wd} (h : m.objs[i]? = some (some (.pair a d))) : m.find (2, (i : Int)) = some (.pair a d) := by
  have h1 : ¬ (i : Int) < 0 := by omega
  simp [HM.find, h1, h, HObj.kind]
theorem hmF_find {n i j : Nat} (h : j < i) : (hmF n i).find (2, (j : Int)) = some (.pair (0, (j : Int)) (1, 0)) := find_atF (hmF_get h)
theorem hmF_at {n i : Nat} {x : Wd} {o : HObj} (h : (hmF n i).find x = some o) : x.1 = 2 ∧ 0 ≤ x.2 ∧ x.2.toNat < i ∧ o = .pair (0, ((x.2.toNat : Nat) : Int)) (1, 0) := by
  obtain ⟨h1, h2, h3⟩ := HM.find_mem h
  have hl := (List.getElem?_eq_some_iff.1 h2).1
  rw [hmF_len] at hl
  rw [hmF_get hl] at h2
  have ho : o = .pair (0, ((x.2.toNat : Nat) : Int)) (1, 0) := (Option.some.inj (Option.some.inj h2)).symm
  subst ho
  exact ⟨h3.symm, h1, hl, rfl⟩
def prF (n : Nat) : List Wd := (List.range n).map fun j : Nat => ((2 : Int), (j : Int))
theorem prF_length (n : Nat) : (prF n).length = n := by simp [prF]
theorem prF_at {n j : Nat} (h : j < n) : (prF n)[j]? = some (2, (j : Int)) := by simp [prF, h]
theorem prF_succ (n : Nat) : prF (n + 1) = prF n ++ [(2, (n : Int))] := by simp [prF, List.range_succ]
/-- All roots but one. -/
def rootsF (n k : Nat) : List Wd := (prF n).take k ++ (prF n).drop (k + 1)
theorem rootsF_mem {n k : Nat} {x : Wd} : x ∈ rootsF n k ↔ ∃ j : Nat, j < n ∧ j ≠ k ∧ x = (2, (j : Int)) := by
  unfold rootsF
  rw [List.mem_append, List.mem_take_iff_getElem, List.mem_drop_iff_getElem]
  constructor
  · rintro (⟨i, h1, h2⟩ | ⟨i, h1, h2⟩)
    · rw [prF_length] at h1
      have := prF_at (n := n) (j := i) (by omega)
      rw [List.getElem?_eq_getElem (by rw [prF_length]; omega), h2] at this
      exact ⟨i, by omega, by omega, Option.some.inj this⟩
    · rw [prF_length] at h1
      have := prF_at (n := n) (j := k + 1 + i) (by omega)
      rw [List.getElem?_eq_getElem (by rw [prF_length]; omega), h2] at this
      exact ⟨k + 1 + i, by omega, by omega, Option.some.inj this⟩
  · rintro ⟨j, h1, h2, rfl⟩
    have := prF_at h1
    rw [List.getElem?_eq_getElem (by rw [prF_length]; omega)] at this
    have := Option.some.inj this
    rcases Nat.lt_or_ge j k with h3 | h3
    · exact .inl ⟨j, by rw [prF_length]; omega, this⟩
    · refine .inr ⟨j - (k + 1), by rw [prF_length]; omega, ?_⟩
      rw [← this]
      congr 1
      omega
def mkF (n k : Nat) : List Bool := (List.range n).map fun i => decide (i ≠ k)
theorem mkF_at {n k i : Nat} (h : i < n) : (mkF n k)[i]? = some (decide (i ≠ k)) := by simp [mkF, h]
theorem reachF {n k i : Nat} : Reach (hmF n n) (rootsF n k) i ↔ i < n ∧ i ≠ k := by
  constructor
  · intro h
    have key : ∀ j, Reach (hmF n n) (rootsF n k) j → j < n ∧ j ≠ k := by
      intro j hj
      induction hj with
      | root x o hx h =>
        obtain ⟨j, h1, h2, rfl⟩ := rootsF_mem.1 hx
        simpa using ⟨h1, h2⟩
      | kid i o x o' hi ho hx h ih =>
        exfalso
        have h1 := (hmF_at h).1
        rw [hmF_get ih.1] at ho
        cases ho
        simp only [HObj.kids, List.mem_cons, List.not_mem_nil, or_false] at hx
        rcases hx with rfl | rfl <;> cases h1
    exact key i h
  · rintro ⟨h1, h2⟩
    have := Reach.root (m := hmF n n) (l := rootsF n k) (2, (i : Int)) _ (rootsF_mem.2 ⟨i, h1, h2, rfl⟩) (hmF_find h1)
    simpa using this
theorem marksF {n k : Nat} {M : List Bool} (h : Marks (hmF n n) (markL (hmF n n) (List.replicate (hmF n n).objs.length false, []) (rootsF n k)) M) : (hmF n n).Above M ∧ M = mkF n k := by
  obtain ⟨hl, hr⟩ := h.reach
  rw [hmF_len] at hl
  refine ⟨fun z _ x hx => (by cases hx), ?_⟩
  apply List.ext_getElem?
  intro i
  rcases Nat.lt_or_ge i n with hi | hi
  · rw [mkF_at hi]
    have h1 := hr i
    rw [reachF] at h1
    have h2 := List.getElem?_eq_getElem (l := M) (i := i) (by omega)
    rw [h2] at h1 ⊢
    congr 1
    by_cases hk : i = k
    · rw [decide_eq_false (by simpa using hk)]
      cases hM : M[i] with
      | false => rfl
      | true => exact absurd (h1.1 (by rw [hM])).2 (by simpa using hk)
    · rw [decide_eq_true hk]
      exact Option.some.inj (h1.2 ⟨hi, hk⟩)
  · rw [List.getElem?_eq_none (by omega), List.getElem?_eq_none (by simp [mkF]; omega)]
theorem goesF {n k i : Nat} (hi : i < n) : goes (hmF n n).objs (mkF n k) i = decide (i = k) := by
  unfold goes
  rw [hmF_get hi, mkF_at hi]
  by_cases h : i = k <;> simp [h]
theorem freeF {n k : Nat} : ∀ z, z ≤ n → sweptFree (hmF n n).objs (mkF n k) z = if k < z then [(k : Int)] else []
  | 0, _ => rfl
  | z + 1, h => by
    unfold sweptFree
    rw [goesF (by omega), freeF z (by omega)]
    by_cases hk : z = k
    · subst hk; simp
    · by_cases h2 : k < z
      · simp only [decide_eq_false hk, Bool.false_eq_true, if_false]
        rw [if_pos h2, if_pos (by omega)]
      · simp only [decide_eq_false hk, Bool.false_eq_true, if_false]
        rw [if_neg h2, if_neg (by omega)]
/-- What Collect leaves. -/
structure CutF (n k : Nat) (m2 : HM) : Prop where
  is : (hmF n n).swept (mkF n k) = m2
  gone : (hmF n n).gone (mkF n k) = 1
  limit : m2.limit = n
  free : m2.free = [(k : Int)]
  hole : m2.objs[k]? = some none
  many : m2.many = n - 1
  find : ∀ j, j < n → j ≠ k → m2.find (2, (j : Int)) = some (.pair (0, (j : Int)) (1, 0))
theorem cutF {n k : Nat} (hk : k < n) : ∃ m2, CutF n k m2 := by
  have hlen : (mkF n k).length = (hmF n n).objs.length := by rw [hmF_len]; simp [mkF]
  have hg : (hmF n n).gone (mkF n k) = 1 := by
    unfold HM.gone
    rw [hmF_len, freeF n (Nat.le_refl _), if_pos hk]
    rfl
  refine ⟨_, rfl, hg, rfl, ?_, ?_, ?_, fun j hj hjk => ?_⟩
  · show (hmF n n).free ++ sweptFree (hmF n n).objs (mkF n k) (hmF n n).objs.length = _
    rw [hmF_len, freeF n (Nat.le_refl _), if_pos hk]
    rfl
  · rw [HM.swept_get _ _ hlen k (by rw [hmF_len]; exact hk), mkF_at hk]
    simp
  · have := HM.many_swept (hmF n n) (mkF n k)
    rw [hg, hmF_many] at this
    omega
  · rw [HM.find_swept _ _ hlen]
    have e : (mkF n k)[((2, (j : Int)) : Wd).2.toNat]? = some true := by
      show (mkF n k)[((j : Nat) : Int).toNat]? = _
      rw [Int.toNat_natCast, mkF_at hj, decide_eq_true hjk]
    rw [if_pos e]
    exact hmF_find hj
/-- What Vec leaves behind Collect. -/
theorem takeF {n k : Nat} {m2 : HM} (C : CutF n k m2) (hk : k < n) : (m2.take k (.vec [])).many = n ∧ ∀ j, j < n → j ≠ k → (m2.take k (.vec [])).find (2, (j : Int)) = some (.pair (0, (j : Int)) (1, 0)) := by
  refine ⟨?_, fun j hj hjk => ?_⟩
  · show ((m2.objs.set k (some (.vec []))).filter Option.isSome).length = n
    rw [many_fill C.hole]
    have : (m2.objs.filter Option.isSome).length = n - 1 := C.many
    omega
  · refine find_atF ?_
    show (m2.objs.set k (some (.vec [])))[j]? = _
    rw [List.getElem?_set_ne (by omega)]
    have := (HM.find_mem (C.find j hj hjk)).2.1
    simpa using this
end Go.Proofs.YthmfiahmfdadgaaDoor
namespace Go.Proofs.YthmfiahmfdadgaaDoor
open Go.RowKit
set_option maxRecDepth 100000
section
variable {G : Nat} {σ : Mem} {h : Nat} {m : HM}
/-- Arguments behind a heap's pointer, one that is open. -/
theorem args_open {μ : Mu} {h : Nat} {bi : BI} {v : Value} {cargs : Array Value} (hm : μ h = some bi) (hsh : bi.sh = 0) (har : ARel μ #[.pointer (some ⟨h, 0, none⟩), v] cargs) : ∃ u, cargs = #[.pointer (some ⟨bi.blk, 0, none⟩), u] ∧ VRel μ v u := by
  have hsz : cargs.size = 2 := har.1.symm
  have e0 := har.2 0 (.pointer (some ⟨h, 0, none⟩)) cargs[0] rfl (by simp [hsz])
  have e1 := har.2 1 v cargs[1] rfl (by simp [hsz])
  obtain ⟨ci, k1, k2⟩ := e0.ptr_inv
  rw [hm] at k1
  cases k1
  rw [hsh] at k2
  refine ⟨cargs[1], ?_, e1⟩
  apply Array.ext
  · simp [hsz]
  · intro i k3 k4
    match i, k3, k4 with
    | 0, _, _ => simpa using k2
    | 1, _, _ => rfl
    | i + 2, _, k4 => exact absurd k4 (by simp)
theorem s_consFull (a d : Wd) (ha : σ.abs = heapAbs h m) (hm : m.many = m.limit) : SCall G Tryd.prog 12 #[.pointer (some ⟨h, 0, none⟩), wdV a, wdV d] σ (.tuple #[wdV (0, 0), .int .i64 7]) σ :=
  heap_read (l := [wdV a, wdV d]) ha rfl rfl fun w p S hH => cons_full S p m a d w hH hm
theorem s_made (ha : σ.abs = heapAbs h m) (hm : 0 < m.limit) : SCall G Tryd.prog 36 #[.pointer (some ⟨h, 0, none⟩)] σ (.bool true) σ :=
  heap_read (l := []) ha rfl rfl fun w p S hH => by
    obtain ⟨_, vo, vf, os, hI⟩ := hH
    exact (made_yes p m.limit w hm (hI.blk.cell 0)).mono fun e w' ⟨k1, k2⟩ => ⟨k1, k2 ▸ Below.refl _ _⟩
theorem s_addFull (V : Value) (ha : σ.abs = heapAbs h m) (hm : m.many = m.limit) : SCall G Tryd.prog 37 #[.pointer (some ⟨h, 0, none⟩), V] σ (.tuple #[wdV (0, 0), .int .i64 7]) σ := by
  have := heap_call (G := G) (P := Tryd.prog) (f := 37) (args := #[.pointer (some ⟨h, 0, none⟩), V]) (v := (.tuple #[wdV (0, 0), .int .i64 7])) (m' := m) ha rfl fun μ w cargs bi S _ har h1 h2 h3 _ => by
    obtain ⟨u, rfl, _⟩ := args_open h1 h2 har
    obtain ⟨hok, vo, vf, os, hI⟩ := id h3
    have hB := hI.blk
    rw [hm] at hB
    exact (add_full bi.blk m.limit m.used u vo vf w hB).mono fun e w' ⟨he, hb⟩ => ⟨S, he, h3.below hb, .of_below hb⟩
  rwa [with_same ha] at this
theorem s_vecF {k : Nat} (ha : σ.abs = heapAbs h m) (hm : m.many < m.limit) (hf : m.free = [(k : Int)]) (hk : m.objs[k]? = some none) :
    SCall G Tryd.prog 10 #[.pointer (some ⟨h, 0, none⟩), .slice none 0 0] σ (.tuple #[wdV (4, (k : Int)), .int .i64 0]) (σ.with (heapAbs h (m.take k (.vec [])))) :=
  heap_call ha rfl fun μ w cargs bi S _ har h1 h2 h3 _ => by
    have : cargs = _ := args_heap (l := [.slice none 0 0]) h1 h2 rfl har
    subst this
    have hu := h3.1.used
    exact vec_reuse S bi.blk m none 0 0 [] w h3 (by decide) ⟨rfl, fun h => absurd h (by decide)⟩ hm hf hk (by omega)
theorem s_textFull (hR : RowsAt rowsU σ) (h16 : 16 ≤ G) (ha : σ.abs = heapAbs h m) (hm : m.many = m.limit) : SCall G Tryd.prog 11 #[.pointer (some ⟨h, 0, none⟩), .string ByteArray.empty] σ (.tuple #[wdV (0, 0), .int .i64 7]) σ := by
  have := heap_call (G := G) (P := Tryd.prog) (f := 11) (args := #[.pointer (some ⟨h, 0, none⟩), .string ByteArray.empty]) (v := (.tuple #[wdV (0, 0), .int .i64 7])) (m' := m) ha rfl fun μ w cargs bi S hs har h1 h2 h3 hav => by
    have hT : Tabs w := tabs_of_rows (rows_lie hs (fun g cs hm => Nat.lt_of_lt_of_le (rowsU_low g cs hm) h16) (fun g cs hm => Nat.lt_of_lt_of_le (rowsU_low g cs hm) (by decide)) rowsU_flat hR)
    have hout : ∀ g cs, (g, cs) ∈ rowsU → S g = none := fun g cs hm => by
      obtain ⟨t, gg, ht⟩ := hR g cs hm
      obtain ⟨ci, hb, e12⟩ := hs.glob g (Nat.lt_of_lt_of_le (rowsU_low g cs hm) h16)
      have := hav g _ ci ht hb
      rwa [(e12 (Nat.lt_of_lt_of_le (rowsU_low g cs hm) (by decide))).1] at this
    have hTS : TabsOut S := ⟨hout _ firstL (by simp [rowsU]), hout _ accL (by simp [rowsU])⟩
    have : cargs = _ := args_heap (l := [.string ByteArray.empty]) h1 h2 rfl har
    subst this
    exact (text_full S bi.blk m ByteArray.empty w h3 (by decide) hT hTS (by decide) (by decide) hm).mono fun e w' ⟨he, hb⟩ => ⟨S, he, h3.below hb, .of_below hb⟩
  rwa [with_same ha] at this
end
end Go.Proofs.YthmfiahmfdadgaaDoor
