/-
  A heap beside the rows of the second memory: the contracts of package heap as calls of the second memory. Conditions: the heap lies there as HeapAt says.
-/
import Derived.Test.YtaaebeiigkhcjaaGreatDoorS3
import Derived.Test.YtaaebeiigkhcjaaGreatDoorRowsU
import Derived.Test.YtaaebeiigkhcjaaGreatDoorCnt
import Derived.Test.YtaaebeiigkhcjaaGreatDoorWq
namespace Go.Proofs.YtaaebeiigkhcjaaGreatDoor
open Go.RowKit
set_option maxRecDepth 100000

def Mem.with (σ : Mem) (a : Abs) : Mem := ⟨σ.raw, σ.next, a⟩
theorem with_same {σ : Mem} {a : Abs} (h : σ.abs = a) : σ.with a = σ := by cases σ; cases h; rfl
def heapAbs (h : Nat) (m : HM) : Abs where
  holds := fun μ w => ∃ bi S, μ h = some bi ∧ bi.sh = 0 ∧ HeapAt w S bi.blk m ∧ ∀ B, μ.own B ↔ S B ≠ none
  ext := fun he ho ⟨bi, S, h1, h2, h3, h4⟩ => ⟨bi, S, he _ _ h1, h2, h3, by rw [ho]; exact h4⟩
  keep := fun hs hk ⟨bi, S, h1, h2, h3, h4⟩ => ⟨bi, S, h1, h2, h3.keep hs fun b hb => hk b ((h4 b).2 hb), h4⟩
  lt := fun ⟨_, _, _, _, h3, h4⟩ B hB => h3.lt B ((h4 B).1 hB)
section
variable {P : Program} {G : Nat}
theorem args_heap {μ : Mu} {h : Nat} {bi : BI} {l : List Value} {cargs : Array Value} (hm : μ h = some bi) (hsh : bi.sh = 0) (hl : l.all (closedV 3) = true) (ha : ARel μ (Value.pointer (some ⟨h, 0, none⟩) :: l).toArray cargs) : cargs = (Value.pointer (some ⟨bi.blk, 0, none⟩) :: l).toArray := by
  apply Array.ext'
  apply List.ext_getElem?
  intro i
  have hsz := ha.1
  simp only [List.size_toArray, List.length_cons] at hsz
  cases i with
  | zero =>
    have h0 : 0 < cargs.size := by omega
    have := ha.2 0 (Value.pointer (some ⟨h, 0, none⟩)) cargs[0] (by simp) (by simp [h0])
    obtain ⟨ci, h1, h2⟩ := this.ptr_inv
    rw [hm] at h1
    cases h1
    rw [hsh] at h2
    simp [h0, h2]
  | succ i =>
    rcases Nat.lt_or_ge i l.length with hi | hi
    · have hi' : i + 1 < cargs.size := by omega
      have := ha.2 (i + 1) l[i] cargs[i + 1] (by simp [hi]) (by simp [hi'])
      have e := closedV_eq 3 _ _ (List.all_eq_true.1 hl _ (List.getElem_mem hi)) this
      simp [hi, hi', e]
    · have hi' : cargs.size ≤ i + 1 := by omega
      rw [List.getElem?_eq_none (by simpa using hi'), List.getElem?_eq_none (by simpa using hi)]
theorem heap_call {f : FuncId} {args : Array Value} {v : Value} {σ : Mem} {h : Nat} {m m' : HM} (ha : σ.abs = heapAbs h m) (hv : closedV 3 v = true)
    (hc : ∀ μ w cargs (bi : BI) S, Sim G μ σ w → ARel μ args cargs → μ h = some bi → bi.sh = 0 → HeapAt w S bi.blk m → (∀ b x ci, σ.get b = some x → μ b = some ci → S ci.blk = none) → Calls P f cargs w fun e w' => ∃ S', e = .returned v ∧ HeapAt w' S' bi.blk m' ∧ Turn S w w' S') :
    SCall G P f args σ v (σ.with (heapAbs h m')) := by
  refine ⟨Nat.le_refl _, fun μ w cargs hs hG _ har => ?_⟩
  have h0 := hs.abs.1
  rw [ha] at h0
  obtain ⟨bi, S, h1, h2, h3, h4⟩ := h0
  have hav : ∀ b x ci, σ.get b = some x → μ b = some ci → S ci.blk = none := fun b x ci hx hm => by
    cases e : S ci.blk with
    | none => rfl
    | some k => exact absurd ((h4 _).2 (by rw [e]; simp)) (hs.abs.2 b x ci hx hm)
  refine (hc μ w cargs bi S hs har h1 h2 h3 hav).mono ?_
  rintro e w' ⟨S', rfl, hH, hT⟩
  have hold : ∀ B, B < w.heap.size → S' B ≠ none → S B ≠ none := fun B hB h5 h6 => h5 (hT.new B hB h6)
  refine ⟨v, ⟨μ.at_, fun B => S' B ≠ none⟩, rfl, ⟨Nat.le_refl _, fun b g1 g2 => absurd g1 (by have : b < σ.next := g2; omega), fun _ _ => rfl, ⟨hs.glob, fun b x ci hx hm => ?_, hs.inj, hs.rw_, ⟨bi, S', h1, h2, hH, fun B => Iff.rfl⟩, fun b x ci hx hm hB => ?_⟩, hT.size, hT.os, hT.tape, hT.output, fun b x ci hb hx _ => ?_, fun b x _ hx => ⟨x, hx⟩, hG, fun B hB => ?_, fun B hB hn _ => ?_⟩, closedV_rel _ 3 v hv⟩
  · have k := hs.blk b x ci hx hm
    exact k.keep (hT.block _ k.lt (hav b x ci hx hm)) fun _ _ h => h
  · exact hold _ (hs.blk b x ci hx hm).lt hB (hav b x ci hx hm)
  · have : b < σ.next := Mem.lt hx
    omega
  · rcases Nat.lt_or_ge B w.heap.size with h5 | h5
    · exact .inl ((h4 B).2 (hold B h5 hB))
    · exact .inr h5
  · refine hT.block B hB ?_
    cases e : S B with
    | none => rfl
    | some k => exact absurd ((h4 B).2 (by rw [e]; simp)) hn
theorem heap_read {f : FuncId} {l : List Value} {v : Value} {σ : Mem} {h : Nat} {m : HM} (ha : σ.abs = heapAbs h m) (hl : l.all (closedV 3) = true) (hv : closedV 3 v = true)
    (hc : ∀ w p S, HeapAt w S p m → Calls P f (Value.pointer (some ⟨p, 0, none⟩) :: l).toArray w fun e w' => e = .returned v ∧ Below w.heap.size w w') :
    SCall G P f (Value.pointer (some ⟨h, 0, none⟩) :: l).toArray σ v σ := by
  have := heap_call (G := G) (P := P) (f := f) (args := (Value.pointer (some ⟨h, 0, none⟩) :: l).toArray) (v := v) (m' := m) ha hv fun μ w cargs bi S _ har h1 h2 h3 _ => by
    rw [args_heap h1 h2 hl har]
    exact (hc w bi.blk S h3).mono fun e w' ⟨he, hb⟩ => ⟨S, he, h3.below hb, .of_below hb⟩
  rwa [with_same ha] at this
theorem below_call {f : FuncId} {args : Array Value} {v : Value} {σ : Mem} (hl : args.toList.all (closedV 3) = true) (hv : closedV 3 v = true)
    (hc : ∀ w, Calls P f args w fun e w' => e = .returned v ∧ Below w.heap.size w w') : SCall G P f args σ v σ := by
  refine ⟨Nat.le_refl _, fun μ w cargs hs hGn _ har => ?_⟩
  have hz : cargs = args := by
    apply Array.ext
    · exact har.1.symm
    · intro i h1 h2
      exact closedV_eq 3 _ _ (List.all_eq_true.1 hl _ (by simp)) (har.2 i args[i] cargs[i] (by simp [h2]) (by simp [h1]))
  subst hz
  refine (hc w).mono ?_
  rintro e w' ⟨rfl, hb⟩
  have own2 := OwnOk.same (G := G) (σ := σ) (μ := μ) (w := w) (w' := w') (σ' := σ) rfl (Ext.refl μ) rfl hb.size (fun B hB _ => hb.block B hB) fun c z ci hz hc => .inr ⟨c, z, ci, hz, hc, rfl⟩
  exact ⟨v, μ, rfl, ⟨Nat.le_refl _, fun b h1 h2 => absurd h1 (by omega), fun _ _ => rfl, ⟨hs.glob, fun b x bi hx hm => (hs.blk b x bi hx hm).keep (hb.block _ (hs.blk b x bi hx hm).lt) (Ext.refl _), hs.inj, hs.rw_, own2 hs.abs⟩, hb.size, hb.os, hb.tape, hb.output, fun b x bi hb' hx _ => absurd (Mem.lt hx) (by omega), fun _ x _ h => ⟨x, h⟩, hGn, own_id, fun B hB _ _ => hb.block B hB⟩, closedV_rel _ 3 v hv⟩
end
section
variable {G : Nat} {σ : Mem}
def Mem.made (σ : Mem) (n : Nat) : Mem := ⟨fun b => if b = σ.next then none else σ.raw b, σ.next + 1, heapAbs σ.next ⟨n, [], []⟩⟩
theorem made_get (σ : Mem) (n b : Nat) : (σ.made n).get b = σ.get b := by
  unfold Mem.get Mem.made
  by_cases h : b = σ.next
  · simp [h]
  · have : b < σ.next + 1 ↔ b < σ.next := by omega
    simp [h, this]
theorem s_new (n : Nat) (h1 : 1 ≤ n) (h2 : n ≤ 65536) (ha : σ.abs = Abs.no) : SCall G Tryz.prog 36 #[.int .i64 n] σ (.tuple #[.pointer (some ⟨σ.next, 0, none⟩), .int .i64 0]) (σ.made n) := by
  refine ⟨Nat.le_succ _, fun μ w cargs hs hG hf har => ?_⟩
  have hz : cargs = #[.int .i64 n] := by
    apply Array.ext
    · exact har.1.symm
    · intro i k1 k2
      simp at k2
      subst k2
      exact closedV_eq 3 _ _ rfl (har.2 0 (.int .i64 n) cargs[0] rfl (by simp [k1]))
  subst hz
  have hno : ∀ B, ¬ μ.own B := by have := hs.abs.1; rw [ha] at this; exact this
  have hn : μ σ.next = none := hf _ (Nat.le_refl _) (Nat.lt_succ_self _)
  refine (new_heap n w h1 h2).mono ?_
  rintro e w' ⟨rfl, hL0, hLb⟩
  have hLo : ∀ b, b < w.heap.size → Own.one w.heap.size b = none := fun b hb => by simp [Own.one]; omega
  have key : ∀ b, b ≠ σ.next → (⟨fun c => if c = σ.next then some ⟨w.heap.size, 0, 0, 0, 1⟩ else μ c, fun B => Own.one w.heap.size B ≠ none⟩ : Mu) b = μ b := fun b hb => if_neg hb
  have hne : ∀ b x, (σ.made n).get b = some x → b ≠ σ.next ∧ σ.get b = some x := fun b x hx => by
    rw [made_get] at hx
    have := Mem.lt hx
    exact ⟨by omega, hx⟩
  have hext : Ext μ ⟨fun c => if c = σ.next then some ⟨w.heap.size, 0, 0, 0, 1⟩ else μ c, fun B => Own.one w.heap.size B ≠ none⟩ := fun b bi h => by
    have : b ≠ σ.next := fun e => by rw [e, hn] at h; cases h
    rw [key b this]; exact h
  refine ⟨_, ⟨fun c => if c = σ.next then some ⟨w.heap.size, 0, 0, 0, 1⟩ else μ c, fun B => Own.one w.heap.size B ≠ none⟩, rfl, ⟨Nat.le_succ _, fun b g1 g2 => ?_, fun b hb => key b ?_, ⟨fun g hg => ?_, fun b x ci hx hm => ?_, fun b b' x x' ci ci' hx hx' hm hm' e hor => ?_, fun b x ci hG' hx hm => ?_, ⟨_, Own.one w.heap.size, if_pos rfl, rfl, hL0, fun B => Iff.rfl⟩, fun b x ci hx hm hB => ?_⟩, hLb.size, hLb.os, hLb.tape, hLb.output, fun b x ci hb hx _ => ?_, fun b x hb hx => ⟨x, (hne b x hx).2⟩, hG, fun B hB => ?_, fun B hB _ _ => hLb.block B hB⟩, ?_⟩
  · have g2 : b < σ.next + 1 := g2
    have : b = σ.next := by omega
    rw [this]; exact hn
  · rcases hb with hb | hb
    · omega
    · have hb : σ.next + 1 ≤ b := hb
      omega
  · obtain ⟨bi, k1, k2⟩ := hs.glob g hg
    exact ⟨bi, hext _ _ k1, k2⟩
  · obtain ⟨k1, k2⟩ := hne b x hx
    rw [key b k1] at hm
    have k := hs.blk b x ci k2 hm
    exact k.keep (hLb.block _ k.lt) hext
  · obtain ⟨k1, k2⟩ := hne b x hx
    obtain ⟨k3, k4⟩ := hne b' x' hx'
    rw [key b k1] at hm
    rw [key b' k3] at hm'
    exact hs.inj b b' x x' ci ci' k2 k4 hm hm' e hor
  · obtain ⟨k1, k2⟩ := hne b x hx
    rw [key b k1] at hm
    exact hs.rw_ b x ci hG' k2 hm
  · obtain ⟨k1, k2⟩ := hne b x hx
    rw [key b k1] at hm
    exact hB (hLo _ (hs.blk b x ci k2 hm).lt)
  · have := Mem.lt (hne b x hx).2
    omega
  · refine .inr ?_
    rcases Nat.lt_or_ge B w.heap.size with h | h
    · exact absurd (hLo B h) hB
    · exact h
  · refine .tuple _ _ rfl fun i v v' k1 k2 => ?_
    match i, k1, k2 with
    | 0, k1, k2 =>
      cases k1
      cases k2
      exact .ptr _ 0 ⟨w.heap.size, 0, 0, 0, 1⟩ (if_pos rfl)
    | 1, k1, k2 =>
      cases k1
      cases k2
      exact .flat _ rfl
    | i + 2, k1, _ => simp at k1
variable {h : Nat} {m : HM}
theorem s_cons (a d : Wd) (ha : σ.abs = heapAbs h m) (hm : m.many < m.limit) (hf : m.free = []) :
    SCall G Tryz.prog 14 #[.pointer (some ⟨h, 0, none⟩), .agg #[.int .i64 a.1, .int .i64 a.2], .agg #[.int .i64 d.1, .int .i64 d.2]] σ (.tuple #[.agg #[.int .i64 2, .int .i64 m.objs.length], .int .i64 0]) (σ.with (heapAbs h (m.push (.pair a d)))) :=
  heap_call ha rfl fun μ w cargs bi S _ har h1 h2 h3 _ => by
    have : cargs = _ := args_heap (l := [.agg #[.int .i64 a.1, .int .i64 a.2], .agg #[.int .i64 d.1, .int .i64 d.2]]) h1 h2 rfl har
    rw [this]
    exact cons_new S bi.blk m a d w h3 hm hf
theorem s_car (x : Wd) (ha : σ.abs = heapAbs h m) : SCall G Tryz.prog 81 #[.pointer (some ⟨h, 0, none⟩), wdV x] σ (.tuple #[wdV (m.car x).1, .int .i64 (m.car x).2]) σ :=
  heap_read (l := [wdV x]) ha rfl rfl fun w p S hH => car_heap S p m x w hH
theorem s_cdr (x : Wd) (ha : σ.abs = heapAbs h m) : SCall G Tryz.prog 82 #[.pointer (some ⟨h, 0, none⟩), wdV x] σ (.tuple #[wdV (m.cdr x).1, .int .i64 (m.cdr x).2]) σ :=
  heap_read (l := [wdV x]) ha rfl rfl fun w p S hH => cdr_heap S p m x w hH
theorem s_live (n : Int) (ha : σ.abs = heapAbs h m) : SCall G Tryz.prog 100 #[.pointer (some ⟨h, 0, none⟩), wdV (2, n)] σ (.bool (m.find (2, n)).isSome) σ :=
  heap_read (l := [wdV (2, n)]) ha rfl rfl fun w p S hH => live_cons S p m n w hH
theorem s_many (ha : σ.abs = heapAbs h m) : SCall G Tryz.prog 32 #[.pointer (some ⟨h, 0, none⟩)] σ (.int .i64 m.many) σ :=
  heap_read (l := []) ha rfl rfl fun w p S hH => (many_heap S p m w hH).mono fun _ _ ⟨h1, h2⟩ => ⟨h1, h2 ▸ Below.refl _ _⟩
theorem s_limit (ha : σ.abs = heapAbs h m) : SCall G Tryz.prog 49 #[.pointer (some ⟨h, 0, none⟩)] σ (.int .i64 m.limit) σ :=
  heap_read (l := []) ha rfl rfl fun w p S hH => (limit_heap S p m w hH).mono fun _ _ ⟨h1, h2⟩ => ⟨h1, h2 ▸ Below.refl _ _⟩
end
end Go.Proofs.YtaaebeiigkhcjaaGreatDoor
