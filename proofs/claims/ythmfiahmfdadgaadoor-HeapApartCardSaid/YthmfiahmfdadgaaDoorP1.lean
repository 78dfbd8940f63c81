/-
  Calls that hand out new rows, and calls on one of two heaps, in the second memory. Conditions: the heaps lie there as HeapAt says.
  The calls of HeapApart on two heaps, and kit's Same, in the second memory. Conditions: the heaps lie there as HeapAt says.
  HeapApart in the second memory: the whole law. Conditions: the tables of unicode/utf8 lie as laid.
  HeapApart answers true in every world in which its arguments lie. Conditions: the tables of unicode/utf8 lie as laid.
-/
import Derived.Test.YthmfiahmfdadgaaDoorH2
import Derived.Test.YthmfiahmfdadgaaDoorQ2
import Derived.Test.YthmfiahmfdadgaaDoorKz
import Derived.Test.YthmfiahmfdadgaaDoorOpenR
import Derived.Test.YthmfiahmfdadgaaDoorS3
namespace Go.Proofs.YthmfiahmfdadgaaDoor
open Go.RowKit
set_option maxRecDepth 100000
section
variable {P : Program} {G : Nat}
/-- A block that lies there is named, as the next number. -/
theorem Stp.gain {σ0 σ : Mem} {μ0 μ : Mu} {w0 w : World} (h : Stp G σ0 μ0 w0 σ μ w) (hn : μ σ.next = none) {x : Blk2} {bi : BI} (hB : BlkIn w μ bi x) (hz : 0 < bi.sz) (hnew : w0.heap.size ≤ bi.blk) (hun : ∀ b y ci, σ.get b = some y → μ b = some ci → ci.blk ≠ bi.blk) (hown : ¬ μ.own bi.blk) :
    Stp G σ0 μ0 w0 (σ.push x) (μ.add σ.next bi) w := by
  have he := Mu.add_ext bi hn
  have hg := σ.push_get x
  have key : ∀ b, b ≠ σ.next → (μ.add σ.next bi) b = μ b := fun b hb => by simp [Mu.add, hb]
  have old : ∀ b y, (σ.push x).get b = some y → b ≠ σ.next → σ.get b = some y := fun b y hy hb => by rw [hg, if_neg hb] at hy; exact hy
  have at_c : ∀ b y ci, (σ.push x).get b = some y → (μ.add σ.next bi) b = some ci → b = σ.next → y = x ∧ ci = bi := fun b y ci hy hb e => by
    subst e
    rw [hg, if_pos rfl] at hy
    rw [Mu.add_at] at hb
    cases hy
    cases hb
    exact ⟨rfl, rfl⟩
  refine ⟨Nat.le_trans h.next (Nat.le_succ _), fun b h1 h2 => ?_, fun b hb => ?_, ⟨fun g hg => ?_, fun b y ci hy hb => ?_, fun b b' y y' ci ci' hy hy' hb hb' e hor => ?_, fun b y ci hGb hy hb => ?_, σ.abs.ext he rfl h.sim.abs.1, fun b y ci hy hb hW => ?_⟩, h.size, h.os, h.tape, h.output, fun b y ci hb hy hm' => ?_, fun b y hb hy => ?_, h.low, h.own, h.keep⟩
  · have h2 : b < σ.next + 1 := h2
    rcases Nat.lt_or_ge b σ.next with h3 | h3
    · exact h.fresh b h1 h3
    · have e : b = σ.next := by omega
      rw [← h.ext b (.inr h3), e]; exact hn
  · have := h.next
    have h4 : (σ.push x).next = σ.next + 1 := rfl
    rw [key b (by omega), h.ext b (by omega)]
  · obtain ⟨ci, h1, h2⟩ := h.sim.glob g hg
    exact ⟨ci, he _ _ h1, h2⟩
  · by_cases e : b = σ.next
    · obtain ⟨rfl, rfl⟩ := at_c b y ci hy hb e
      exact hB.keep rfl he
    · rw [key b e] at hb
      exact (h.sim.blk b y ci (old b y hy e) hb).keep rfl he
  · by_cases e1 : b = σ.next <;> by_cases e2 : b' = σ.next
    · rw [e1, e2]
    · obtain ⟨rfl, rfl⟩ := at_c b y ci hy hb e1
      rw [key b' e2] at hb'
      exact absurd e.symm (hun b' y' ci' (old b' y' hy' e2) hb')
    · obtain ⟨rfl, rfl⟩ := at_c b' y' ci' hy' hb' e2
      rw [key b e1] at hb
      exact absurd e (hun b y ci (old b y hy e1) hb)
    · rw [key b e1] at hb
      rw [key b' e2] at hb'
      exact h.sim.inj b b' y y' ci ci' (old b y hy e1) (old b' y' hy' e2) hb hb' e hor
  · by_cases e : b = σ.next
    · obtain ⟨rfl, rfl⟩ := at_c b y ci hy hb e
      exact hz
    · rw [key b e] at hb
      exact h.sim.rw_ b y ci hGb (old b y hy e) hb
  · by_cases e : b = σ.next
    · obtain ⟨rfl, rfl⟩ := at_c b y ci hy hb e
      exact hown hW
    · rw [key b e] at hb
      exact h.sim.abs.2 b y ci (old b y hy e) hb hW
  · by_cases e : b = σ.next
    · obtain ⟨rfl, rfl⟩ := at_c b y ci hy hm' e
      exact .inl hnew
    · rw [key b e] at hm'
      exact h.new b y ci hb (old b y hy e) hm'
  · exact h.live b y hb (old b y hy (by have := h.next; omega))
/-- A step that leaves all that there is. -/
theorem Stp.of_below {σ : Mem} {μ : Mu} {w w' : World} (hs : Sim G μ σ w) (hG : G ≤ σ.next) (hb : Below w.heap.size w w') : Stp G σ μ w σ μ w' := by
  have own2 := OwnOk.same (G := G) (σ := σ) (μ := μ) (w := w) (w' := w') (σ' := σ) rfl (Ext.refl μ) rfl hb.size (fun B hB _ => hb.block B hB) fun c z ci hz hc => .inr ⟨c, z, ci, hz, hc, rfl⟩
  exact ⟨Nat.le_refl _, fun b h1 h2 => absurd h1 (by omega), fun _ _ => rfl, ⟨hs.glob, fun b x bi hx hm => (hs.blk b x bi hx hm).keep (hb.block _ (hs.blk b x bi hx hm).lt) (Ext.refl _), hs.inj, hs.rw_, own2 hs.abs⟩, hb.size, hb.os, hb.tape, hb.output, fun b x bi hb' hx _ => absurd (Mem.lt hx) (by omega), fun _ x _ h => ⟨x, h⟩, hG, own_id, fun B hB _ _ => hb.block B hB⟩
/-- A row that a call has made, as the second memory names it. -/
theorem owns_in {w : World} {μ : Mu} {base n s : Nat} {e : TypeId} {v : Value} {xs : List Value} (h : w.ownsRow base e s v n xs) (hn : 0 < n) (hs : 0 < s) (hcl : ∀ x ∈ xs, closedV 3 x = true) :
    ∃ bi : BI, base ≤ bi.blk ∧ bi.blk < w.heap.size ∧ v.ownBlock = some bi.blk ∧ 0 < bi.sz ∧ BlkIn w μ bi (.row ⟨xs, e, true⟩) ∧ ∀ (μ' : Mu) b, μ' b = some bi → VRel μ' (.slice (some ⟨b, 0, some s⟩) n n) v := by
  rcases h.2 with ⟨_, h0⟩ | ⟨g, cap, cur, rfl, hb, hg, hc, _, hcs, ht⟩
  · omega
  have hlt : g < w.heap.size := (Array.getElem?_eq_some_iff.1 hg).1
  have hmul : n * s + (cap - n) * s = cap * s := by rw [← Nat.add_mul]; congr 1; omega
  refine ⟨⟨g, 0, n * s, cap - n, s⟩, hb, hlt, rfl, hs, ⟨h.1, cur, (0, 0), e, hg, fun _ => ⟨rfl, .inl rfl, by simp [hcs, hmul], fun h => by cases h⟩, fun i x hx => ?_⟩, fun μ' b hm => ?_⟩
  · refine ⟨x, ?_, closedV_rel _ 3 x (hcl x (List.mem_of_getElem? hx))⟩
    have hx : xs[i]? = some x := hx
    have hi : i < n * s := by
      have := (List.getElem?_eq_some_iff.1 hx).1
      have h1 : xs.length = n * s := h.1
      omega
    rw [← ht, List.getElem?_take_of_lt hi] at hx
    simpa using hx
  · have := mk_grown (n := n) (r := cap - n) hm hs
    rwa [show n + (cap - n) = cap by omega] at this
/-- A call that hands out one new row. -/
theorem row_call {f : FuncId} {args : Array Value} {σ : Mem} {e : TypeId} {s n : Nat} {xs : List Value} {wrap : Value → Value} (hwr : ∀ (μ : Mu) v v', VRel μ v v' → VRel μ (wrap v) (wrap v')) (hn : 0 < n) (hs0 : 0 < s) (hcl : ∀ x ∈ xs, closedV 3 x = true)
    (hc : ∀ μ w cargs, Sim G μ σ w → ARel μ args cargs → σ.abs.holds μ w → Calls P f cargs w fun en w' => ∃ v, en = .returned (wrap v) ∧ w'.ownsRow w.heap.size e s v n xs ∧ Below w.heap.size w w') :
    SCall G P f args σ (wrap (.slice (some ⟨σ.next, 0, some s⟩) n n)) (σ.push (.row ⟨xs, e, true⟩)) := by
  refine ⟨Nat.le_succ _, fun μ w cargs hs hG hf har => ?_⟩
  refine (hc μ w cargs hs har hs.abs.1).mono ?_
  rintro en w' ⟨v, rfl, ho, hb⟩
  have S0 := Stp.of_below hs hG hb
  obtain ⟨bi, q1, q2, q3, q4, q5, q6⟩ := owns_in (μ := μ) ho hn hs0 hcl
  have hn0 : μ σ.next = none := hf _ (Nat.le_refl _) (Nat.lt_succ_self _)
  refine ⟨wrap v, μ.add σ.next bi, rfl, S0.gain hn0 q5 q4 q1 (fun b y ci hy hm e => ?_) (fun hB => ?_), hwr _ _ _ (q6 _ _ (Mu.add_at _ _ _))⟩
  · have := (hs.blk b y ci hy hm).lt
    omega
  · have := σ.abs.lt hs.abs.1 _ hB
    omega
/-- A call that hands out two new rows. -/
theorem row_call2 {f : FuncId} {args : Array Value} {σ : Mem} {e1 e2 : TypeId} {s1 n1 s2 n2 : Nat} {xs ys : List Value} {wrap : Value → Value → Value} (hwr : ∀ (μ : Mu) v v' u u', VRel μ v v' → VRel μ u u' → VRel μ (wrap v u) (wrap v' u')) (hn1 : 0 < n1) (hs1 : 0 < s1) (hn2 : 0 < n2) (hs2 : 0 < s2) (hcl1 : ∀ x ∈ xs, closedV 3 x = true) (hcl2 : ∀ x ∈ ys, closedV 3 x = true)
    (hc : ∀ μ w cargs, Sim G μ σ w → ARel μ args cargs → σ.abs.holds μ w → Calls P f cargs w fun en w' => ∃ v1 v2 mid, en = .returned (wrap v1 v2) ∧ w.heap.size ≤ mid ∧ w'.ownsRow w.heap.size e1 s1 v1 n1 xs ∧ (∀ g, v1.ownBlock = some g → g < mid) ∧ w'.ownsRow mid e2 s2 v2 n2 ys ∧ Below w.heap.size w w') :
    SCall G P f args σ (wrap (.slice (some ⟨σ.next, 0, some s1⟩) n1 n1) (.slice (some ⟨σ.next + 1, 0, some s2⟩) n2 n2)) ((σ.push (.row ⟨xs, e1, true⟩)).push (.row ⟨ys, e2, true⟩)) := by
  refine ⟨Nat.le_succ_of_le (Nat.le_succ _), fun μ w cargs hs hG hf har => ?_⟩
  refine (hc μ w cargs hs har hs.abs.1).mono ?_
  rintro en w' ⟨v1, v2, mid, rfl, hmid, ho1, hL, ho2, hb⟩
  have S0 := Stp.of_below hs hG hb
  obtain ⟨bi, q1, q2, q3, q4, q5, q6⟩ := owns_in (μ := μ) ho1 hn1 hs1 hcl1
  obtain ⟨ci, p1, p2, p3, p4, p5, p6⟩ := owns_in (μ := μ.add σ.next bi) ho2 hn2 hs2 hcl2
  have hlt : ∀ b, b < ((σ.push (.row ⟨xs, e1, true⟩)).push (.row ⟨ys, e2, true⟩)).next ↔ b < σ.next + 1 + 1 := fun b => Iff.rfl
  have hn0 : μ σ.next = none := hf _ (Nat.le_refl _) ((hlt _).2 (by omega))
  have hn1' : μ (σ.next + 1) = none := hf _ (Nat.le_succ _) ((hlt _).2 (by omega))
  have hbi := hL _ q3
  have S1 := S0.gain hn0 q5 q4 q1 (fun b y di hy hm e => by
    have := (hs.blk b y di hy hm).lt
    omega) (fun hB => by
    have := σ.abs.lt hs.abs.1 _ hB
    omega)
  have hn2' : (μ.add σ.next bi) (σ.push (.row ⟨xs, e1, true⟩)).next = none := by
    show (if σ.next + 1 = σ.next then some bi else μ (σ.next + 1)) = none
    rw [if_neg (by omega)]; exact hn1'
  have S2 := S1.gain hn2' p5 p4 (by omega) (fun b y di hy hm e => by
    by_cases hb2 : b = σ.next
    · subst hb2
      rw [Mu.add_at] at hm
      cases hm
      omega
    · have hm : μ b = some di := by
        have : (if b = σ.next then some bi else μ b) = some di := hm
        rwa [if_neg hb2] at this
      rw [Mem.push_get, if_neg hb2] at hy
      have := (hs.blk b y di hy hm).lt
      omega) (fun hB => by
    have := σ.abs.lt hs.abs.1 _ hB
    omega)
  have hx := Mu.add_ext ci hn2'
  exact ⟨wrap v1 v2, _, rfl, S2, hwr _ _ _ _ _ (q6 _ _ (hx _ _ (Mu.add_at _ _ _))) (p6 _ _ (Mu.add_at _ _ _))⟩
end
section
variable {P : Program} {G : Nat} {σ : Mem} {h g : Nat} {m m' m2 : HM} {f : FuncId} {args : Array Value} {v : Value}
/-- A call that turns the first of two heaps. -/
theorem heap2_fst (ha : σ.abs = heapAbs2 h m g m2) (hv : closedV 3 v = true)
    (hc : ∀ μ w cargs (bi : BI) S, Sim G μ σ w → ARel μ args cargs → μ h = some bi → bi.sh = 0 → HeapAt w S bi.blk m → Calls P f cargs w fun e w' => ∃ S', e = .returned v ∧ HeapAt w' S' bi.blk m' ∧ Turn S w w' S') :
    SCall G P f args σ v (σ.with (heapAbs2 h m' g m2)) :=
  abs_call hv fun μ w cargs hs har hA => by
    rw [ha] at hA
    obtain ⟨bi, bj, S, S2, h1, h2, h3, h4, h5, h6, h7, h8⟩ := hA
    refine (hc μ w cargs bi S hs har h1 h2 h3).mono ?_
    rintro e w' ⟨S', rfl, hH, hT⟩
    have hold : ∀ B, B < w.heap.size → S' B ≠ none → S B ≠ none := fun B hB h5 h6 => h5 (hT.new B hB h6)
    have hS2 : ∀ B, S2 B ≠ none → S B = none := fun B hB => by
      cases e : S B with
      | none => rfl
      | some k => exact absurd (h8 B (by rw [e]; simp)) hB
    refine ⟨fun B => S' B ≠ none ∨ S2 B ≠ none, rfl, ⟨bi, bj, S', S2, h1, h2, hH, h4, h5, h6.keep hT.size fun b hb => hT.block b (h6.lt b hb) (hS2 b hb), fun B => Iff.rfl, fun B hB => ?_⟩, fun B hB hor => ?_, hT.size, hT.os, hT.tape, hT.output, fun B hB hn => hT.block B hB ?_⟩
    · rcases Nat.lt_or_ge B w.heap.size with h9 | h9
      · exact h8 B (hold B h9 hB)
      · cases e : S2 B with
        | none => rfl
        | some k => have := h6.lt B (by rw [e]; simp); omega
    · exact (h7 B).2 (hor.imp (hold B hB) id)
    · cases e : S B with
      | none => rfl
      | some k => exact absurd ((h7 B).2 (.inl (by rw [e]; simp))) hn
/-- A call that turns the second of two heaps. -/
theorem heap2_snd (ha : σ.abs = heapAbs2 h m g m2) (hv : closedV 3 v = true)
    (hc : ∀ μ w cargs (bi : BI) S, Sim G μ σ w → ARel μ args cargs → (∀ b x ci, σ.get b = some x → μ b = some ci → S ci.blk = none) → μ g = some bi → bi.sh = 0 → HeapAt w S bi.blk m2 → Calls P f cargs w fun e w' => ∃ S', e = .returned v ∧ HeapAt w' S' bi.blk m' ∧ Turn S w w' S') :
    SCall G P f args σ v (σ.with (heapAbs2 h m g m')) :=
  abs_call hv fun μ w cargs hs har hA => by
    rw [ha] at hA
    obtain ⟨bi, bj, S, S2, h1, h2, h3, h4, h5, h6, h7, h8⟩ := hA
    have hav : ∀ b x ci, σ.get b = some x → μ b = some ci → S2 ci.blk = none := fun b x ci hx hm => by
      cases e : S2 ci.blk with
      | none => rfl
      | some k => exact absurd ((h7 _).2 (.inr (by rw [e]; simp))) (hs.abs.2 b x ci hx hm)
    refine (hc μ w cargs bj S2 hs har hav h4 h5 h6).mono ?_
    rintro e w' ⟨S', rfl, hH, hT⟩
    have hold : ∀ B, B < w.heap.size → S' B ≠ none → S2 B ≠ none := fun B hB h5 h6 => h5 (hT.new B hB h6)
    refine ⟨fun B => S B ≠ none ∨ S' B ≠ none, rfl, ⟨bi, bj, S, S', h1, h2, h3.keep hT.size fun b hb => hT.block b (h3.lt b hb) (h8 b hb), h4, h5, hH, fun B => Iff.rfl, fun B hB => ?_⟩, fun B hB hor => ?_, hT.size, hT.os, hT.tape, hT.output, fun B hB hn => hT.block B hB ?_⟩
    · have hB2 := h3.lt B hB
      exact hT.new B hB2 (h8 B hB)
    · exact (h7 B).2 (hor.imp id (hold B hB))
    · cases e : S2 B with
      | none => rfl
      | some k => exact absurd ((h7 B).2 (.inr (by rw [e]; simp))) hn
end
end Go.Proofs.YthmfiahmfdadgaaDoor
namespace Go.Proofs.YthmfiahmfdadgaaDoor
open Go.RowKit
set_option maxRecDepth 100000
structure AW (G : Nat) (σ : Mem) (v : Value) (l : List Wd) : Prop where
  vw : Vw σ v l
  one : v.cells.toList = [v]
  src : srcF σ 2 v = some (l.length, wdC l)
theorem getD_at {l : List Wd} {i : Nat} (h : i < l.length) : l[i]? = some (l.getD i (0, 0)) := by simp [List.getD_eq_getElem?_getD, h]
section
variable {G h g : Nat} {m m2 : HM} {σ σ0 : Mem}
theorem same_wc {v1 v2 : Value} {l1 l2 : List Wd} (hG : G ≤ σ0.next) (a1 : Vw σ0 v1 l1) (a2 : Vw σ0 v2 l2) (hb : l1.length ≤ 1000000) :
    WC G Tryd.prog 34 #[v1, v2] σ0 fun r σ' => r = .bool (decide (l1 = l2)) ∧ σ' = σ0 := by
  refine WC.enter (fn := Tryd.f34) Tryd.func34 rfl ?_
  refine W.know 0 (x := v1) rfl (W.know 1 (x := v2) rfl ?_)
  refine W.seq ?_
  refine W.region ?_
  refine RW.val (by kernel_rfl) (by kernel_rfl) rfl (by kernel_rfl) ?_
  refine RW.nil ?_
  refine W.seq ?_
  refine W.seq ?_
  refine W.region ?_
  refine RW.val (by kernel_rfl) (by kernel_rfl) rfl (by kernel_rfl) ?_
  refine RW.len (by kernel_rfl) (by kernel_rfl) rfl rfl rfl rfl a1.len (by kernel_rfl) ?_
  refine RW.val (by kernel_rfl) (by kernel_rfl) rfl (by kernel_rfl) ?_
  refine RW.len (by kernel_rfl) (by kernel_rfl) rfl rfl rfl rfl a2.len (by kernel_rfl) ?_
  refine RW.val (by kernel_rfl) (by kernel_rfl) rfl (by kernel_rfl) ?_
  refine RW.nil ?_
  refine W.cond rfl (fun hh => ?_) (fun hh => ?_)
  · have hne : l1.length ≠ l2.length := by have := bne_iff_ne.1 (show ((l1.length : Int) != (l2.length : Int)) = true from hh); omega
    refine W.seq ?_
    refine W.region ?_
    refine RW.val (by kernel_rfl) (by kernel_rfl) rfl (by kernel_rfl) ?_
    refine RW.nil ?_
    refine W.ret ?_
    have E : Value.bool false = .bool (decide (l1 = l2)) := by rw [decide_eq_false (fun e => hne (by rw [e]))]
    exact endG (R := fun r σ' => r = .bool (decide (l1 = l2)) ∧ σ' = σ0) rfl (resL_tmp rfl) ⟨E, rfl⟩
  have heq : l1.length = l2.length := by have := bne_eq_false_iff_eq.1 (show ((l1.length : Int) != (l2.length : Int)) = false from hh); omega
  clear hh
  refine W.skip ?_
  refine W.seq ?_
  refine W.seq ?_
  refine W.region ?_
  refine RW.val (by kernel_rfl) (by kernel_rfl) rfl (by kernel_rfl) ?_
  refine RW.nil ?_
  refine W.block ?_
  refine W.loop (fun mm ta σ => ∃ k : Nat, mm + k = l1.length ∧ σ = σ0 ∧ (∀ i, i < k → l1[i]? = l2[i]?) ∧ ta 0 = v1 ∧ ta 1 = v2 ∧ ta 5 = .int .i64 (k : Int)) l1.length ?_ ?_
  · exact ⟨0, rfl, rfl, fun i h => absurd h (by omega), rfl, rfl, rfl⟩
  rintro mm ta σ ⟨k, hm, hσ, hk, e0, e1, e5⟩
  obtain rfl := hσ.symm
  refine W.know 0 e0 (W.know 1 e1 (W.know 5 e5 (?_)))
  refine W.seq ?_
  refine W.seq ?_
  refine W.region ?_
  refine RW.val (by kernel_rfl) (by kernel_rfl) rfl (by kernel_rfl) ?_
  refine RW.val (by kernel_rfl) (by kernel_rfl) rfl (by kernel_rfl) ?_
  refine RW.len (by kernel_rfl) (by kernel_rfl) rfl rfl rfl rfl a1.len (by kernel_rfl) ?_
  refine RW.val (by kernel_rfl) (by kernel_rfl) rfl (by kernel_rfl) ?_
  refine RW.nil ?_
  refine W.cond rfl (fun hh => ?_) (fun hh => ?_)
  · have hkn : k < l1.length := by have := of_decide_eq_true hh; omega
    obtain ⟨b, p, sp, c, r, rfl, hr, hc⟩ := sl_at (a1.at_ (by omega)) (j := k) hkn
    obtain ⟨b', p', sp', c', r', rfl, hr', hc'⟩ := sl_at (a2.at_ (by omega)) (j := k) (by omega)
    refine W.skip ?_
    refine W.seq ?_
    refine W.block ?_
    refine W.seq ?_
    refine W.drawnS (by kernel_rfl) (by kernel_rfl) hG ?_
    refine RW.val (by kernel_rfl) (by kernel_rfl) rfl (by kernel_rfl) ?_
    refine RW.val (by kernel_rfl) (by kernel_rfl) rfl (by kernel_rfl) ?_
    refine RW.idx (s := 2) (by kernel_rfl) (by kernel_rfl) rfl Tryd.underlying22 (by kernel_rfl) rfl rfl ⟨by omega, by omega⟩ (by kernel_rfl) ?_
    refine RW.loads 2 (by kernel_rfl) (by kernel_rfl) rfl rfl hr hc rfl (by kernel_rfl) ?_
    refine RW.val (by kernel_rfl) (by kernel_rfl) rfl (by kernel_rfl) ?_
    refine RW.val (by kernel_rfl) (by kernel_rfl) rfl (by kernel_rfl) ?_
    refine RW.idx (s := 2) (by kernel_rfl) (by kernel_rfl) rfl Tryd.underlying22 (by kernel_rfl) rfl rfl ⟨by omega, by omega⟩ (by kernel_rfl) ?_
    refine RW.loads 2 (by kernel_rfl) (by kernel_rfl) rfl rfl hr' hc' rfl (by kernel_rfl) ?_
    refine RW.vop (v := .bool (!decide (l1.getD k (0, 0) = l2.getD k (0, 0)))) (by kernel_rfl) (by kernel_rfl) (vop_eqS (b := decide (l1.getD k (0, 0) = l2.getD k (0, 0))) (r := !decide (l1.getD k (0, 0) = l2.getD k (0, 0))) rfl (.inr ⟨rfl, rfl⟩) rfl rfl rfl rfl (by kernel_rfl) (fun w => (eqWd _ _ _ _ w).trans (by simp [Prod.ext_iff, Bool.beq_eq_decide_eq]))) (by kernel_rfl) ?_
    refine RW.nil ?_
    refine ⟨⟨by kernel_rfl, ?_, fun b => rfl⟩, ?_⟩
    · repeat' (first | exact True.intro | exact fun _ => rfl | exact ⟨_, hr⟩ | exact ⟨_, hr'⟩ | refine And.intro ?_ ?_)
    by_cases hq : l1.getD k (0, 0) = l2.getD k (0, 0)
    · refine W.cond (b := false) (by rw [decide_eq_true hq]; rfl) (fun h => by cases h) (fun _ => ?_)
      refine W.skip ?_
      refine W.region ?_
      refine RW.val (by kernel_rfl) (by kernel_rfl) rfl (by kernel_rfl) ?_
      refine RW.valE (by kernel_rfl) (by kernel_rfl) rfl (congrArg (Value.int .i64) (wrap_in (by omega) (by omega))) (by kernel_rfl) ?_
      refine RW.val (by kernel_rfl) (by kernel_rfl) rfl (by kernel_rfl) ?_
      refine RW.nil ?_
      refine ⟨rfl, mm - 1, by omega, k + 1, by omega, rfl, fun i hi => ?_, rfl, rfl, rfl⟩
      rcases Nat.lt_or_ge i k with h1 | h1
      · exact hk i h1
      · obtain rfl : i = k := by omega
        rw [getD_at hkn, getD_at (by omega), hq]
    · refine W.cond (b := true) (by rw [decide_eq_false hq]; rfl) (fun _ => ?_) (fun h => by cases h)
      refine W.seq ?_
      refine W.region ?_
      refine RW.val (by kernel_rfl) (by kernel_rfl) rfl (by kernel_rfl) ?_
      refine RW.nil ?_
      refine W.ret ?_
      have E : Value.bool false = .bool (decide (l1 = l2)) := by rw [decide_eq_false (fun e => hq (by rw [e]))]
      exact endG (R := fun r σ' => r = .bool (decide (l1 = l2)) ∧ σ' = σ0) rfl (resL_tmp rfl) ⟨E, rfl⟩
  · have hkn : k = l1.length := by have := of_decide_eq_false hh; omega
    refine W.exit _ ?_
    refine W.seq ?_
    refine W.region ?_
    refine RW.val (by kernel_rfl) (by kernel_rfl) rfl (by kernel_rfl) ?_
    refine RW.nil ?_
    refine W.ret ?_
    have E : Value.bool true = .bool (decide (l1 = l2)) := by
      rw [decide_eq_true]
      apply List.ext_getElem?
      intro i
      rcases Nat.lt_or_ge i k with h1 | h1
      · exact hk i h1
      · rw [List.getElem?_eq_none (by omega), List.getElem?_eq_none (by omega)]
    exact endG (R := fun r σ' => r = .bool (decide (l1 = l2)) ∧ σ' = σ0) rfl (resL_tmp rfl) ⟨E, rfl⟩
theorem s_copyAll (ha : σ.abs = heapAbs h m) (hf : m.free = []) : SCall G Tryd.prog 30 #[.pointer (some ⟨h, 0, none⟩)] σ (.pointer (some ⟨σ.next, 0, none⟩)) (σ.also (heapAbs2 h m σ.next m)) := by
  refine ⟨Nat.le_succ _, fun μ w cargs hs hG hf2 har => ?_⟩
  have hA := hs.abs.1
  rw [ha] at hA
  obtain ⟨bi, S, h1, h2, h3, h4⟩ := hA
  have hz : cargs = _ := args_heap (l := []) h1 h2 rfl har
  subst hz
  have hn : μ σ.next = none := hf2 _ (Nat.le_refl _) (Nat.lt_succ_self _)
  refine (copy_all S bi.blk m w h3 hf).mono ?_
  rintro e w' ⟨q, S2, rfl, hq, hL0, hLb, hnew⟩
  have key : ∀ b, b ≠ σ.next → (⟨fun c => if c = σ.next then some ⟨q, 0, 0, 0, 1⟩ else μ c, fun B => S B ≠ none ∨ S2 B ≠ none⟩ : Mu) b = μ b := fun b hb => if_neg hb
  have hne : ∀ b x, (σ.also (heapAbs2 h m σ.next m)).get b = some x → b ≠ σ.next ∧ σ.get b = some x := fun b x hx => by
    rw [also_get] at hx
    have := Mem.lt hx
    exact ⟨by omega, hx⟩
  have hext : Ext μ ⟨fun c => if c = σ.next then some ⟨q, 0, 0, 0, 1⟩ else μ c, fun B => S B ≠ none ∨ S2 B ≠ none⟩ := fun b bi h => by
    have : b ≠ σ.next := fun e => by rw [e, hn] at h; cases h
    rw [key b this]; exact h
  have hdis : ∀ B, S B ≠ none → S2 B = none := fun B hB => by
    cases e : S2 B with
    | none => rfl
    | some k => have := hnew B (by rw [e]; simp); have := h3.lt B hB; omega
  refine ⟨_, ⟨fun c => if c = σ.next then some ⟨q, 0, 0, 0, 1⟩ else μ c, fun B => S B ≠ none ∨ S2 B ≠ none⟩, rfl, ⟨Nat.le_succ _, fun b g1 g2 => ?_, fun b hb => key b ?_, ⟨fun g hg => ?_, fun b x ci hx hm => ?_, fun b b' x x' ci ci' hx hx' hm hm' e hor => ?_, fun b x ci hG' hx hm => ?_, ⟨bi, ⟨q, 0, 0, 0, 1⟩, S, S2, hext _ _ h1, h2, h3.below hLb, if_pos rfl, rfl, hL0, fun B => Iff.rfl, hdis⟩, fun b x ci hx hm hB => ?_⟩, hLb.size, hLb.os, hLb.tape, hLb.output, fun b x ci hb hx _ => ?_, fun b x hb hx => ⟨x, (hne b x hx).2⟩, hG, fun B hB => ?_, fun B hB _ _ => hLb.block B hB⟩, ?_⟩
  · have g2 : b < σ.next + 1 := g2
    have : b = σ.next := by omega
    rw [this]; exact hn
  · rcases hb with hb | hb
    · omega
    · have hb : σ.next + 1 ≤ b := hb
      omega
  · obtain ⟨bi, k1, k2⟩ := hs.glob g hg
    exact ⟨bi, hext _ _ k1, k2⟩
  · obtain ⟨k1, k2⟩ := hne b x hx
    rw [key b k1] at hm
    have k := hs.blk b x ci k2 hm
    exact k.keep (hLb.block _ k.lt) hext
  · obtain ⟨k1, k2⟩ := hne b x hx
    obtain ⟨k3, k4⟩ := hne b' x' hx'
    rw [key b k1] at hm
    rw [key b' k3] at hm'
    exact hs.inj b b' x x' ci ci' k2 k4 hm hm' e hor
  · obtain ⟨k1, k2⟩ := hne b x hx
    rw [key b k1] at hm
    exact hs.rw_ b x ci hG' k2 hm
  · obtain ⟨k1, k2⟩ := hne b x hx
    rw [key b k1] at hm
    have hlt := (hs.blk b x ci k2 hm).lt
    rcases hB with hB | hB
    · exact hs.abs.2 b x ci k2 hm ((h4 _).2 hB)
    · have := hnew _ hB; omega
  · have := Mem.lt (hne b x hx).2
    omega
  · rcases hB with hB | hB
    · exact .inl ((h4 B).2 hB)
    · exact .inr (hnew B hB)
  · exact .ptr _ 0 ⟨q, 0, 0, 0, 1⟩ (if_pos rfl)
theorem s2_setAt (x : Wd) (i : Int) (y : Wd) (ha : σ.abs = heapAbs2 h m g m2) : SCall G Tryd.prog 14 #[.pointer (some ⟨g, 0, none⟩), wdV x, .int .i64 i, wdV y] σ (.int .i64 (m2.setAt x i y).2) (σ.with (heapAbs2 h m g (m2.setAt x i y).1)) :=
  heap2_snd ha rfl fun μ w cargs bi S _ har _ h1 h2 h3 => by
    have : cargs = _ := args_heap (l := [wdV x, .int .i64 i, wdV y]) h1 h2 rfl har
    rw [this]
    exact (setAt_heap S bi.blk m2 x i y w h3).mono fun e w' ⟨k1, k2, k3⟩ => ⟨S, k1, k2, k3⟩
theorem abs2_same {a : Abs} {f : FuncId} {args : Array Value} {v : Value} (ha : σ.abs = a) (h : SCall G Tryd.prog f args σ v (σ.with a)) : SCall G Tryd.prog f args σ v σ := by rwa [with_same ha] at h
theorem s2_at (x : Wd) (i : Int) (ha : σ.abs = heapAbs2 h m g m2) : SCall G Tryd.prog 35 #[.pointer (some ⟨g, 0, none⟩), wdV x, .int .i64 i] σ (.tuple #[wdV (m2.at x i).1, .int .i64 (m2.at x i).2]) σ :=
  abs2_same ha (heap2_snd ha rfl fun μ w cargs bi S _ har _ h1 h2 h3 => by
    have : cargs = _ := args_heap (l := [wdV x, .int .i64 i]) h1 h2 rfl har
    rw [this]
    exact (at_heap S bi.blk m2 x i w h3).mono fun e w' ⟨k1, k2⟩ => ⟨S, k1, h3.below k2, .of_below k2⟩)
theorem s2_many (ha : σ.abs = heapAbs2 h m g m2) : SCall G Tryd.prog 26 #[.pointer (some ⟨h, 0, none⟩)] σ (.int .i64 m.many) σ :=
  abs2_same ha (heap2_fst ha rfl fun μ w cargs bi S _ har h1 h2 h3 => by
    have : cargs = _ := args_heap (l := []) h1 h2 rfl har
    rw [this]
    exact (many_heap S bi.blk m w h3).mono fun e w' ⟨k1, k2⟩ => by subst k2; exact ⟨S, k1, h3, .refl S w⟩)
theorem s2_manyG (ha : σ.abs = heapAbs2 h m g m2) : SCall G Tryd.prog 26 #[.pointer (some ⟨g, 0, none⟩)] σ (.int .i64 m2.many) σ :=
  abs2_same ha (heap2_snd ha rfl fun μ w cargs bi S _ har _ h1 h2 h3 => by
    have : cargs = _ := args_heap (l := []) h1 h2 rfl har
    rw [this]
    exact (many_heap S bi.blk m2 w h3).mono fun e w' ⟨k1, k2⟩ => by subst k2; exact ⟨S, k1, h3, .refl S w⟩)
theorem s2_limitG (ha : σ.abs = heapAbs2 h m g m2) : SCall G Tryd.prog 31 #[.pointer (some ⟨g, 0, none⟩)] σ (.int .i64 m2.limit) σ :=
  abs2_same ha (heap2_snd ha rfl fun μ w cargs bi S _ har _ h1 h2 h3 => by
    have : cargs = _ := args_heap (l := []) h1 h2 rfl har
    rw [this]
    exact (limit_heap S bi.blk m2 w h3).mono fun e w' ⟨k1, k2⟩ => by subst k2; exact ⟨S, k1, h3, .refl S w⟩)
theorem s2_vecOf {x : Wd} {l : List Wd} (ha : σ.abs = heapAbs2 h m g m2) (he : m.find x = some (.vec l)) (h0 : 0 < l.length) (hl : l.length ≤ 2000000) :
    SCall G Tryd.prog 16 #[.pointer (some ⟨h, 0, none⟩), wdV x] σ (.tuple #[.slice (some ⟨σ.next, 0, some 2⟩) l.length l.length, .int .i64 0]) (σ.push (.row ⟨wdC l, 24, true⟩)) :=
  row_call (wrap := fun v => .tuple #[v, .int .i64 0]) (fun μ v v' hv => .tuple _ _ rfl (by
    intro i y y' h1 h2
    match i, h1, h2 with
    | 0, h1, h2 => cases h1; cases h2; exact hv
    | 1, h1, h2 => cases h1; cases h2; exact .flat _ rfl
    | i + 2, h1, _ => simp at h1)) h0 (by decide) (wdC_closed l) fun μ w cargs hs har hA => by
    rw [ha] at hA
    obtain ⟨bi, bj, S, S2, h1, h2, h3, h4, h5, h6, h7, h8⟩ := hA
    have : cargs = _ := args_heap (l := [wdV x]) h1 h2 rfl har
    rw [this]
    exact vecOf_heap_yes S bi.blk m x l w h3 he hl
theorem s2_codeOf {X : Wd} {x y z : Int} {bs : List Int} {cs : List Wd} (ha : σ.abs = heapAbs2 h m g m2) (he : m.find X = some (.code x y z bs cs)) (h0 : 0 < bs.length) (h0' : 0 < cs.length) (hl : bs.length ≤ 2000000) (hl2 : cs.length ≤ 2000000) :
    SCall G Tryd.prog 33 #[.pointer (some ⟨h, 0, none⟩), wdV X] σ (.tuple #[.agg #[.int .i64 x, .int .i64 y, .int .i64 z, .slice (some ⟨σ.next, 0, some 1⟩) bs.length bs.length, .slice (some ⟨σ.next + 1, 0, some 2⟩) cs.length cs.length], .int .i64 0]) ((σ.push (.row ⟨byC bs, 5, true⟩)).push (.row ⟨wdC cs, 24, true⟩)) :=
  row_call2 (wrap := fun a b => .tuple #[.agg #[.int .i64 x, .int .i64 y, .int .i64 z, a, b], .int .i64 0]) (fun μ v v' u u' hv hu => .tuple _ _ rfl (by
    intro i y y' h1 h2
    match i, h1, h2 with
    | 0, h1, h2 =>
      cases h1; cases h2
      refine .agg _ _ rfl ?_
      intro j p p' k1 k2
      match j, k1, k2 with
      | 0, k1, k2 => cases k1; cases k2; exact .flat _ rfl
      | 1, k1, k2 => cases k1; cases k2; exact .flat _ rfl
      | 2, k1, k2 => cases k1; cases k2; exact .flat _ rfl
      | 3, k1, k2 => cases k1; cases k2; exact hv
      | 4, k1, k2 => cases k1; cases k2; exact hu
      | j + 5, k1, _ => simp at k1
    | 1, h1, h2 => cases h1; cases h2; exact .flat _ rfl
    | i + 2, h1, _ => simp at h1)) h0 (by decide) h0' (by decide) (byC_closed bs) (wdC_closed cs) fun μ w cargs hs har hA => by
    rw [ha] at hA
    obtain ⟨bi, bj, S, S2, h1, h2, h3, h4, h5, h6, h7, h8⟩ := hA
    have : cargs = _ := args_heap (l := [wdV X]) h1 h2 rfl har
    rw [this]
    exact codeOf_heap_yes S bi.blk m X x y z bs cs w h3 he hl hl2
theorem s2_collect (v : Value) (l : List Wd) (M : List Bool) (hsl : Sl σ 2 v (wdC l)) (ha : σ.abs = heapAbs2 h m g m2) (hf : ∀ M', Marks m2 (markL m2 (List.replicate m2.objs.length false, []) l) M' → m2.Above M' ∧ M' = M) (hn2 : l.length ≤ 2000000) (hR : RowsAt rowsU σ) (h16 : 16 ≤ G) (hTX : m2.Texts) :
    SCall G Tryd.prog 25 #[.pointer (some ⟨g, 0, none⟩), v] σ (.int .i64 (m2.gone M)) (σ.with (heapAbs2 h m g (m2.swept M))) := by
  refine heap2_snd ha rfl fun μ w cargs bi S hs har hav h1 h2 h3 => ?_
  have hT : Tabs w := tabs_of_rows (rows_lie hs (fun g cs hm => Nat.lt_of_lt_of_le (rowsU_low g cs hm) h16) (fun g cs hm => Nat.lt_of_lt_of_le (rowsU_low g cs hm) (by decide)) rowsU_flat hR)
  have hout : ∀ g cs, (g, cs) ∈ rowsU → S g = none := fun g cs hm => by
    obtain ⟨t, gg, ht⟩ := hR g cs hm
    obtain ⟨ci, hb, e12⟩ := hs.glob g (Nat.lt_of_lt_of_le (rowsU_low g cs hm) h16)
    have := hav g _ ci ht hb
    rwa [(e12 (Nat.lt_of_lt_of_le (rowsU_low g cs hm) (by decide))).1] at this
  have hTS : TabsOut S := ⟨hout _ firstL (by simp [rowsU]), hout _ accL (by simp [rowsU])⟩
  have hsz : cargs.size = 2 := har.1.symm
  have e0 := har.2 0 (.pointer (some ⟨g, 0, none⟩)) cargs[0] rfl (by simp [hsz])
  have e1 := har.2 1 v cargs[1] rfl (by simp [hsz])
  obtain ⟨ci, k1, k2⟩ := e0.ptr_inv
  rw [h1] at k1
  cases k1
  rw [h2] at k2
  have hca : ∀ u, cargs[1] = u → cargs = #[.pointer (some ⟨bi.blk, 0, none⟩), u] := fun u hu => by
    apply Array.ext
    · simp [hsz]
    · intro i k3 k4
      match i, k3, k4 with
      | 0, _, _ => simpa using k2
      | 1, _, _ => simpa using hu
      | i + 2, _, k4 => exact absurd k4 (by simp)
  have fin : ∀ (A : Option Addr) (c : Nat), cargs[1] = .slice A l.length c → (0 < l.length → ∃ ab ao, A = some ⟨ab, ao, none⟩ ∧ WordsFrom w ab ao l ∧ ab < w.heap.size) → Calls Tryd.prog 25 cargs w fun e w' => ∃ S', e = .returned (.int .i64 (m2.gone M)) ∧ HeapAt w' S' bi.blk (m2.swept M) ∧ Turn S w w' S' := fun A c hA hw => by
    rw [hca _ hA]
    refine (collect_any S bi.blk m2 A c l w h3 (fun M' hM => (hf M' hM).1) hn2 hT hTS hTX hw).mono ?_
    rintro e w' ⟨M', S', hM, he, hH, hTn⟩
    obtain rfl := (hf M' hM).2
    exact ⟨S', he, hH, hTn⟩
  generalize hxs : wdC l = xs at hsl
  cases hsl with
  | nil =>
    have hl0 : l = [] := by
      cases l with
      | nil => rfl
      | cons a l => simp [wdC] at hxs
    have := closedV_eq 3 _ _ rfl e1
    exact fin none 0 (by rw [this, hl0]; rfl) (fun hp => by rw [hl0] at hp; simp at hp)
  | some hr hx hc =>
    rename_i b p n c sp r
    have hn : n = l.length := by
      have := wdC_length l
      rw [hxs, hx] at this
      omega
    subst hn
    obtain ⟨ri, q, c', g1, g2, _, g3⟩ := e1.slice_inv
    refine fin _ c' g2 fun hp => ⟨ri.blk, q, rfl, fun j y hj => ?_, (hs.blk b _ ri hr g1).lt⟩
    have hq := g3 (by omega)
    obtain ⟨cc, fz, t', hcc, _, hcs⟩ := (hs.blk b _ ri hr g1).lie
    have hjl : j < l.length := (List.getElem?_eq_some_iff.1 hj).1
    obtain ⟨w0, w1⟩ := wdC_get l j hjl
    have hy : l[j] = y := (List.getElem?_eq_some_iff.1 hj).2
    rw [hxs, hy] at w0 w1
    have cell : ∀ i u, xs[i]? = some (.int .i64 u) → w.cell? ⟨ri.blk, q + i, none⟩ = some (.int .i64 u) := fun i u hi => by
      obtain ⟨v', p1, p2⟩ := hcs (p + i) _ (hc i _ hi)
      have := closedV_eq 3 _ _ rfl p2
      subst this
      unfold World.cell?
      simp only [hcc]
      rw [hq, Nat.add_assoc]
      exact p1
    exact ⟨cell (j * 2) y.1 w0, by rw [Nat.add_assoc]; exact cell (j * 2 + 1) y.2 w1⟩
end
end Go.Proofs.YthmfiahmfdadgaaDoor
namespace Go.Proofs.YthmfiahmfdadgaaDoor
open Go.RowKit
set_option maxRecDepth 100000
/-- A call that leaves all alone where the tables lie. -/
theorem tab_callA {P : Program} {G : Nat} {f : FuncId} {args : Array Value} {v : Value} {σ : Mem} (hR : RowsAt rowsU σ) (h16 : 16 ≤ G) (hl : args.toList.all (closedV 3) = true) (hv : closedV 3 v = true)
    (hc : ∀ w, Tabs w → Calls P f args w fun e w' => e = .returned v ∧ Below w.heap.size w w') : SCall G P f args σ v σ := by
  refine ⟨Nat.le_refl _, fun μ w cargs hs hGn hf har => ?_⟩
  have hT : Tabs w := tabs_of_rows (rows_lie hs (fun g cs hm => Nat.lt_of_lt_of_le (rowsU_low g cs hm) h16) (fun g cs hm => Nat.lt_of_lt_of_le (rowsU_low g cs hm) (by decide)) rowsU_flat hR)
  have hz : cargs = args := by
    apply Array.ext
    · exact har.1.symm
    · intro i h1 h2
      exact closedV_eq 3 _ _ (List.all_eq_true.1 hl _ (by simp)) (har.2 i args[i] cargs[i] (by simp [h2]) (by simp [h1]))
  subst hz
  refine (hc w hT).mono ?_
  rintro e w' ⟨rfl, hb⟩
  have own2 := OwnOk.same (G := G) (σ := σ) (μ := μ) (w := w) (w' := w') (σ' := σ) rfl (Ext.refl μ) rfl hb.size (fun B hB _ => hb.block B hB) fun c z ci hz hc => .inr ⟨c, z, ci, hz, hc, rfl⟩
  exact ⟨v, μ, rfl, ⟨Nat.le_refl _, fun b h1 h2 => absurd h1 (by omega), fun _ _ => rfl, ⟨hs.glob, fun b x bi hx hm => (hs.blk b x bi hx hm).keep (hb.block _ (hs.blk b x bi hx hm).lt) (Ext.refl _), hs.inj, hs.rw_, own2 hs.abs⟩, hb.size, hb.os, hb.tape, hb.output, fun b x bi hb' hx _ => absurd (Mem.lt hx) (by omega), fun _ x _ h => ⟨x, h⟩, hGn, own_id, fun B hB _ _ => hb.block B hB⟩, closedV_rel _ 3 v hv⟩
theorem rows_old {rows : List (Nat × List Value)} {σ σ' : Mem} (h : RowsAt rows σ) (k : ∀ b y, σ.get b = some y → σ'.get b = some y) : RowsAt rows σ' := fun g cs hm => by
  obtain ⟨t, f, e⟩ := h g cs hm
  exact ⟨t, f, k _ _ e⟩
theorem take2 {cs : List Value} {p : Nat} {a b : Value} (h : (cs.drop p).take 2 = [a, b]) : cs[p + 1]? = some b := by
  have : ((cs.drop p).take 2)[1]? = some b := by rw [h]; rfl
  simpa using this
/-- The row is what it was. -/
theorem sl_rowA {σ σ' : Mem} {q n c : Nat} {r : Row} {xs : List Value} (h : Sl σ 2 (.slice (some ⟨q, 0, some 2⟩) n c) xs) (h1 : σ.get q = some (.row r)) (h2 : σ'.get q = some (.row r)) : Sl σ' 2 (.slice (some ⟨q, 0, some 2⟩) n c) xs := by
  cases h with
  | some hr hx hc =>
    rw [h1] at hr
    cases hr
    exact .some h2 hx hc
def hA1 (l : List Wd) : HM := ⟨9, [some (.vec l)], []⟩
theorem hA1_lt (l : List Wd) : (hA1 l).many < (hA1 l).limit := by
  show 1 < 9
  decide
def hA (l c : List Wd) : HM := ⟨9, [some (.vec l), some (.code 0 0 0 [1, 2] c)], []⟩
theorem setA {l c : List Wd} {k : Nat} {x : Wd} (h : k < l.length) : (hA l c).setAt (4, 0) (k : Int) x = (hA (l.set k x) c, 0) := by
  have hf : (hA l c).find (4, 0) = some (.vec l) := rfl
  unfold HM.setAt
  rw [hf]
  simp only
  rw [if_neg (by omega), Int.toNat_natCast, if_pos h]
  rfl
theorem atA {l c : List Wd} {k : Nat} {x : Wd} (h : k < l.length) : (hA (l.set k x) c).at (4, 0) (k : Int) = (x, 0) := by
  have hf : (hA (l.set k x) c).find (4, 0) = some (.vec (l.set k x)) := rfl
  unfold HM.at
  rw [hf]
  simp only
  rw [if_neg (by omega), Int.toNat_natCast, List.getElem?_set_self h]
theorem textsA {l c : List Wd} : (hA l c).Texts := fun i t e => by
  have := List.mem_of_getElem? e
  simp [hA] at this
theorem marksA {l c : List Wd} {M : List Bool} (h : Marks (hA l c) (markL (hA l c) (List.replicate (hA l c).objs.length false, []) []) M) : (hA l c).Above M ∧ M = [false, false] := by
  obtain ⟨hl, hr⟩ := h.reach
  have hl : M.length = 2 := hl
  have hno : ∀ i, ¬ Reach (hA l c) [] i := fun i h => by
    induction h with
    | root x o hx _ => cases hx
    | kid _ _ _ _ _ _ _ _ ih => exact ih
  refine ⟨fun z _ x hx => (by cases hx), ?_⟩
  match M, hl with
  | [a, b], _ =>
    have h0 := fun e => hno 0 ((hr 0).1 e)
    have h1 := fun e => hno 1 ((hr 1).1 e)
    cases a <;> cases b <;> simp_all
theorem manyA (l c : List Wd) : (hA l c).many = 2 := rfl
theorem goneA (l c : List Wd) : ((hA l c).swept [false, false]).many = 0 := by
  have h1 := HM.many_swept (hA l c) [false, false]
  have h2 : (hA l c).gone [false, false] = 2 := by kernel_rfl
  rw [h2, manyA] at h1
  omega
theorem limitA (l c : List Wd) : ((hA l c).swept [false, false]).limit = 9 := rfl
theorem vw_row {σ : Mem} {b : Nat} {l : List Wd} {t : TypeId} {g : Bool} (h : σ.get b = some (.row ⟨wdC l, t, g⟩)) : Vw σ (.slice (some ⟨b, 0, some 2⟩) l.length l.length) l :=
  ⟨by unfold lenF; rw [show uT Tryd.prog 22 = some (.slice 24) by kernel_rfl], fun _ => .some h (wdC_length l) (fun i x hi => by simpa using hi)⟩
theorem same_yes {G : Nat} {σ : Mem} {v1 v2 : Value} {l : List Wd} (hG : G ≤ σ.next) (a1 : Vw σ v1 l) (a2 : Vw σ v2 l) (hb : l.length ≤ 1000000) : SCall G Tryd.prog 34 #[v1, v2] σ (.bool true) σ := by
  obtain ⟨v, σ', hS, rfl, rfl⟩ := same_wc hG a1 a2 hb
  rwa [decide_eq_true rfl] at hS
set_option maxHeartbeats 8000000 in
theorem apart_wc {G : Nat} {σ0 : Mem} {v1 : Value} {l : List Wd} {i : Int} {x : Wd} (hG : G ≤ σ0.next) (a1 : AW G σ0 v1 l) (hi1 : -9223372036854775808 ≤ i) (hi2 : i ≤ 9223372036854775807) (h16 : 16 ≤ G) (hR : RowsAt rowsU σ0) (hno : σ0.abs = Abs.no) :
    WC G Tryd.prog 7 #[v1, .int .i64 i, wdV x] σ0 fun v _ => v = .bool true := by
  have CL : ∀ σ, RowsAt rowsU σ → SCall G Tryd.prog 8 #[] σ (.bool true) σ := fun σ hR => tab_callA hR h16 rfl rfl lives_any
  refine WC.enter (fn := Tryd.f7) Tryd.func7 rfl ?_
  refine W.know 0 (x := v1) rfl (W.know 1 (x := .int .i64 i) rfl (W.know 2 (x := wdV x) rfl ?_))
  refine W.seq ?_
  refine W.region ?_
  refine RW.makeG (x := .row ⟨[.int .i64 x.1, .int .i64 x.2], 24, false⟩) (fm := fun b => .pointer (some ⟨b, 0, none⟩)) (by kernel_rfl) (by kernel_rfl) (by kernel_rfl) (by kernel_rfl) ?_; intro σ1 _ r5 G1 n1
  refine RW.val (by kernel_rfl) (by kernel_rfl) rfl (by kernel_rfl) ?_
  have K0 := G1.old
  have gG : G ≤ σ1.next := by omega
  refine RW.nil ?_
  refine W.reset [(0, v1), (1, .int .i64 i), (5, pp σ0.next)] ⟨rfl, rfl, rfl, trivial⟩ fun TA => ?_
  refine W.seq ?_
  refine W.seq ?_
  refine W.region ?_
  refine RW.call (by kernel_rfl) (by kernel_rfl) rfl rfl rfl (by kernel_rfl) (by kernel_rfl) ⟨_, _, (CL σ1 (rows_old hR K0)), ?_⟩
  refine RW.val (by kernel_rfl) (by kernel_rfl) rfl (by kernel_rfl) ?_
  refine RW.nil ?_
  refine W.cond (b := false) rfl (fun h => by cases h) (fun _ => ?_)
  refine W.skip ?_
  clear CL
  refine W.reset [(0, v1), (1, .int .i64 i), (5, pp σ0.next)] ⟨rfl, rfl, rfl, trivial⟩ fun TA => ?_
  rcases Nat.eq_zero_or_pos l.length with hl0 | hl0
  · refine W.seq ?_
    refine W.seq ?_
    refine W.region ?_
    refine RW.val (by kernel_rfl) (by kernel_rfl) rfl (by kernel_rfl) ?_
    refine RW.len (by kernel_rfl) (by kernel_rfl) rfl rfl rfl rfl a1.vw.len (by kernel_rfl) ?_
    refine RW.valE (v' := .bool true) (by kernel_rfl) (by kernel_rfl) rfl (congrArg Value.bool (beq_iff_eq.2 (by omega))) (by kernel_rfl) ?_
    refine RW.val (by kernel_rfl) (by kernel_rfl) rfl (by kernel_rfl) ?_
    refine RW.skip (by rfl) (by kernel_rfl) ?_
    refine RW.skip (by rfl) (by kernel_rfl) ?_
    refine RW.skip (by rfl) (by kernel_rfl) ?_
    refine RW.val (by kernel_rfl) (by kernel_rfl) rfl (by kernel_rfl) ?_
    refine RW.nil ?_
    refine W.cond (b := true) rfl (fun _ => ?_) (fun h => by cases h)
    refine W.seq ?_
    refine W.region ?_
    refine RW.val (by kernel_rfl) (by kernel_rfl) rfl (by kernel_rfl) ?_
    refine RW.nil ?_
    refine W.ret ?_
    exact endG (R := fun v _ => v = Value.bool true) rfl (resL_tmp rfl) rfl
  rcases Nat.lt_or_ge 60 l.length with hl6 | hl6
  · refine W.seq ?_
    refine W.seq ?_
    refine W.region ?_
    refine RW.val (by kernel_rfl) (by kernel_rfl) rfl (by kernel_rfl) ?_
    refine RW.len (by kernel_rfl) (by kernel_rfl) rfl rfl rfl rfl a1.vw.len (by kernel_rfl) ?_
    refine RW.valE (v' := .bool false) (by kernel_rfl) (by kernel_rfl) rfl (congrArg Value.bool (beq_eq_false_iff_ne.2 (by omega))) (by kernel_rfl) ?_
    refine RW.val (by kernel_rfl) (by kernel_rfl) rfl (by kernel_rfl) ?_
    refine RW.val (by rfl) (by kernel_rfl) rfl (by kernel_rfl) ?_
    refine RW.len (by rfl) (by kernel_rfl) rfl rfl rfl rfl a1.vw.len (by kernel_rfl) ?_
    refine RW.valE (v' := .bool true) (by rfl) (by kernel_rfl) rfl (congrArg Value.bool (decide_eq_true (by omega))) (by kernel_rfl) ?_
    refine RW.val (by kernel_rfl) (by kernel_rfl) rfl (by kernel_rfl) ?_
    refine RW.nil ?_
    refine W.cond (b := true) rfl (fun _ => ?_) (fun h => by cases h)
    refine W.seq ?_
    refine W.region ?_
    refine RW.val (by kernel_rfl) (by kernel_rfl) rfl (by kernel_rfl) ?_
    refine RW.nil ?_
    refine W.ret ?_
    exact endG (R := fun v _ => v = Value.bool true) rfl (resL_tmp rfl) rfl
  refine W.seq ?_
  refine W.seq ?_
  refine W.region ?_
  refine RW.val (by kernel_rfl) (by kernel_rfl) rfl (by kernel_rfl) ?_
  refine RW.len (by kernel_rfl) (by kernel_rfl) rfl rfl rfl rfl a1.vw.len (by kernel_rfl) ?_
  refine RW.valE (v' := .bool false) (by kernel_rfl) (by kernel_rfl) rfl (congrArg Value.bool (beq_eq_false_iff_ne.2 (by omega))) (by kernel_rfl) ?_
  refine RW.val (by kernel_rfl) (by kernel_rfl) rfl (by kernel_rfl) ?_
  refine RW.val (by rfl) (by kernel_rfl) rfl (by kernel_rfl) ?_
  refine RW.len (by rfl) (by kernel_rfl) rfl rfl rfl rfl a1.vw.len (by kernel_rfl) ?_
  refine RW.valE (v' := .bool false) (by rfl) (by kernel_rfl) rfl (congrArg Value.bool (decide_eq_false (by omega))) (by kernel_rfl) ?_
  refine RW.val (by kernel_rfl) (by kernel_rfl) rfl (by kernel_rfl) ?_
  refine RW.nil ?_
  refine W.cond (b := false) rfl (fun h => by cases h) (fun _ => ?_)
  refine W.skip ?_
  refine W.reset [(0, v1), (1, .int .i64 i), (5, pp σ0.next)] ⟨rfl, rfl, rfl, trivial⟩ fun TA => ?_
  obtain ⟨h, hh⟩ : ∃ h, h = σ1.next := ⟨_, rfl⟩
  have CN := s_new (G := G) (σ := σ1) 9 (by omega) (by omega) (G1.abs.trans hno)
  refine W.seq ?_
  refine W.region ?_
  refine RW.call (by kernel_rfl) (by kernel_rfl) rfl rfl rfl (by kernel_rfl) (by kernel_rfl) ⟨_, _, CN, ?_⟩
  refine RW.val (by kernel_rfl) (by kernel_rfl) rfl (by kernel_rfl) ?_
  refine RW.val (by kernel_rfl) (by kernel_rfl) rfl (by kernel_rfl) ?_
  refine RW.val (by kernel_rfl) (by kernel_rfl) rfl (by kernel_rfl) ?_
  refine RW.val (by kernel_rfl) (by kernel_rfl) rfl (by kernel_rfl) ?_
  refine RW.val (by kernel_rfl) (by kernel_rfl) rfl (by kernel_rfl) ?_
  obtain ⟨σa, hσa⟩ : ∃ s, s = σ1.made 9 := ⟨_, rfl⟩
  rw [← hσa, ← hh]
  have na : σa.next = h + 1 := by rw [hσa, hh]; rfl
  have ha : σa.abs = heapAbs h ⟨9, [], []⟩ := by rw [hσa, hh]; rfl
  have Ka : ∀ b y, σ1.get b = some y → σa.get b = some y := fun b y hy => by rw [hσa, made_get]; exact hy
  replace K0 : ∀ b y, σ0.get b = some y → σa.get b = some y := fun b y hy => Ka b y (K0 b y hy)
  replace r5 := Ka _ _ r5
  have gn : σ1.next ≤ σa.next := by omega
  clear hσa CN Ka
  refine RW.nil ?_
  refine W.reset [(0, v1), (1, .int .i64 i), (5, pp σ0.next), (7, pp h), (8, .int .i64 0)] ⟨rfl, rfl, rfl, rfl, rfl, trivial⟩ fun TA => ?_
  obtain ⟨vo, σo, hS, Go, oW, bo⟩ := own_wc (G := G) (v := v1) (l := l) (Nat.le_trans gG gn) (srcF_old a1.src K0) (fun σ k => srcF_old a1.src (fun b y hy => k b y (K0 b y hy))) (by omega)
  have no := Go.nx
  obtain ⟨q, c, rq, hvo, hGq, hrq, hqc⟩ : ∃ q c rq, vo = .slice (some ⟨q, 0, some 2⟩) l.length c ∧ σa.next ≤ q ∧ σo.get q = some (.row rq) ∧ l.length * 2 ≤ rq.cs.length := by
    cases oW with
    | emp _ _ => simp at hl0
    | row _ gr =>
      obtain ⟨q, c, r, e1, e2, e3, e4, e5, e6, e7⟩ := gr_row gr hl0
      exact ⟨q, c, r, e1, bo q (by rw [e1]; rfl), e3, by rw [e5]; exact Nat.mul_le_mul_right 2 e6⟩
  have sv := oW.vw.at_ hl0
  subst hvo
  have hrq0 := hrq
  refine W.seq ?_
  refine W.region ?_
  refine RW.val (by kernel_rfl) (by kernel_rfl) rfl (by kernel_rfl) ?_
  refine RW.call (by kernel_rfl) (by kernel_rfl) rfl rfl rfl (by kernel_rfl) (by kernel_rfl) ⟨_, _, hS, ?_⟩
  refine RW.val (by kernel_rfl) (by kernel_rfl) rfl (by kernel_rfl) ?_
  have K : ∀ b y, σa.get b = some y → σo.get b = some y := Go.old
  replace K0 : ∀ b y, σ0.get b = some y → σo.get b = some y := fun b y hy => K b y (K0 b y hy)
  replace r5 := K _ _ r5
  have nn : σa.next ≤ σo.next := by omega
  replace gn : σ1.next ≤ σo.next := by omega
  replace ha := Go.abs.trans ha
  clear K
  clear Go oW bo no hS
  have hqlt := Mem.lt hrq
  refine RW.nil ?_
  refine W.reset [(0, v1), (1, .int .i64 i), (5, pp σ0.next), (7, pp h), (9, .slice (some ⟨q, 0, some 2⟩) l.length c)] ⟨rfl, rfl, rfl, rfl, rfl, trivial⟩ fun TA => ?_
  have CV := s_vec (G := G) sv ha (by omega) (by decide) rfl (by show 0 + l.length ≤ _; omega)
  rw [show (⟨9, [], []⟩ : HM).push (.vec l) = hA1 l from rfl] at CV
  refine W.seq ?_
  refine W.region ?_
  refine RW.val (by kernel_rfl) (by kernel_rfl) rfl (by kernel_rfl) ?_
  refine RW.val (by kernel_rfl) (by kernel_rfl) rfl (by kernel_rfl) ?_
  refine RW.call (by kernel_rfl) (by kernel_rfl) rfl rfl rfl (by kernel_rfl) (by kernel_rfl) ⟨_, _, CV, ?_⟩
  refine RW.val (by kernel_rfl) (by kernel_rfl) rfl (by kernel_rfl) ?_
  refine RW.val (by kernel_rfl) (by kernel_rfl) rfl (by kernel_rfl) ?_
  refine RW.val (by kernel_rfl) (by kernel_rfl) rfl (by kernel_rfl) ?_
  obtain ⟨σs1, hs⟩ : ∃ Z, Z = σo.with (heapAbs h (hA1 l)) := ⟨_, rfl⟩
  rw [← hs]
  have ns : σs1.next = σo.next := by rw [hs]; rfl
  have K : ∀ b y, σo.get b = some y → σs1.get b = some y := fun b y hy => by rw [hs, with_get]; exact hy
  replace K0 : ∀ b y, σ0.get b = some y → σs1.get b = some y := fun b y hy => K b y (K0 b y hy)
  replace r5 := K _ _ r5
  replace hrq := K _ _ hrq
  have nn : σo.next ≤ σs1.next := by omega
  replace gn : σ1.next ≤ σs1.next := by omega
  replace ha := (show σs1.abs = heapAbs h (hA1 l) by rw [hs]; rfl)
  clear K
  clear hs
  clear CV
  refine RW.varS (d := 10) (r0 := ⟨[.int .i64 0, .int .i64 0], 24, false⟩) (vs := #[.int .i64 ((4, 0) : Wd).1, .int .i64 ((4, 0) : Wd).2]) (by kernel_rfl) (by kernel_rfl) (by kernel_rfl) rfl (by kernel_rfl) rfl (by kernel_rfl) rfl rfl rfl rfl (by kernel_rfl) rfl (by omega) ?_
  intro σq2 _ r10 oq nq aq
  have K : ∀ b y, σs1.get b = some y → σq2.get b = some y := oq
  replace K0 : ∀ b y, σ0.get b = some y → σq2.get b = some y := fun b y hy => K b y (K0 b y hy)
  replace r5 := K _ _ r5
  replace hrq := K _ _ hrq
  have nn : σs1.next ≤ σq2.next := by omega
  replace gn : σ1.next ≤ σq2.next := by omega
  replace ha := aq.trans ha
  clear K
  clear oq aq
  refine RW.val (by kernel_rfl) (by kernel_rfl) rfl (by kernel_rfl) ?_
  refine RW.nil ?_
  refine W.reset [(0, v1), (1, .int .i64 i), (5, pp σ0.next), (7, pp h), (9, .slice (some ⟨q, 0, some 2⟩) l.length c), (10, pp σs1.next), (11, .int .i64 0)] ⟨rfl, rfl, rfl, rfl, rfl, rfl, rfl, trivial⟩ fun TA => ?_
  refine W.seq ?_
  refine W.region ?_
  refine RW.val (by kernel_rfl) (by kernel_rfl) rfl (by kernel_rfl) ?_
  refine RW.makeG (x := .row ⟨byC [1, 2], 5, false⟩) (fm := fun b => .slice (some ⟨b, 0, none⟩) 2 2) (by kernel_rfl) (by kernel_rfl) (by kernel_rfl) (by kernel_rfl) ?_; intro σc _ gm Gm nm
  have K : ∀ b y, σq2.get b = some y → σc.get b = some y := Gm.old
  replace K0 : ∀ b y, σ0.get b = some y → σc.get b = some y := fun b y hy => K b y (K0 b y hy)
  replace r5 := K _ _ r5
  replace hrq := K _ _ hrq
  replace r10 := K _ _ r10
  have nn : σq2.next ≤ σc.next := by omega
  replace gn : σ1.next ≤ σc.next := by omega
  replace ha := Gm.abs.trans ha
  clear K
  refine RW.val (by kernel_rfl) (by kernel_rfl) rfl (by kernel_rfl) ?_
  refine RW.val (v := .agg #[.int .i64 0, .int .i64 0, .int .i64 0, .slice (some ⟨σq2.next, 0, none⟩) 2 2, .slice (some ⟨q, 0, some 2⟩) l.length c]) (by kernel_rfl) (by kernel_rfl) (by kernel_rfl) (by kernel_rfl) ?_
  have hsl : Sl σc 1 (.slice (some ⟨σq2.next, 0, none⟩) 2 2) (byC [1, 2]) := .some gm rfl (fun i x hi => by simpa using hi)
  have sv2 : Sl σc 2 (.slice (some ⟨q, 0, some 2⟩) l.length c) (wdC l) := sl_rowA sv hrq0 hrq
  have CV := s_code (G := G) (x := 0) (y := 0) (z := 0) hsl sv2 ha (by decide) (by omega) (hA1_lt l) rfl (by show l.length + 0 + (2 + l.length) ≤ _; omega)
  rw [show (hA1 l).push (.code 0 0 0 [1, 2] l) = hA l l from rfl] at CV
  refine RW.call (by kernel_rfl) (by kernel_rfl) rfl rfl rfl (by kernel_rfl) (by kernel_rfl) ⟨_, _, CV, ?_⟩
  refine RW.val (by kernel_rfl) (by kernel_rfl) rfl (by kernel_rfl) ?_
  refine RW.val (by kernel_rfl) (by kernel_rfl) rfl (by kernel_rfl) ?_
  refine RW.val (by kernel_rfl) (by kernel_rfl) rfl (by kernel_rfl) ?_
  obtain ⟨σs3, hs⟩ : ∃ Z, Z = σc.with (heapAbs h (hA l l)) := ⟨_, rfl⟩
  rw [← hs]
  have ns : σs3.next = σc.next := by rw [hs]; rfl
  have K : ∀ b y, σc.get b = some y → σs3.get b = some y := fun b y hy => by rw [hs, with_get]; exact hy
  replace K0 : ∀ b y, σ0.get b = some y → σs3.get b = some y := fun b y hy => K b y (K0 b y hy)
  replace r5 := K _ _ r5
  replace hrq := K _ _ hrq
  replace r10 := K _ _ r10
  have nn : σc.next ≤ σs3.next := by omega
  replace gn : σ1.next ≤ σs3.next := by omega
  replace ha := (show σs3.abs = heapAbs h (hA l l) by rw [hs]; rfl)
  clear K
  clear hs
  refine RW.varS (d := 12) (r0 := ⟨[.int .i64 0, .int .i64 0], 24, false⟩) (vs := #[.int .i64 ((6, 1) : Wd).1, .int .i64 ((6, 1) : Wd).2]) (by kernel_rfl) (by kernel_rfl) (by kernel_rfl) rfl (by kernel_rfl) rfl (by kernel_rfl) rfl rfl rfl rfl (by kernel_rfl) rfl (by omega) ?_
  intro σq4 _ r12 oq nq aq
  have K : ∀ b y, σs3.get b = some y → σq4.get b = some y := oq
  replace K0 : ∀ b y, σ0.get b = some y → σq4.get b = some y := fun b y hy => K b y (K0 b y hy)
  replace r5 := K _ _ r5
  replace hrq := K _ _ hrq
  replace r10 := K _ _ r10
  have nn : σs3.next ≤ σq4.next := by omega
  replace gn : σ1.next ≤ σq4.next := by omega
  replace ha := aq.trans ha
  clear K
  clear oq aq
  refine RW.val (by kernel_rfl) (by kernel_rfl) rfl (by kernel_rfl) ?_
  clear CV hsl sv2 gm Gm nm
  refine RW.nil ?_
  refine W.reset [(0, v1), (1, .int .i64 i), (5, pp σ0.next), (7, pp h), (9, .slice (some ⟨q, 0, some 2⟩) l.length c), (10, pp σs1.next), (11, .int .i64 0), (12, pp σs3.next), (13, .int .i64 0)] ⟨rfl, rfl, rfl, rfl, rfl, rfl, rfl, rfl, rfl, trivial⟩ fun TA => ?_
  have pw := pick_range i l.length (by omega)
  obtain ⟨k, hk⟩ : ∃ k : Nat, pickOf i l.length = (k : Int) := ⟨_, (Int.toNat_of_nonneg pw.1).symm⟩
  have hki : k < l.length := by omega
  have CP := s_pick (G := G) (σ := σq4) i l.length hi1 hi2 (by omega) (by omega)
  rw [hk] at CP
  refine W.seq ?_
  refine W.region ?_
  refine RW.val (by kernel_rfl) (by kernel_rfl) rfl (by kernel_rfl) ?_
  refine RW.val (by kernel_rfl) (by kernel_rfl) rfl (by kernel_rfl) ?_
  refine RW.len (by kernel_rfl) (by kernel_rfl) rfl rfl rfl rfl a1.vw.len (by kernel_rfl) ?_
  refine RW.call (by kernel_rfl) (by kernel_rfl) rfl rfl rfl (by kernel_rfl) (by kernel_rfl) ⟨_, _, CP, ?_⟩
  refine RW.val (by kernel_rfl) (by kernel_rfl) rfl (by kernel_rfl) ?_
  clear CP pw hk
  refine RW.nil ?_
  refine W.reset [(0, v1), (5, pp σ0.next), (7, pp h), (9, .slice (some ⟨q, 0, some 2⟩) l.length c), (10, pp σs1.next), (11, .int .i64 0), (12, pp σs3.next), (13, .int .i64 0), (14, .int .i64 (k : Int))] ⟨rfl, rfl, rfl, rfl, rfl, rfl, rfl, rfl, rfl, trivial⟩ fun TA => ?_
  obtain ⟨qa, pa, spa, ca, ra, hva, hra, hca⟩ := sl_at (l := l) (j := k) (a1.vw.at_ hl0) hki
  have hqa := Mem.lt hra
  subst hva
  have hcb : ra.cs[pa + ((k : Nat) : Int).toNat * 2 + 1]? = some (.int .i64 (l.getD k (0, 0)).2) := take2 hca
  have rg : σq4.get qa = some (.row ra) := K0 _ _ hra
  refine W.seq ?_
  refine W.region ?_
  refine RW.val (by kernel_rfl) (by kernel_rfl) rfl (by kernel_rfl) ?_
  refine RW.val (by kernel_rfl) (by kernel_rfl) rfl (by kernel_rfl) ?_
  refine RW.val (by kernel_rfl) (by kernel_rfl) rfl (by kernel_rfl) ?_
  refine RW.val (by kernel_rfl) (by kernel_rfl) rfl (by kernel_rfl) ?_
  refine RW.know 58 (x := .slice (some ⟨qa, pa, spa⟩) l.length ca) rfl ?_
  refine RW.idx (s := 2) (by kernel_rfl) (by kernel_rfl) rfl Tryd.underlying22 (by kernel_rfl) rfl rfl ⟨by omega, by omega⟩ (by kernel_rfl) ?_
  refine RW.val (by kernel_rfl) (by kernel_rfl) rfl (by kernel_rfl) ?_
  refine RW.load (by kernel_rfl) (by kernel_rfl) rfl rfl rg hcb rfl (by kernel_rfl) ?_
  refine RW.val (by kernel_rfl) (by kernel_rfl) rfl (by kernel_rfl) ?_
  refine RW.val (by kernel_rfl) (by kernel_rfl) rfl (by kernel_rfl) ?_
  refine RW.call (by kernel_rfl) (by kernel_rfl) rfl rfl rfl (by kernel_rfl) (by kernel_rfl) ⟨_, _, (s_word _ _), ?_⟩
  refine RW.know 56 (x := .slice (some ⟨q, 0, some 2⟩) l.length c) rfl ?_
  refine RW.idx (s := 2) (by kernel_rfl) (by kernel_rfl) rfl Tryd.underlying22 (by kernel_rfl) rfl rfl ⟨by omega, by omega⟩ (by kernel_rfl) ?_
  refine RW.stores (b := q) (p := 0 + ((k : Nat) : Int).toNat * 2) (r := rq) (by kernel_rfl) (by kernel_rfl) rfl rfl (by omega) hrq rfl rfl (by kernel_rfl) (by show 0 + ((k : Nat) : Int).toNat * 2 + 2 ≤ _; omega) (by kernel_rfl) ?_
  generalize hput : σq4.put q _ = σw
  obtain ⟨X0, sp⟩ : ∃ X, Set1 σq4 σw q X := ⟨_, by rw [← hput]; exact set1_put hrq⟩
  clear hput
  clear sv hrq hrq0
  have K1 := sp.old
  have nn : σq4.next ≤ σw.next := by rw [sp.nx]; exact Nat.le_refl _
  replace K0 : ∀ b y, σ0.get b = some y → σw.get b = some y := fun b y hy => K1 b y (by have := Mem.lt hy; omega) (K0 b y hy)
  replace r5 := K1 _ _ (by omega) r5
  replace r10 := K1 _ _ (by omega) r10
  replace r12 := K1 _ _ (by omega) r12
  replace gn : σ1.next ≤ σw.next := by omega
  replace ha := sp.abs.trans ha
  clear K1 sp rg
  refine RW.nil ?_
  refine W.reset [(0, .slice (some ⟨qa, pa, spa⟩) l.length ca), (5, pp σ0.next), (7, pp h), (10, pp σs1.next), (11, .int .i64 0), (12, pp σs3.next), (13, .int .i64 0), (14, .int .i64 (k : Int))] ⟨rfl, rfl, rfl, rfl, rfl, rfl, rfl, rfl, trivial⟩ fun TA => ?_
  obtain ⟨g, hg⟩ : ∃ g, g = σw.next := ⟨_, rfl⟩
  have CP := s_copyAll (G := G) ha rfl
  rw [← hg] at CP
  obtain ⟨σp, hσp⟩ : ∃ s, s = σw.also (heapAbs2 h (hA l l) g (hA l l)) := ⟨_, rfl⟩
  rw [← hσp] at CP
  have np : σp.next = g + 1 := by rw [hσp, hg]; rfl
  refine W.seq ?_
  refine W.region ?_
  refine RW.val (by kernel_rfl) (by kernel_rfl) rfl (by kernel_rfl) ?_
  refine RW.call (by kernel_rfl) (by kernel_rfl) rfl rfl rfl (by kernel_rfl) (by kernel_rfl) ⟨_, _, CP, ?_⟩
  refine RW.val (by kernel_rfl) (by kernel_rfl) rfl (by kernel_rfl) ?_
  have K : ∀ b y, σw.get b = some y → σp.get b = some y := fun b y hy => by rw [hσp, also_get]; exact hy
  replace K0 : ∀ b y, σ0.get b = some y → σp.get b = some y := fun b y hy => K b y (K0 b y hy)
  replace r5 := K _ _ r5
  replace r10 := K _ _ r10
  replace r12 := K _ _ r12
  have nn : σw.next ≤ σp.next := by omega
  replace gn : σ1.next ≤ σp.next := by omega
  replace ha := (show σp.abs = heapAbs2 h (hA l l) g (hA l l) by rw [hσp]; rfl)
  clear K
  clear hσp CP
  refine RW.nil ?_
  refine W.reset [(0, .slice (some ⟨qa, pa, spa⟩) l.length ca), (5, pp σ0.next), (7, pp h), (10, pp σs1.next), (11, .int .i64 0), (12, pp σs3.next), (13, .int .i64 0), (14, .int .i64 (k : Int)), (15, pp g)] ⟨rfl, rfl, rfl, rfl, rfl, rfl, rfl, rfl, rfl, trivial⟩ fun TA => ?_
  have CS := s2_setAt (G := G) (4, 0) (k : Int) x ha
  rw [setA hki] at CS
  refine W.seq ?_
  refine W.seq ?_
  refine W.region ?_
  refine RW.val (by kernel_rfl) (by kernel_rfl) rfl (by kernel_rfl) ?_
  refine RW.val (by kernel_rfl) (by kernel_rfl) rfl (by kernel_rfl) ?_
  refine RW.val (by kernel_rfl) (by kernel_rfl) rfl (by kernel_rfl) ?_
  refine RW.val (by rfl) (by kernel_rfl) rfl (by kernel_rfl) ?_
  refine RW.val (by rfl) (by kernel_rfl) rfl (by kernel_rfl) ?_
  refine RW.val (by kernel_rfl) (by kernel_rfl) rfl (by kernel_rfl) ?_
  refine RW.val (by kernel_rfl) (by kernel_rfl) rfl (by kernel_rfl) ?_
  refine RW.val (by rfl) (by kernel_rfl) rfl (by kernel_rfl) ?_
  refine RW.val (by rfl) (by kernel_rfl) rfl (by kernel_rfl) ?_
  refine RW.val (by kernel_rfl) (by kernel_rfl) rfl (by kernel_rfl) ?_
  refine RW.val (by kernel_rfl) (by kernel_rfl) rfl (by kernel_rfl) ?_
  refine RW.val (by rfl) (by kernel_rfl) rfl (by kernel_rfl) ?_
  refine RW.loads 2 (by rfl) (by kernel_rfl) rfl rfl r10 rfl rfl (by kernel_rfl) ?_
  refine RW.val (by rfl) (by kernel_rfl) rfl (by kernel_rfl) ?_
  refine RW.loads 2 (by rfl) (by kernel_rfl) rfl rfl r5 rfl rfl (by kernel_rfl) ?_
  refine RW.call (by rfl) (by kernel_rfl) rfl rfl rfl (by kernel_rfl) (by kernel_rfl) ⟨_, _, CS, ?_⟩
  refine RW.val (by rfl) (by kernel_rfl) rfl (by kernel_rfl) ?_
  refine RW.val (by kernel_rfl) (by kernel_rfl) rfl (by kernel_rfl) ?_
  obtain ⟨σs6, hs⟩ : ∃ Z, Z = σp.with (heapAbs2 h (hA l l) g (hA (l.set k x) l)) := ⟨_, rfl⟩
  rw [← hs]
  have ns : σs6.next = σp.next := by rw [hs]; rfl
  have K : ∀ b y, σp.get b = some y → σs6.get b = some y := fun b y hy => by rw [hs, with_get]; exact hy
  replace K0 : ∀ b y, σ0.get b = some y → σs6.get b = some y := fun b y hy => K b y (K0 b y hy)
  replace r5 := K _ _ r5
  replace r10 := K _ _ r10
  replace r12 := K _ _ r12
  have nn : σp.next ≤ σs6.next := by omega
  replace gn : σ1.next ≤ σs6.next := by omega
  replace ha := (show σs6.abs = heapAbs2 h (hA l l) g (hA (l.set k x) l) by rw [hs]; rfl)
  clear K
  clear hs
  clear CS
  refine RW.nil ?_
  refine W.cond (b := false) rfl (fun h => by cases h) (fun _ => ?_)
  refine W.skip ?_
  refine W.reset [(0, .slice (some ⟨qa, pa, spa⟩) l.length ca), (5, pp σ0.next), (7, pp h), (10, pp σs1.next), (12, pp σs3.next), (14, .int .i64 (k : Int)), (15, pp g)] ⟨rfl, rfl, rfl, rfl, rfl, rfl, rfl, trivial⟩ fun TA => ?_
  obtain ⟨A1, hA1⟩ : ∃ A, A = σs6.next := ⟨_, rfl⟩
  have CV := s2_vecOf (G := G) (x := (4, 0)) (l := l) ha rfl hl0 (by omega)
  rw [← hA1] at CV
  obtain ⟨σv1, hv⟩ : ∃ s, s = σs6.push (.row ⟨wdC l, 24, true⟩) := ⟨_, rfl⟩
  rw [← hv] at CV
  have nv1 : σv1.next = A1 + 1 := by rw [hv, hA1]; rfl
  have rA : σv1.get A1 = some (.row ⟨wdC l, 24, true⟩) := by rw [hv, hA1]; exact get_push
  refine W.seq ?_
  refine W.region ?_
  refine RW.val (by kernel_rfl) (by kernel_rfl) rfl (by kernel_rfl) ?_
  refine RW.loads 2 (by kernel_rfl) (by kernel_rfl) rfl rfl r10 rfl rfl (by kernel_rfl) ?_
  refine RW.call (by kernel_rfl) (by kernel_rfl) rfl rfl rfl (by kernel_rfl) (by kernel_rfl) ⟨_, _, CV, ?_⟩
  have K : ∀ b y, σs6.get b = some y → σv1.get b = some y := fun b y hy => by rw [hv]; exact get_push_old hy
  replace K0 : ∀ b y, σ0.get b = some y → σv1.get b = some y := fun b y hy => K b y (K0 b y hy)
  replace r5 := K _ _ r5
  replace r10 := K _ _ r10
  replace r12 := K _ _ r12
  have nn : σs6.next ≤ σv1.next := by omega
  replace gn : σ1.next ≤ σv1.next := by omega
  replace ha := (show σv1.abs = heapAbs2 h (hA l l) g (hA (l.set k x) l) by rw [hv]; exact ha)
  clear K
  clear CV hv
  refine RW.val (by kernel_rfl) (by kernel_rfl) rfl (by kernel_rfl) ?_
  refine RW.val (by kernel_rfl) (by kernel_rfl) rfl (by kernel_rfl) ?_
  refine RW.val (by kernel_rfl) (by kernel_rfl) rfl (by kernel_rfl) ?_
  refine RW.val (by kernel_rfl) (by kernel_rfl) rfl (by kernel_rfl) ?_
  refine RW.val (by kernel_rfl) (by kernel_rfl) rfl (by kernel_rfl) ?_
  refine RW.nil ?_
  refine W.reset [(0, .slice (some ⟨qa, pa, spa⟩) l.length ca), (5, pp σ0.next), (7, pp h), (10, pp σs1.next), (12, pp σs3.next), (14, .int .i64 (k : Int)), (15, pp g), (16, .slice (some ⟨A1, 0, some 2⟩) l.length l.length), (17, .int .i64 0)] ⟨rfl, rfl, rfl, rfl, rfl, rfl, rfl, rfl, rfl, trivial⟩ fun TA => ?_
  obtain ⟨B1, hB1⟩ : ∃ B, B = σv1.next := ⟨_, rfl⟩
  have CV := s2_codeOf (G := G) (X := (6, 1)) (x := 0) (y := 0) (z := 0) (bs := [1, 2]) (cs := l) ha rfl (by decide) hl0 (by decide) (by omega)
  rw [← hB1] at CV
  obtain ⟨σd1, hv⟩ : ∃ s, s = (σv1.push (.row ⟨byC [1, 2], 5, true⟩)).push (.row ⟨wdC l, 24, true⟩) := ⟨_, rfl⟩
  rw [← hv] at CV
  have nd1 : σd1.next = B1 + 1 + 1 := by rw [hv, hB1]; rfl
  have rC : σd1.get (B1 + 1) = some (.row ⟨wdC l, 24, true⟩) := by rw [hv, hB1]; exact get_push (σ := σv1.push _)
  have rB : σd1.get B1 = some (.row ⟨byC [1, 2], 5, true⟩) := by rw [hv, hB1]; exact get_push_old get_push
  refine W.seq ?_
  refine W.region ?_
  refine RW.val (by kernel_rfl) (by kernel_rfl) rfl (by kernel_rfl) ?_
  refine RW.loads 2 (by kernel_rfl) (by kernel_rfl) rfl rfl r12 rfl rfl (by kernel_rfl) ?_
  refine RW.call (by kernel_rfl) (by kernel_rfl) rfl rfl rfl (by kernel_rfl) (by kernel_rfl) ⟨_, _, CV, ?_⟩
  have K : ∀ b y, σv1.get b = some y → σd1.get b = some y := fun b y hy => by rw [hv]; exact get_push_old (get_push_old hy)
  replace K0 : ∀ b y, σ0.get b = some y → σd1.get b = some y := fun b y hy => K b y (K0 b y hy)
  replace r5 := K _ _ r5
  replace r10 := K _ _ r10
  replace r12 := K _ _ r12
  replace rA := K _ _ rA
  have nn : σv1.next ≤ σd1.next := by omega
  replace gn : σ1.next ≤ σd1.next := by omega
  replace ha := (show σd1.abs = heapAbs2 h (hA l l) g (hA (l.set k x) l) by rw [hv]; exact ha)
  clear K
  clear CV hv
  refine RW.val (by kernel_rfl) (by kernel_rfl) rfl (by kernel_rfl) ?_
  refine RW.val (by kernel_rfl) (by kernel_rfl) rfl (by kernel_rfl) ?_
  refine RW.val (by kernel_rfl) (by kernel_rfl) rfl (by kernel_rfl) ?_
  refine RW.varS (d := 18) (r0 := ⟨[.int .i64 0, .int .i64 0, .int .i64 0, .slice none 0 0, .slice none 0 0], 49, false⟩) (vs := #[.int .i64 0, .int .i64 0, .int .i64 0, .slice (some ⟨B1, 0, some 1⟩) 2 2, .slice (some ⟨B1 + 1, 0, some 2⟩) l.length l.length]) (by kernel_rfl) (by kernel_rfl) (by kernel_rfl) rfl (by kernel_rfl) rfl (by kernel_rfl) rfl rfl rfl rfl (by kernel_rfl) rfl (by omega) ?_
  intro σq18 _ r18 oq nq aq
  have K : ∀ b y, σd1.get b = some y → σq18.get b = some y := oq
  replace K0 : ∀ b y, σ0.get b = some y → σq18.get b = some y := fun b y hy => K b y (K0 b y hy)
  replace r5 := K _ _ r5
  replace r10 := K _ _ r10
  replace r12 := K _ _ r12
  replace rA := K _ _ rA
  replace rB := K _ _ rB
  replace rC := K _ _ rC
  have nn : σd1.next ≤ σq18.next := by omega
  replace gn : σ1.next ≤ σq18.next := by omega
  replace ha := aq.trans ha
  clear K
  clear oq aq
  refine RW.val (by kernel_rfl) (by kernel_rfl) rfl (by kernel_rfl) ?_
  refine RW.nil ?_
  refine W.reset [(0, .slice (some ⟨qa, pa, spa⟩) l.length ca), (5, pp σ0.next), (7, pp h), (10, pp σs1.next), (12, pp σs3.next), (14, .int .i64 (k : Int)), (15, pp g), (16, .slice (some ⟨A1, 0, some 2⟩) l.length l.length), (17, .int .i64 0), (18, pp σd1.next), (19, .int .i64 0)] ⟨rfl, rfl, rfl, rfl, rfl, rfl, rfl, rfl, rfl, rfl, rfl, trivial⟩ fun TA => ?_
  have SA := same_yes (G := G) (Nat.le_trans gG gn) (vw_row rA) (a1.vw.old K0) (by omega)
  have SC := same_yes (G := G) (Nat.le_trans gG gn) (vw_row rC) (a1.vw.old K0) (by omega)
  refine W.seq ?_
  refine W.seq ?_
  refine W.region ?_
  refine RW.val (by kernel_rfl) (by kernel_rfl) rfl (by kernel_rfl) ?_
  refine RW.val (by kernel_rfl) (by kernel_rfl) rfl (by kernel_rfl) ?_
  refine RW.val (by kernel_rfl) (by kernel_rfl) rfl (by kernel_rfl) ?_
  refine RW.val (by rfl) (by kernel_rfl) rfl (by kernel_rfl) ?_
  refine RW.val (by rfl) (by kernel_rfl) rfl (by kernel_rfl) ?_
  refine RW.val (by kernel_rfl) (by kernel_rfl) rfl (by kernel_rfl) ?_
  refine RW.val (by kernel_rfl) (by kernel_rfl) rfl (by kernel_rfl) ?_
  refine RW.val (by rfl) (by kernel_rfl) rfl (by kernel_rfl) ?_
  refine RW.val (by rfl) (by kernel_rfl) rfl (by kernel_rfl) ?_
  refine RW.call (by rfl) (by kernel_rfl) rfl rfl rfl (by kernel_rfl) (by kernel_rfl) ⟨_, _, SA, ?_⟩
  refine RW.val (by rfl) (by kernel_rfl) rfl (by kernel_rfl) ?_
  refine RW.val (by kernel_rfl) (by kernel_rfl) rfl (by kernel_rfl) ?_
  refine RW.val (by kernel_rfl) (by kernel_rfl) rfl (by kernel_rfl) ?_
  refine RW.val (by rfl) (by kernel_rfl) rfl (by kernel_rfl) ?_
  refine RW.load (by rfl) (by kernel_rfl) rfl rfl r18 rfl rfl (by kernel_rfl) ?_
  refine RW.val (by rfl) (by kernel_rfl) rfl (by kernel_rfl) ?_
  refine RW.call (by rfl) (by kernel_rfl) rfl rfl rfl (by kernel_rfl) (by kernel_rfl) ⟨_, _, SC, ?_⟩
  refine RW.val (by rfl) (by kernel_rfl) rfl (by kernel_rfl) ?_
  refine RW.val (by kernel_rfl) (by kernel_rfl) rfl (by kernel_rfl) ?_
  refine RW.val (by kernel_rfl) (by kernel_rfl) rfl (by kernel_rfl) ?_
  refine RW.val (by rfl) (by kernel_rfl) rfl (by kernel_rfl) ?_
  refine RW.load (by rfl) (by kernel_rfl) rfl rfl r18 rfl rfl (by kernel_rfl) ?_
  refine RW.len (v := .int .i64 ((2 : Nat) : Int)) (by rfl) (by kernel_rfl) rfl rfl rfl rfl (by kernel_rfl) (by kernel_rfl) ?_
  refine RW.val (by rfl) (by kernel_rfl) rfl (by kernel_rfl) ?_
  refine RW.val (by kernel_rfl) (by kernel_rfl) rfl (by kernel_rfl) ?_
  refine RW.nil ?_
  refine W.cond (b := false) rfl (fun h => by cases h) (fun _ => ?_)
  refine W.skip ?_
  clear SA SC
  refine W.reset [(0, .slice (some ⟨qa, pa, spa⟩) l.length ca), (5, pp σ0.next), (7, pp h), (10, pp σs1.next), (12, pp σs3.next), (14, .int .i64 (k : Int)), (15, pp g), (16, .slice (some ⟨A1, 0, some 2⟩) l.length l.length), (18, pp σd1.next)] ⟨rfl, rfl, rfl, rfl, rfl, rfl, rfl, rfl, rfl, trivial⟩ fun TA => ?_
  have rg : σq18.get qa = some (.row ra) := K0 _ _ hra
  have hwl := wdC_length l
  refine W.seq ?_
  refine W.drawn (by kernel_rfl) (by kernel_rfl) (Nat.le_trans gG gn) ?_
  refine RW.val (by kernel_rfl) (by kernel_rfl) rfl (by kernel_rfl) ?_
  refine RW.val (by kernel_rfl) (by kernel_rfl) rfl (by kernel_rfl) ?_
  refine RW.val (by kernel_rfl) (by kernel_rfl) rfl (by kernel_rfl) ?_
  refine RW.load (by kernel_rfl) (by kernel_rfl) rfl rfl r18 rfl rfl (by kernel_rfl) ?_
  refine RW.val (by kernel_rfl) (by kernel_rfl) rfl (by kernel_rfl) ?_
  refine RW.val (by kernel_rfl) (by kernel_rfl) rfl (by kernel_rfl) ?_
  refine RW.load (by kernel_rfl) (by kernel_rfl) rfl rfl r18 rfl rfl (by kernel_rfl) ?_
  refine RW.val (by kernel_rfl) (by kernel_rfl) rfl (by kernel_rfl) ?_
  refine RW.val (by kernel_rfl) (by kernel_rfl) rfl (by kernel_rfl) ?_
  refine RW.know 131 (x := .slice (some ⟨qa, pa, spa⟩) l.length ca) rfl ?_
  refine RW.idx (s := 2) (by kernel_rfl) (by kernel_rfl) rfl Tryd.underlying22 (by kernel_rfl) rfl rfl ⟨by omega, by omega⟩ (by kernel_rfl) ?_
  refine RW.val (by kernel_rfl) (by kernel_rfl) rfl (by kernel_rfl) ?_
  refine RW.load (by kernel_rfl) (by kernel_rfl) rfl rfl rg hcb rfl (by kernel_rfl) ?_
  refine RW.val (by kernel_rfl) (by kernel_rfl) rfl (by kernel_rfl) ?_
  refine RW.val (by kernel_rfl) (by kernel_rfl) rfl (by kernel_rfl) ?_
  refine RW.call (by kernel_rfl) (by kernel_rfl) rfl rfl rfl (by kernel_rfl) (by kernel_rfl) ⟨_, _, (s_word _ _), ?_⟩
  refine RW.val (by kernel_rfl) (by kernel_rfl) rfl (by kernel_rfl) ?_
  refine RW.val (by kernel_rfl) (by kernel_rfl) rfl (by kernel_rfl) ?_
  refine RW.know 139 (x := .slice (some ⟨qa, pa, spa⟩) l.length ca) rfl ?_
  refine RW.idx (s := 2) (by kernel_rfl) (by kernel_rfl) rfl Tryd.underlying22 (by kernel_rfl) rfl rfl ⟨by omega, by omega⟩ (by kernel_rfl) ?_
  refine RW.val (by kernel_rfl) (by kernel_rfl) rfl (by kernel_rfl) ?_
  refine RW.load (by kernel_rfl) (by kernel_rfl) rfl rfl rg hcb rfl (by kernel_rfl) ?_
  refine RW.val (by kernel_rfl) (by kernel_rfl) rfl (by kernel_rfl) ?_
  refine RW.val (by kernel_rfl) (by kernel_rfl) rfl (by kernel_rfl) ?_
  refine RW.call (by kernel_rfl) (by kernel_rfl) rfl rfl rfl (by kernel_rfl) (by kernel_rfl) ⟨_, _, (s_word _ _), ?_⟩
  refine RW.know 124 (x := .slice (some ⟨A1, 0, some 2⟩) l.length l.length) rfl ?_
  refine RW.idx (s := 2) (by kernel_rfl) (by kernel_rfl) rfl Tryd.underlying22 (by kernel_rfl) rfl rfl ⟨by omega, by omega⟩ (by kernel_rfl) ?_
  refine RW.stores (b := A1) (p := 0 + ((k : Nat) : Int).toNat * 2) (r := ⟨wdC l, 24, true⟩) (by kernel_rfl) (by kernel_rfl) rfl rfl (by omega) rA rfl rfl (by kernel_rfl) (by show 0 + ((k : Nat) : Int).toNat * 2 + 2 ≤ (wdC l).length; omega) (by kernel_rfl) ?_
  generalize hp1 : σq18.put A1 _ = σx1
  obtain ⟨X1, sp1⟩ : ∃ X, Set1 σq18 σx1 A1 X := ⟨_, by rw [← hp1]; exact set1_put rA⟩
  have c1 := sp1.old _ _ (by omega) rC
  have d1 := sp1.old _ _ (by omega) rB
  have r18a := sp1.old _ _ (by omega) r18
  have rga := sp1.old _ _ (by omega) rg
  refine RW.know 127 (x := .slice (some ⟨B1 + 1, 0, some 2⟩) l.length l.length) rfl ?_
  refine RW.idx (s := 2) (by kernel_rfl) (by kernel_rfl) rfl Tryd.underlying22 (by kernel_rfl) rfl rfl ⟨by omega, by omega⟩ (by kernel_rfl) ?_
  refine RW.stores (b := B1 + 1) (p := 0 + ((k : Nat) : Int).toNat * 2) (r := ⟨wdC l, 24, true⟩) (by kernel_rfl) (by kernel_rfl) rfl rfl (by omega) c1 rfl rfl (by kernel_rfl) (by show 0 + ((k : Nat) : Int).toNat * 2 + 2 ≤ (wdC l).length; omega) (by kernel_rfl) ?_
  generalize hp2 : σx1.put (B1 + 1) _ = σx2
  obtain ⟨X2, sp2⟩ : ∃ X, Set1 σx1 σx2 (B1 + 1) X := ⟨_, by rw [← hp2]; exact set1_put c1⟩
  have d2 := sp2.old _ _ (by omega) d1
  have r18b := sp2.old _ _ (by omega) r18a
  have rgb := sp2.old _ _ (by omega) rga
  refine RW.know 130 (x := .slice (some ⟨B1, 0, some 1⟩) 2 2) rfl ?_
  refine RW.idx (s := 1) (by kernel_rfl) (by kernel_rfl) rfl Tryd.underlying47 (by kernel_rfl) rfl rfl ⟨by decide, by decide⟩ (by kernel_rfl) ?_
  refine RW.store (b := B1) (p := 0 + ((0 : Int)).toNat * 1) (r := ⟨byC [1, 2], 5, true⟩) (by kernel_rfl) (by kernel_rfl) rfl rfl (by omega) d2 rfl rfl rfl (by kernel_rfl) (by decide) (by kernel_rfl) ?_
  generalize hp3 : σx2.put B1 _ = σx3
  obtain ⟨X3, sp3⟩ : ∃ X, Set1 σx2 σx3 B1 X := ⟨_, by rw [← hp3]; exact set1_put d2⟩
  have r18c := sp3.old _ _ (by omega) r18b
  have rgc := sp3.old _ _ (by omega) rgb
  refine RW.nil ?_
  refine ⟨⟨by kernel_rfl, ?_⟩, ?_⟩
  · repeat' (first | exact True.intro | refine dyn_row r18 r18c ?_ | exact fun _ => r18 | exact fun _ => r18a | exact fun _ => r18b | exact fun _ => r18c | refine dyn_row rg rgc ?_ | exact fun _ => rg | exact fun _ => rga | exact fun _ => rgb | exact fun _ => rgc | exact fun h => Bool.noConfusion h | refine And.intro ?_ ?_ | exact Or.inl (by kernel_rfl))
  clear r18a r18b r18c rga rgb rgc c1 d1 d2 rg hp1 hp2 hp3 rA rB rC
  have q1 := sp1.nx
  have q2 := sp2.nx
  have q3 := sp3.nx
  have K1 : ∀ b y, b ≠ A1 → b ≠ B1 → b ≠ B1 + 1 → σq18.get b = some y → σx3.get b = some y := fun b y e1 e2 e3 hy => sp3.old b y e2 (sp2.old b y e3 (sp1.old b y e1 hy))
  replace K0 : ∀ b y, σ0.get b = some y → σx3.get b = some y := fun b y hy => K1 b y (by have := Mem.lt hy; omega) (by have := Mem.lt hy; omega) (by have := Mem.lt hy; omega) (K0 b y hy)
  replace r5 := K1 _ _ (by omega) (by omega) (by omega) r5
  replace r10 := K1 _ _ (by omega) (by omega) (by omega) r10
  replace r12 := K1 _ _ (by omega) (by omega) (by omega) r12
  replace r18 := K1 _ _ (by omega) (by omega) (by omega) r18
  replace gn : σ1.next ≤ σx3.next := by omega
  replace ha := sp3.abs.trans (sp2.abs.trans (sp1.abs.trans ha))
  clear K1 sp1 sp2 sp3
  refine W.reset [(0, .slice (some ⟨qa, pa, spa⟩) l.length ca), (5, pp σ0.next), (7, pp h), (10, pp σs1.next), (12, pp σs3.next), (14, .int .i64 (k : Int)), (15, pp g), (18, pp σd1.next)] ⟨rfl, rfl, rfl, rfl, rfl, rfl, rfl, rfl, trivial⟩ fun TA => ?_
  obtain ⟨A2, hA2⟩ : ∃ A, A = σx3.next := ⟨_, rfl⟩
  have CV := s2_vecOf (G := G) (x := (4, 0)) (l := l) ha rfl hl0 (by omega)
  rw [← hA2] at CV
  obtain ⟨σv2, hv⟩ : ∃ s, s = σx3.push (.row ⟨wdC l, 24, true⟩) := ⟨_, rfl⟩
  rw [← hv] at CV
  have nv2 : σv2.next = A2 + 1 := by rw [hv, hA2]; rfl
  have rA : σv2.get A2 = some (.row ⟨wdC l, 24, true⟩) := by rw [hv, hA2]; exact get_push
  refine W.seq ?_
  refine W.region ?_
  refine RW.val (by kernel_rfl) (by kernel_rfl) rfl (by kernel_rfl) ?_
  refine RW.loads 2 (by kernel_rfl) (by kernel_rfl) rfl rfl r10 rfl rfl (by kernel_rfl) ?_
  refine RW.call (by kernel_rfl) (by kernel_rfl) rfl rfl rfl (by kernel_rfl) (by kernel_rfl) ⟨_, _, CV, ?_⟩
  have K : ∀ b y, σx3.get b = some y → σv2.get b = some y := fun b y hy => by rw [hv]; exact get_push_old hy
  replace K0 : ∀ b y, σ0.get b = some y → σv2.get b = some y := fun b y hy => K b y (K0 b y hy)
  replace r5 := K _ _ r5
  replace r10 := K _ _ r10
  replace r12 := K _ _ r12
  replace r18 := K _ _ r18
  have nn : σx3.next ≤ σv2.next := by omega
  replace gn : σ1.next ≤ σv2.next := by omega
  replace ha := (show σv2.abs = heapAbs2 h (hA l l) g (hA (l.set k x) l) by rw [hv]; exact ha)
  clear K
  clear CV hv
  refine RW.val (by kernel_rfl) (by kernel_rfl) rfl (by kernel_rfl) ?_
  refine RW.val (by kernel_rfl) (by kernel_rfl) rfl (by kernel_rfl) ?_
  refine RW.val (by kernel_rfl) (by kernel_rfl) rfl (by kernel_rfl) ?_
  refine RW.val (by kernel_rfl) (by kernel_rfl) rfl (by kernel_rfl) ?_
  refine RW.nil ?_
  refine W.reset [(0, .slice (some ⟨qa, pa, spa⟩) l.length ca), (5, pp σ0.next), (7, pp h), (10, pp σs1.next), (12, pp σs3.next), (14, .int .i64 (k : Int)), (15, pp g), (18, pp σd1.next), (16, .slice (some ⟨A2, 0, some 2⟩) l.length l.length)] ⟨rfl, rfl, rfl, rfl, rfl, rfl, rfl, rfl, rfl, trivial⟩ fun TA => ?_
  obtain ⟨B2, hB2⟩ : ∃ B, B = σv2.next := ⟨_, rfl⟩
  have CV := s2_codeOf (G := G) (X := (6, 1)) (x := 0) (y := 0) (z := 0) (bs := [1, 2]) (cs := l) ha rfl (by decide) hl0 (by decide) (by omega)
  rw [← hB2] at CV
  obtain ⟨σd2, hv⟩ : ∃ s, s = (σv2.push (.row ⟨byC [1, 2], 5, true⟩)).push (.row ⟨wdC l, 24, true⟩) := ⟨_, rfl⟩
  rw [← hv] at CV
  have nd2 : σd2.next = B2 + 1 + 1 := by rw [hv, hB2]; rfl
  have rC : σd2.get (B2 + 1) = some (.row ⟨wdC l, 24, true⟩) := by rw [hv, hB2]; exact get_push (σ := σv2.push _)
  have rB : σd2.get B2 = some (.row ⟨byC [1, 2], 5, true⟩) := by rw [hv, hB2]; exact get_push_old get_push
  refine W.seq ?_
  refine W.region ?_
  refine RW.val (by kernel_rfl) (by kernel_rfl) rfl (by kernel_rfl) ?_
  refine RW.loads 2 (by kernel_rfl) (by kernel_rfl) rfl rfl r12 rfl rfl (by kernel_rfl) ?_
  refine RW.call (by kernel_rfl) (by kernel_rfl) rfl rfl rfl (by kernel_rfl) (by kernel_rfl) ⟨_, _, CV, ?_⟩
  have K : ∀ b y, σv2.get b = some y → σd2.get b = some y := fun b y hy => by rw [hv]; exact get_push_old (get_push_old hy)
  replace K0 : ∀ b y, σ0.get b = some y → σd2.get b = some y := fun b y hy => K b y (K0 b y hy)
  replace r5 := K _ _ r5
  replace r10 := K _ _ r10
  replace r12 := K _ _ r12
  replace r18 := K _ _ r18
  replace rA := K _ _ rA
  have nn : σv2.next ≤ σd2.next := by omega
  replace gn : σ1.next ≤ σd2.next := by omega
  replace ha := (show σd2.abs = heapAbs2 h (hA l l) g (hA (l.set k x) l) by rw [hv]; exact ha)
  clear K
  clear CV hv
  refine RW.val (by kernel_rfl) (by kernel_rfl) rfl (by kernel_rfl) ?_
  refine RW.val (by kernel_rfl) (by kernel_rfl) rfl (by kernel_rfl) ?_
  refine RW.val (by kernel_rfl) (by kernel_rfl) rfl (by kernel_rfl) ?_
  refine RW.setG (b := σd1.next) (vs := #[.int .i64 0, .int .i64 0, .int .i64 0, .slice (some ⟨B2, 0, some 1⟩) 2 2, .slice (some ⟨B2 + 1, 0, some 2⟩) l.length l.length]) (by kernel_rfl) (by kernel_rfl) rfl rfl (by omega) r18 rfl rfl (by kernel_rfl) rfl (by kernel_rfl) ?_; intro σy _ sy
  replace r18 := sy.at_
  have K1 := sy.old
  have nn : σy.next = σd2.next := sy.nx
  replace K0 : ∀ b y, σ0.get b = some y → σy.get b = some y := fun b y hy => K1 b y (by have := Mem.lt hy; omega) (K0 b y hy)
  replace r5 := K1 _ _ (by omega) r5
  replace r10 := K1 _ _ (by omega) r10
  replace r12 := K1 _ _ (by omega) r12
  replace rA := K1 _ _ (by omega) rA
  replace rB := K1 _ _ (by omega) rB
  replace rC := K1 _ _ (by omega) rC
  replace gn : σ1.next ≤ σy.next := by omega
  replace ha := sy.abs.trans ha
  clear K1 sy
  refine RW.nil ?_
  refine W.reset [(0, .slice (some ⟨qa, pa, spa⟩) l.length ca), (5, pp σ0.next), (7, pp h), (10, pp σs1.next), (12, pp σs3.next), (14, .int .i64 (k : Int)), (15, pp g), (18, pp σd1.next), (16, .slice (some ⟨A2, 0, some 2⟩) l.length l.length)] ⟨rfl, rfl, rfl, rfl, rfl, rfl, rfl, rfl, rfl, trivial⟩ fun TA => ?_
  have CA := s2_at (G := G) (4, 0) (k : Int) ha
  rw [atA hki] at CA
  refine W.seq ?_
  refine W.region ?_
  refine RW.val (by kernel_rfl) (by kernel_rfl) rfl (by kernel_rfl) ?_
  refine RW.loads 2 (by kernel_rfl) (by kernel_rfl) rfl rfl r10 rfl rfl (by kernel_rfl) ?_
  refine RW.val (by kernel_rfl) (by kernel_rfl) rfl (by kernel_rfl) ?_
  refine RW.call (by kernel_rfl) (by kernel_rfl) rfl rfl rfl (by kernel_rfl) (by kernel_rfl) ⟨_, _, CA, ?_⟩
  refine RW.val (by kernel_rfl) (by kernel_rfl) rfl (by kernel_rfl) ?_
  refine RW.val (by kernel_rfl) (by kernel_rfl) rfl (by kernel_rfl) ?_
  refine RW.val (by kernel_rfl) (by kernel_rfl) rfl (by kernel_rfl) ?_
  refine RW.varS (d := 20) (r0 := ⟨[.int .i64 0, .int .i64 0], 24, false⟩) (vs := #[.int .i64 x.1, .int .i64 x.2]) (by kernel_rfl) (by kernel_rfl) (by kernel_rfl) rfl (by kernel_rfl) rfl (by kernel_rfl) rfl rfl rfl rfl (by kernel_rfl) rfl (by omega) ?_
  intro σq7 _ r20 oq nq aq
  have K : ∀ b y, σy.get b = some y → σq7.get b = some y := oq
  replace K0 : ∀ b y, σ0.get b = some y → σq7.get b = some y := fun b y hy => K b y (K0 b y hy)
  replace r5 := K _ _ r5
  replace r10 := K _ _ r10
  replace r12 := K _ _ r12
  replace rA := K _ _ rA
  replace rB := K _ _ rB
  replace rC := K _ _ rC
  replace r18 := K _ _ r18
  have nn : σy.next ≤ σq7.next := by omega
  replace gn : σ1.next ≤ σq7.next := by omega
  replace ha := aq.trans ha
  clear K
  clear oq aq
  refine RW.val (by kernel_rfl) (by kernel_rfl) rfl (by kernel_rfl) ?_
  clear CA
  refine RW.nil ?_
  refine W.reset [(0, .slice (some ⟨qa, pa, spa⟩) l.length ca), (5, pp σ0.next), (7, pp h), (10, pp σs1.next), (12, pp σs3.next), (14, .int .i64 (k : Int)), (15, pp g), (18, pp σd1.next), (16, .slice (some ⟨A2, 0, some 2⟩) l.length l.length), (20, pp σy.next), (21, .int .i64 0)] ⟨rfl, rfl, rfl, rfl, rfl, rfl, rfl, rfl, rfl, rfl, rfl, trivial⟩ fun TA => ?_
  have CC := s2_collect (G := G) (.slice none 0 0) [] [false, false] .nil ha (fun M' hM => marksA hM) (by decide) (rows_old hR K0) h16 textsA
  refine W.seq ?_
  refine W.region ?_
  refine RW.val (by kernel_rfl) (by kernel_rfl) rfl (by kernel_rfl) ?_
  refine RW.call (by kernel_rfl) (by kernel_rfl) rfl rfl rfl (by kernel_rfl) (by kernel_rfl) ⟨_, _, CC, ?_⟩
  obtain ⟨σs8, hs⟩ : ∃ Z, Z = σq7.with (heapAbs2 h (hA l l) g ((hA (l.set k x) l).swept [false, false])) := ⟨_, rfl⟩
  rw [← hs]
  have ns : σs8.next = σq7.next := by rw [hs]; rfl
  have K : ∀ b y, σq7.get b = some y → σs8.get b = some y := fun b y hy => by rw [hs, with_get]; exact hy
  replace K0 : ∀ b y, σ0.get b = some y → σs8.get b = some y := fun b y hy => K b y (K0 b y hy)
  replace r5 := K _ _ r5
  replace r10 := K _ _ r10
  replace r12 := K _ _ r12
  replace rA := K _ _ rA
  replace rB := K _ _ rB
  replace rC := K _ _ rC
  replace r18 := K _ _ r18
  replace r20 := K _ _ r20
  have nn : σq7.next ≤ σs8.next := by omega
  replace gn : σ1.next ≤ σs8.next := by omega
  replace ha := (show σs8.abs = heapAbs2 h (hA l l) g ((hA (l.set k x) l).swept [false, false]) by rw [hs]; rfl)
  clear K
  clear hs
  clear CC
  refine RW.nil ?_
  refine W.reset [(0, .slice (some ⟨qa, pa, spa⟩) l.length ca), (5, pp σ0.next), (7, pp h), (10, pp σs1.next), (12, pp σs3.next), (14, .int .i64 (k : Int)), (15, pp g), (18, pp σd1.next), (16, .slice (some ⟨A2, 0, some 2⟩) l.length l.length), (20, pp σy.next)] ⟨rfl, rfl, rfl, rfl, rfl, rfl, rfl, rfl, rfl, rfl, trivial⟩ fun TA => ?_
  have SA := same_yes (G := G) (Nat.le_trans gG gn) (vw_row rA) (a1.vw.old K0) (by omega)
  have SC := same_yes (G := G) (Nat.le_trans gG gn) (vw_row rC) (a1.vw.old K0) (by omega)
  have M1 := s2_many (G := G) ha
  rw [manyA] at M1
  have M2 := s2_manyG (G := G) ha
  rw [goneA] at M2
  have M3 := s2_limitG (G := G) ha
  rw [limitA] at M3
  refine W.seq ?_
  refine W.region ?_
  refine RW.val (by kernel_rfl) (by kernel_rfl) rfl (by kernel_rfl) ?_
  refine RW.val (by kernel_rfl) (by kernel_rfl) rfl (by kernel_rfl) ?_
  refine RW.call (by kernel_rfl) (by kernel_rfl) rfl rfl rfl (by kernel_rfl) (by kernel_rfl) ⟨_, _, SA, ?_⟩
  refine RW.val (by kernel_rfl) (by kernel_rfl) rfl (by kernel_rfl) ?_
  refine RW.val (by rfl) (by kernel_rfl) rfl (by kernel_rfl) ?_
  refine RW.load (by rfl) (by kernel_rfl) rfl rfl r18 rfl rfl (by kernel_rfl) ?_
  refine RW.val (by rfl) (by kernel_rfl) rfl (by kernel_rfl) ?_
  refine RW.call (by rfl) (by kernel_rfl) rfl rfl rfl (by kernel_rfl) (by kernel_rfl) ⟨_, _, SC, ?_⟩
  refine RW.val (by kernel_rfl) (by kernel_rfl) rfl (by kernel_rfl) ?_
  refine RW.val (by kernel_rfl) (by kernel_rfl) rfl (by kernel_rfl) ?_
  refine RW.val (by rfl) (by kernel_rfl) rfl (by kernel_rfl) ?_
  refine RW.load (by rfl) (by kernel_rfl) rfl rfl r18 rfl rfl (by kernel_rfl) ?_
  refine RW.know 182 (x := .slice (some ⟨B2, 0, some 1⟩) 2 2) rfl ?_
  refine RW.idx (s := 1) (by rfl) (by kernel_rfl) rfl Tryd.underlying47 (by kernel_rfl) rfl rfl ⟨by decide, by decide⟩ (by kernel_rfl) ?_
  refine RW.load (by rfl) (by kernel_rfl) rfl rfl rB rfl rfl (by kernel_rfl) ?_
  refine RW.val (by rfl) (by kernel_rfl) rfl (by kernel_rfl) ?_
  refine RW.val (by kernel_rfl) (by kernel_rfl) rfl (by kernel_rfl) ?_
  refine RW.val (by kernel_rfl) (by kernel_rfl) rfl (by kernel_rfl) ?_
  refine RW.loads 2 (by rfl) (by kernel_rfl) rfl rfl r20 rfl rfl (by kernel_rfl) ?_
  refine RW.loads 2 (by rfl) (by kernel_rfl) rfl rfl r5 rfl rfl (by kernel_rfl) ?_
  refine RW.vop (v := .bool (true)) (by rfl) (by kernel_rfl) (vop_eqS (b := true) (r := true) rfl (.inl ⟨rfl, rfl⟩) rfl rfl rfl rfl (by kernel_rfl) (fun w => (eqWd _ _ _ _ w).trans (by simp))) (by kernel_rfl) ?_
  refine RW.val (by kernel_rfl) (by kernel_rfl) rfl (by kernel_rfl) ?_
  refine RW.val (by kernel_rfl) (by kernel_rfl) rfl (by kernel_rfl) ?_
  refine RW.val (by rfl) (by kernel_rfl) rfl (by kernel_rfl) ?_
  refine RW.call (by rfl) (by kernel_rfl) rfl rfl rfl (by kernel_rfl) (by kernel_rfl) ⟨_, _, M1, ?_⟩
  refine RW.val (by rfl) (by kernel_rfl) rfl (by kernel_rfl) ?_
  refine RW.val (by kernel_rfl) (by kernel_rfl) rfl (by kernel_rfl) ?_
  refine RW.val (by kernel_rfl) (by kernel_rfl) rfl (by kernel_rfl) ?_
  refine RW.val (by rfl) (by kernel_rfl) rfl (by kernel_rfl) ?_
  refine RW.call (by rfl) (by kernel_rfl) rfl rfl rfl (by kernel_rfl) (by kernel_rfl) ⟨_, _, M2, ?_⟩
  refine RW.val (by rfl) (by kernel_rfl) rfl (by kernel_rfl) ?_
  refine RW.val (by kernel_rfl) (by kernel_rfl) rfl (by kernel_rfl) ?_
  refine RW.val (by kernel_rfl) (by kernel_rfl) rfl (by kernel_rfl) ?_
  refine RW.val (by rfl) (by kernel_rfl) rfl (by kernel_rfl) ?_
  refine RW.call (by rfl) (by kernel_rfl) rfl rfl rfl (by kernel_rfl) (by kernel_rfl) ⟨_, _, M3, ?_⟩
  refine RW.val (by rfl) (by kernel_rfl) rfl (by kernel_rfl) ?_
  refine RW.val (by kernel_rfl) (by kernel_rfl) rfl (by kernel_rfl) ?_
  refine RW.val (by kernel_rfl) (by kernel_rfl) rfl (by kernel_rfl) ?_
  refine RW.nil ?_
  refine W.ret ?_
  exact endG (R := fun v _ => v = Value.bool true) rfl (resL_tmp rfl) rfl
end Go.Proofs.YthmfiahmfdadgaaDoor
namespace Go.Proofs.YthmfiahmfdadgaaDoor
open Go.RowKit
set_option maxRecDepth 100000

/-- A law's slice of words, as the second memory has it. -/
theorem arg_words {w : World} {v : Value} {l : List Wd} (h : WordsA w v l) (k : Nat) :
    ∃ (r : ARow) (v2 : Value), (∀ μ : Mu, μ (64 + k) = some ⟨r.blk, r.sh, r.cs.length, 0, 0⟩ → VRel μ v2 v) ∧ (∀ (i : Nat) u, r.cs[i]? = some u → ∃ x, w.cell? ⟨r.blk, r.sh + i, none⟩ = some (.int .i64 x) ∧ u = .int .i64 x) ∧
      ∀ (G : Nat) (σ : Mem), (r.cs ≠ [] → σ.get (64 + k) = some (.row ⟨r.cs, 0, true⟩)) → AW G σ v2 l := by
  obtain ⟨A, c, rfl, hn, hA⟩ := h
  by_cases h0 : 0 < l.length
  · obtain ⟨b, off, rfl, hc⟩ := hA h0
    have hwl := wdC_length l
    refine ⟨⟨b, off, wdC l⟩, .slice (some ⟨64 + k, 0, none⟩) l.length c, fun μ hm => ?_, fun i u hu => ?_, fun G σ hr => ?_⟩
    · have := VRel.sliceE (μ := μ) (64 + k) 0 l.length c _ hm
      simpa using this
    · have hi : i < (wdC l).length := (List.getElem?_eq_some_iff.1 hu).1
      rcases Nat.mod_two_eq_zero_or_one i with h2 | h2
      · have hj : i / 2 < l.length := by omega
        have g := (wdC_get l (i / 2) hj).1
        rw [show i / 2 * 2 = i by omega, hu] at g
        have c1 := (hc (i / 2) _ (List.getElem?_eq_getElem hj)).1
        rw [show i / 2 * 2 = i by omega] at c1
        exact ⟨_, c1, Option.some.inj g⟩
      · have hj : i / 2 < l.length := by omega
        have g := (wdC_get l (i / 2) hj).2
        rw [show i / 2 * 2 + 1 = i by omega, hu] at g
        have c1 := (hc (i / 2) _ (List.getElem?_eq_getElem hj)).2
        rw [show off + i / 2 * 2 + 1 = off + i by omega] at c1
        exact ⟨_, c1, Option.some.inj g⟩
    · have hr := hr (by intro e; show False; have e : wdC l = [] := e; rw [e] at hwl; simp at hwl; omega)
      refine ⟨⟨?_, fun _ => .some hr hwl fun i x hi => by simpa using hi⟩, rfl, ?_⟩
      · unfold lenF
        rw [show uT Tryd.prog 22 = some (.slice 24) by kernel_rfl]
      · unfold srcF
        simp only [if_neg (show ¬ l.length = 0 by omega), hr]
        rw [if_pos (by rw [hwl]; omega), List.drop_zero, ← hwl, List.take_length]
  · obtain rfl : l = [] := List.length_eq_zero_iff.1 (by omega)
    cases A with
    | none =>
      obtain rfl := hn rfl
      exact ⟨⟨0, 0, []⟩, .slice none 0 0, fun μ _ => .flat _ rfl, fun i u hu => by simp at hu, fun G σ _ => ⟨⟨by kernel_rfl, fun h => absurd h (by simp)⟩, rfl, rfl⟩⟩
    | some x => exact ⟨⟨0, 0, []⟩, .chan (some c), fun μ _ => .void x c, fun i u hu => by simp at hu, fun G σ _ => ⟨⟨by kernel_rfl, fun h => absurd h (by simp)⟩, rfl, rfl⟩⟩
theorem apart_any (v1 : Value) (l : List Wd) (n : Int) (x : Wd) (w : World) (hT : Tabs w) (i1 : WordsA w v1 l) (hn1 : -9223372036854775808 ≤ n) (hn2 : n ≤ 9223372036854775807) :
    Calls Tryd.prog 7 #[v1, .int .i64 n, .agg #[.int .i64 x.1, .int .i64 x.2]] w fun e w' => e = .returned (.bool true) ∧ Below w.heap.size w w' := by
  obtain ⟨r1, u1, p1, q1, s1⟩ := arg_words i1 0
  have h64 : ∀ g cs, (g, cs) ∈ rowsU → g < 64 := fun g cs hm => Nat.lt_of_lt_of_le (rowsU_low g cs hm) (by decide)
  have hnd : (rowsU.map (·.1)).Nodup := by unfold rowsU; simp
  have hA : ∀ (k : Nat) (r : ARow), [r1][k]? = some r → (r.cs ≠ [] → (argMem rowsU [r1]).get (64 + k) = some (.row ⟨r.cs, 0, true⟩)) := fun k r hr hc => argMem_at hr hc
  obtain ⟨v, σ', hS, rfl⟩ := apart_wc (G := 65) (σ0 := argMem rowsU [r1]) (x := x) (Nat.le_refl _) (s1 65 _ (hA 0 r1 rfl)) hn1 hn2 (by decide) (argMem_tab hnd h64) rfl
  refine arg_calls (rows := [r1]) (args := #[u1, .int .i64 n, wdV x]) (cargs := #[v1, .int .i64 n, wdV x]) (rowsU_lie hT) h64 (fun k r hr i u hu => ?_) ⟨rfl, fun i y y' h1 h2 => ?_⟩ hS rfl
  · have key : ∃ x, w.cell? ⟨r.blk, r.sh + i, none⟩ = some (.int .i64 x) ∧ u = .int .i64 x := by
      match k, hr with
      | 0, hr => cases hr; exact q1 i u hu
      | k + 1, hr => simp at hr
    obtain ⟨x, k1, rfl⟩ := key
    exact ⟨_, k1, .flat _ rfl⟩
  · match i, h1, h2 with
    | 0, h1, h2 => cases h1; cases h2; exact p1 _ (argMu_at (k := 0) (rows := [r1]) rfl)
    | 1, h1, h2 => cases h1; cases h2; exact .flat _ rfl
    | 2, h1, h2 => cases h1; cases h2; exact closedV_rel _ 3 _ rfl
    | i + 3, h1, _ => simp at h1
end Go.Proofs.YthmfiahmfdadgaaDoor
