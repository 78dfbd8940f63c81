/-
  HeapCollect in the second memory: a round of the last check. Conditions: none.
-/
import Derived.Test.YthmfiahmfdadgaaDoorColD
namespace Go.Proofs.YthmfiahmfdadgaaDoor
set_option maxRecDepth 100000

/-- The round of the loop with which code begins. -/
def rndCode : Code → Code
  | .seq (.seq _ (.block _ (.loop (.seq _ c)))) _ => c
  | c => c
set_option maxHeartbeats 4000000 in
theorem rnd_yes {G : Nat} {σ0 : Mem} {v1 v2 : Value} {l1 l2 : List Int} (hG : G ≤ σ0.next) (a1 : ArgS G σ0 v1 l1) (a2 : ArgS G σ0 v2 l2) (h1 : l1.length ≤ 40) (h2 : l1.length ≤ l2.length) {ta : Nat → Value} {σ : Mem} {met : List Bool} {m2 : HM} {k : Nat} (hF : Fin5 G σ0 σ m2 met) (hk : k < l1.length) (hlen : met.length = 41) (hgm : met[k]? = some true) (hf : m2.find (2, (k : Int)) = some (.pair (consW (pk l1 k)) (consW (pk l2 k)))) (e0 : ta 0 = v1) (e1 : ta 1 = v2) (e7 : ta 7 = .int .i64 l1.length) (e8 : ta 8 = .pointer (some ⟨σ0.next, 0, none⟩)) (e11 : ta 11 = .slice (some ⟨σ0.next + 1, 0, none⟩) 41 41) (e19 : ta 19 = .int .i64 k) {Q : Exit → (Nat → Value) → List DItem → Mem → Prop}
    (next : ∀ ta' σ', Fin5 G σ0 σ' m2 met → ta' 0 = v1 → ta' 1 = v2 → ta' 7 = .int .i64 l1.length → ta' 8 = .pointer (some ⟨σ0.next, 0, none⟩) → ta' 11 = .slice (some ⟨σ0.next + 1, 0, none⟩) 41 41 → ta' 19 = .int .i64 (k + 1 : Nat) → Q .normal ta' [] σ') :
    W G Tryd.prog none 223 (rndCode (restN 14 (bodyOf Tryd.f5))) ta [] σ Q := by
  refine W.know 0 e0 (W.know 1 e1 (W.know 7 e7 (W.know 8 e8 (W.know 11 e11 (W.know 19 e19 (?_))))))
  have hG5 : G ≤ σ.next := by have := hF.nx; omega
  have CC := s_car (G := G) (2, (k : Int)) hF.abs
  have CD := s_cdr (G := G) (2, (k : Int)) hF.abs
  have CL := s_live (G := G) (k : Int) hF.abs
  rw [hf] at CL
  have hcar : m2.car (2, (k : Int)) = ((2, (pk l1 k : Int)), 0) := by simp [HM.car, hf, consW]
  have hcdr : m2.cdr (2, (k : Int)) = ((2, (pk l2 k : Int)), 0) := by simp [HM.cdr, hf, consW]
  rw [hcar] at CC
  rw [hcdr] at CD
  have um : (met.map Value.bool)[0 + ((k : Nat) : Int).toNat * 1]? = some (.bool true) := by
    simp [hgm]
  obtain ⟨b1, c1, r1, x1, rfl, g1, w1, u1, lo1, hi1, p1⟩ := a1.at hk
  obtain ⟨b2, c2, r2, x2, rfl, g2, w2, u2, lo2, hi2, p2⟩ := a2.at (Nat.lt_of_lt_of_le hk h2)
  refine W.seq ?_
  refine W.block ?_
  refine W.seq ?_
  refine W.region ?_
  refine RW.val (by kernel_rfl) (by kernel_rfl) rfl (by kernel_rfl) ?_
  refine RW.call (by kernel_rfl) (by kernel_rfl) rfl rfl rfl (by kernel_rfl) (by kernel_rfl) ⟨_, _, s_word _ _, ?_⟩
  refine RW.varS (d := 20) (r0 := ⟨[.int .i64 0, .int .i64 0], 24, false⟩) (vs := #[.int .i64 2, .int .i64 (k : Int)]) (by kernel_rfl) (by kernel_rfl) (by kernel_rfl) rfl (by kernel_rfl) rfl (by kernel_rfl) rfl rfl rfl rfl (by kernel_rfl) rfl hG5 ?_
  intro σa rsa ga oa na aa
  have FA : Fin5 G σ0 σa m2 met := ⟨aa.trans hF.abs, fun b y hb hy => oa b y (hF.old b y hb hy), oa _ _ hF.row, by have := hF.nx; omega⟩
  have hGa : G ≤ σa.next := by omega
  have CC := s_car (G := G) (2, (k : Int)) FA.abs
  rw [hcar] at CC
  refine RW.nil ?_
  refine W.seq ?_
  refine W.region ?_
  refine RW.val (by kernel_rfl) (by kernel_rfl) rfl (by kernel_rfl) ?_
  refine RW.loads 2 (by kernel_rfl) (by kernel_rfl) rfl rfl ga rfl rfl (by kernel_rfl) ?_
  refine RW.call (by kernel_rfl) (by kernel_rfl) rfl rfl rfl (by kernel_rfl) (by kernel_rfl) ⟨_, _, CC, ?_⟩
  refine RW.val (by kernel_rfl) (by kernel_rfl) rfl (by kernel_rfl) ?_
  refine RW.val (by kernel_rfl) (by kernel_rfl) rfl (by kernel_rfl) ?_
  refine RW.val (by kernel_rfl) (by kernel_rfl) rfl (by kernel_rfl) ?_
  refine RW.varS (d := 21) (r0 := ⟨[.int .i64 0, .int .i64 0], 24, false⟩) (vs := #[.int .i64 2, .int .i64 (pk l1 k : Int)]) (by kernel_rfl) (by kernel_rfl) (by kernel_rfl) rfl (by kernel_rfl) rfl (by kernel_rfl) rfl rfl rfl rfl (by kernel_rfl) rfl hGa ?_
  intro σb rsb gb ob nb ab
  have FB : Fin5 G σ0 σb m2 met := ⟨ab.trans FA.abs, fun b y hb hy => ob b y (FA.old b y hb hy), ob _ _ FA.row, by have := FA.nx; omega⟩
  have ga2 := ob _ _ ga
  have hGb : G ≤ σb.next := by omega
  have CD := s_cdr (G := G) (2, (k : Int)) FB.abs
  rw [hcdr] at CD
  refine RW.val (by kernel_rfl) (by kernel_rfl) rfl (by kernel_rfl) ?_
  refine RW.nil ?_
  refine W.seq ?_
  refine W.region ?_
  refine RW.val (by kernel_rfl) (by kernel_rfl) rfl (by kernel_rfl) ?_
  refine RW.loads 2 (by kernel_rfl) (by kernel_rfl) rfl rfl ga2 rfl rfl (by kernel_rfl) ?_
  refine RW.call (by kernel_rfl) (by kernel_rfl) rfl rfl rfl (by kernel_rfl) (by kernel_rfl) ⟨_, _, CD, ?_⟩
  refine RW.val (by kernel_rfl) (by kernel_rfl) rfl (by kernel_rfl) ?_
  refine RW.val (by kernel_rfl) (by kernel_rfl) rfl (by kernel_rfl) ?_
  refine RW.val (by kernel_rfl) (by kernel_rfl) rfl (by kernel_rfl) ?_
  refine RW.varS (d := 23) (r0 := ⟨[.int .i64 0, .int .i64 0], 24, false⟩) (vs := #[.int .i64 2, .int .i64 (pk l2 k : Int)]) (by kernel_rfl) (by kernel_rfl) (by kernel_rfl) rfl (by kernel_rfl) rfl (by kernel_rfl) rfl rfl rfl rfl (by kernel_rfl) rfl hGb ?_
  intro σc rsc gc oc nc ac
  have FC : Fin5 G σ0 σc m2 met := ⟨ac.trans FB.abs, fun b y hb hy => oc b y (FB.old b y hb hy), oc _ _ FB.row, by have := FB.nx; omega⟩
  have ga3 := oc _ _ ga2
  have gb3 := oc _ _ gb
  have hGc : G ≤ σc.next := by omega
  have CL := s_live (G := G) (k : Int) FC.abs
  rw [hf] at CL
  refine RW.val (by kernel_rfl) (by kernel_rfl) rfl (by kernel_rfl) ?_
  refine RW.nil ?_
  refine W.seq ?_
  refine W.seq ?_
  refine W.drawnS (by kernel_rfl) (by kernel_rfl) hGc ?_
  refine RW.val (by kernel_rfl) (by kernel_rfl) rfl (by kernel_rfl) ?_
  refine RW.loads 2 (by kernel_rfl) (by kernel_rfl) rfl rfl ga3 rfl rfl (by kernel_rfl) ?_
  refine RW.call (by kernel_rfl) (by kernel_rfl) rfl rfl rfl (by kernel_rfl) (by kernel_rfl) ⟨_, _, CL, ?_⟩
  refine RW.val (by kernel_rfl) (by kernel_rfl) rfl (by kernel_rfl) ?_
  refine RW.val (by kernel_rfl) (by kernel_rfl) rfl (by kernel_rfl) ?_
  refine RW.idx (s := 1) (by kernel_rfl) (by kernel_rfl) rfl Tryd.underlying55 (by kernel_rfl) rfl rfl ⟨by omega, by omega⟩ (by kernel_rfl) ?_
  refine RW.load (by kernel_rfl) (by kernel_rfl) rfl rfl FC.row um rfl (by kernel_rfl) ?_
  refine RW.val (by kernel_rfl) (by kernel_rfl) rfl (by kernel_rfl) ?_
  refine RW.val (by kernel_rfl) (by kernel_rfl) rfl (by kernel_rfl) ?_
  refine RW.val (by rfl) (by kernel_rfl) rfl (by kernel_rfl) ?_
  refine RW.val (by rfl) (by kernel_rfl) rfl (by kernel_rfl) ?_
  refine RW.idx (s := 1) (by rfl) (by kernel_rfl) rfl Tryd.underlying55 (by kernel_rfl) rfl rfl ⟨by omega, by omega⟩ (by kernel_rfl) ?_
  refine RW.load (by rfl) (by kernel_rfl) rfl rfl FC.row um rfl (by kernel_rfl) ?_
  refine RW.val (by rfl) (by kernel_rfl) rfl (by kernel_rfl) ?_
  refine RW.val (by rfl) (by kernel_rfl) rfl (by kernel_rfl) ?_
  refine RW.skip (by rfl) (by kernel_rfl) ?_
  refine RW.skip (by rfl) (by kernel_rfl) ?_
  refine RW.skip (by rfl) (by kernel_rfl) ?_
  refine RW.skip (by rfl) (by kernel_rfl) ?_
  refine RW.skip (by rfl) (by kernel_rfl) ?_
  refine RW.skip (by rfl) (by kernel_rfl) ?_
  refine RW.val (by rfl) (by kernel_rfl) rfl (by kernel_rfl) ?_
  refine RW.val (by kernel_rfl) (by kernel_rfl) rfl (by kernel_rfl) ?_
  refine RW.nil ?_
  refine ⟨⟨by kernel_rfl, ?_, fun b => rfl⟩, ?_⟩
  · repeat' (first | exact True.intro | exact fun _ => rfl | exact ⟨_, ga3⟩ | exact ⟨_, FC.row⟩ | refine And.intro ?_ ?_)
  refine W.cond (b := false) rfl (fun h => by cases h) (fun _ => ?_)
  refine W.skip ?_
  refine W.seq ?_
  refine W.drawnS (by kernel_rfl) (by kernel_rfl) hGc ?_
  refine RW.val (by kernel_rfl) (by kernel_rfl) rfl (by kernel_rfl) ?_
  refine RW.val (by kernel_rfl) (by kernel_rfl) rfl (by kernel_rfl) ?_
  refine RW.idx (s := 1) (by kernel_rfl) (by kernel_rfl) rfl Tryd.underlying55 (by kernel_rfl) rfl rfl ⟨by omega, by omega⟩ (by kernel_rfl) ?_
  refine RW.load (by kernel_rfl) (by kernel_rfl) rfl rfl FC.row um rfl (by kernel_rfl) ?_
  refine RW.val (by kernel_rfl) (by kernel_rfl) rfl (by kernel_rfl) ?_
  refine RW.loads 2 (by rfl) (by kernel_rfl) rfl rfl gb3 rfl rfl (by kernel_rfl) ?_
  refine RW.val (by rfl) (by kernel_rfl) rfl (by kernel_rfl) ?_
  refine RW.val (by rfl) (by kernel_rfl) rfl (by kernel_rfl) ?_
  refine RW.idx (s := 1) (by rfl) (by kernel_rfl) rfl Tryd.underlying54 (by kernel_rfl) rfl rfl ⟨by omega, by omega⟩ (by kernel_rfl) ?_
  refine RW.load (by rfl) (by kernel_rfl) rfl rfl (FC.old _ _ g1 w1) u1 rfl (by kernel_rfl) ?_
  refine RW.call (by rfl) (by kernel_rfl) rfl rfl rfl (by kernel_rfl) (by kernel_rfl) ⟨_, _, s_pk lo1 hi1 p1, ?_⟩
  refine RW.call (by rfl) (by kernel_rfl) rfl rfl rfl (by kernel_rfl) (by kernel_rfl) ⟨_, _, s_word _ _, ?_⟩
  refine RW.vop (v := .bool false) (by rfl) (by kernel_rfl) (vop_eqS (b := true) (r := false) rfl (.inr ⟨rfl, rfl⟩) rfl rfl rfl rfl (by kernel_rfl) (fun w => (eqWd _ _ _ _ w).trans (by simp))) (by kernel_rfl) ?_
  refine RW.val (by rfl) (by kernel_rfl) rfl (by kernel_rfl) ?_
  refine RW.loads 2 (by rfl) (by kernel_rfl) rfl rfl gc rfl rfl (by kernel_rfl) ?_
  refine RW.val (by rfl) (by kernel_rfl) rfl (by kernel_rfl) ?_
  refine RW.val (by rfl) (by kernel_rfl) rfl (by kernel_rfl) ?_
  refine RW.idx (s := 1) (by rfl) (by kernel_rfl) rfl Tryd.underlying54 (by kernel_rfl) rfl rfl ⟨by omega, by omega⟩ (by kernel_rfl) ?_
  refine RW.load (by rfl) (by kernel_rfl) rfl rfl (FC.old _ _ g2 w2) u2 rfl (by kernel_rfl) ?_
  refine RW.call (by rfl) (by kernel_rfl) rfl rfl rfl (by kernel_rfl) (by kernel_rfl) ⟨_, _, s_pk lo2 hi2 p2, ?_⟩
  refine RW.call (by rfl) (by kernel_rfl) rfl rfl rfl (by kernel_rfl) (by kernel_rfl) ⟨_, _, s_word _ _, ?_⟩
  refine RW.vop (v := .bool false) (by rfl) (by kernel_rfl) (vop_eqS (b := true) (r := false) rfl (.inr ⟨rfl, rfl⟩) rfl rfl rfl rfl (by kernel_rfl) (fun w => (eqWd _ _ _ _ w).trans (by simp))) (by kernel_rfl) ?_
  refine RW.val (by rfl) (by kernel_rfl) rfl (by kernel_rfl) ?_
  refine RW.val (by kernel_rfl) (by kernel_rfl) rfl (by kernel_rfl) ?_
  refine RW.nil ?_
  refine ⟨⟨by kernel_rfl, ?_, fun b => rfl⟩, ?_⟩
  · repeat' (first | exact True.intro | exact fun _ => rfl | exact ⟨_, gb3⟩ | exact ⟨_, gc⟩ | exact ⟨_, FC.row⟩ | exact ⟨_, FC.old _ _ g1 w1⟩ | exact ⟨_, FC.old _ _ g2 w2⟩ | refine And.intro ?_ ?_)
  refine W.cond (b := false) rfl (fun h => by cases h) (fun _ => ?_)
  refine W.skip ?_
  refine W.region ?_
  refine RW.val (by kernel_rfl) (by kernel_rfl) rfl (by kernel_rfl) ?_
  refine RW.valE (by kernel_rfl) (by kernel_rfl) rfl (congrArg (Value.int .i64) (wrap_in (by omega) (by omega))) (by kernel_rfl) ?_
  refine RW.val (by kernel_rfl) (by kernel_rfl) rfl (by kernel_rfl) ?_
  refine RW.nil ?_
  exact next _ _ FC rfl rfl rfl rfl rfl rfl
set_option maxHeartbeats 4000000 in
theorem rnd_no {G : Nat} {σ0 : Mem} {v1 v2 : Value} {l1 l2 : List Int} (hG : G ≤ σ0.next) (a1 : ArgS G σ0 v1 l1) (a2 : ArgS G σ0 v2 l2) (h1 : l1.length ≤ 40) (h2 : l1.length ≤ l2.length) {ta : Nat → Value} {σ : Mem} {met : List Bool} {m2 : HM} {k : Nat} (hF : Fin5 G σ0 σ m2 met) (hk : k < l1.length) (hlen : met.length = 41) (hgm : met[k]? = some false) (hf : m2.find (2, (k : Int)) = none) (e0 : ta 0 = v1) (e1 : ta 1 = v2) (e7 : ta 7 = .int .i64 l1.length) (e8 : ta 8 = .pointer (some ⟨σ0.next, 0, none⟩)) (e11 : ta 11 = .slice (some ⟨σ0.next + 1, 0, none⟩) 41 41) (e19 : ta 19 = .int .i64 k) {Q : Exit → (Nat → Value) → List DItem → Mem → Prop}
    (next : ∀ ta' σ', Fin5 G σ0 σ' m2 met → ta' 0 = v1 → ta' 1 = v2 → ta' 7 = .int .i64 l1.length → ta' 8 = .pointer (some ⟨σ0.next, 0, none⟩) → ta' 11 = .slice (some ⟨σ0.next + 1, 0, none⟩) 41 41 → ta' 19 = .int .i64 (k + 1 : Nat) → Q .normal ta' [] σ') :
    W G Tryd.prog none 223 (rndCode (restN 14 (bodyOf Tryd.f5))) ta [] σ Q := by
  refine W.know 0 e0 (W.know 1 e1 (W.know 7 e7 (W.know 8 e8 (W.know 11 e11 (W.know 19 e19 (?_))))))
  have hG5 : G ≤ σ.next := by have := hF.nx; omega
  have CC := s_car (G := G) (2, (k : Int)) hF.abs
  have CD := s_cdr (G := G) (2, (k : Int)) hF.abs
  have CL := s_live (G := G) (k : Int) hF.abs
  rw [hf] at CL
  have hcar : m2.car (2, (k : Int)) = ((0, 0), 6) := by simp [HM.car, hf]
  have hcdr : m2.cdr (2, (k : Int)) = ((0, 0), 6) := by simp [HM.cdr, hf]
  rw [hcar] at CC
  rw [hcdr] at CD
  have um : (met.map Value.bool)[0 + ((k : Nat) : Int).toNat * 1]? = some (.bool false) := by
    simp [hgm]
  refine W.seq ?_
  refine W.block ?_
  refine W.seq ?_
  refine W.region ?_
  refine RW.val (by kernel_rfl) (by kernel_rfl) rfl (by kernel_rfl) ?_
  refine RW.call (by kernel_rfl) (by kernel_rfl) rfl rfl rfl (by kernel_rfl) (by kernel_rfl) ⟨_, _, s_word _ _, ?_⟩
  refine RW.varS (d := 20) (r0 := ⟨[.int .i64 0, .int .i64 0], 24, false⟩) (vs := #[.int .i64 2, .int .i64 (k : Int)]) (by kernel_rfl) (by kernel_rfl) (by kernel_rfl) rfl (by kernel_rfl) rfl (by kernel_rfl) rfl rfl rfl rfl (by kernel_rfl) rfl hG5 ?_
  intro σa rsa ga oa na aa
  have FA : Fin5 G σ0 σa m2 met := ⟨aa.trans hF.abs, fun b y hb hy => oa b y (hF.old b y hb hy), oa _ _ hF.row, by have := hF.nx; omega⟩
  have hGa : G ≤ σa.next := by omega
  have CC := s_car (G := G) (2, (k : Int)) FA.abs
  rw [hcar] at CC
  refine RW.nil ?_
  refine W.seq ?_
  refine W.region ?_
  refine RW.val (by kernel_rfl) (by kernel_rfl) rfl (by kernel_rfl) ?_
  refine RW.loads 2 (by kernel_rfl) (by kernel_rfl) rfl rfl ga rfl rfl (by kernel_rfl) ?_
  refine RW.call (by kernel_rfl) (by kernel_rfl) rfl rfl rfl (by kernel_rfl) (by kernel_rfl) ⟨_, _, CC, ?_⟩
  refine RW.val (by kernel_rfl) (by kernel_rfl) rfl (by kernel_rfl) ?_
  refine RW.val (by kernel_rfl) (by kernel_rfl) rfl (by kernel_rfl) ?_
  refine RW.val (by kernel_rfl) (by kernel_rfl) rfl (by kernel_rfl) ?_
  refine RW.varS (d := 21) (r0 := ⟨[.int .i64 0, .int .i64 0], 24, false⟩) (vs := #[.int .i64 0, .int .i64 0]) (by kernel_rfl) (by kernel_rfl) (by kernel_rfl) rfl (by kernel_rfl) rfl (by kernel_rfl) rfl rfl rfl rfl (by kernel_rfl) rfl hGa ?_
  intro σb rsb gb ob nb ab
  have FB : Fin5 G σ0 σb m2 met := ⟨ab.trans FA.abs, fun b y hb hy => ob b y (FA.old b y hb hy), ob _ _ FA.row, by have := FA.nx; omega⟩
  have ga2 := ob _ _ ga
  have hGb : G ≤ σb.next := by omega
  have CD := s_cdr (G := G) (2, (k : Int)) FB.abs
  rw [hcdr] at CD
  refine RW.val (by kernel_rfl) (by kernel_rfl) rfl (by kernel_rfl) ?_
  refine RW.nil ?_
  refine W.seq ?_
  refine W.region ?_
  refine RW.val (by kernel_rfl) (by kernel_rfl) rfl (by kernel_rfl) ?_
  refine RW.loads 2 (by kernel_rfl) (by kernel_rfl) rfl rfl ga2 rfl rfl (by kernel_rfl) ?_
  refine RW.call (by kernel_rfl) (by kernel_rfl) rfl rfl rfl (by kernel_rfl) (by kernel_rfl) ⟨_, _, CD, ?_⟩
  refine RW.val (by kernel_rfl) (by kernel_rfl) rfl (by kernel_rfl) ?_
  refine RW.val (by kernel_rfl) (by kernel_rfl) rfl (by kernel_rfl) ?_
  refine RW.val (by kernel_rfl) (by kernel_rfl) rfl (by kernel_rfl) ?_
  refine RW.varS (d := 23) (r0 := ⟨[.int .i64 0, .int .i64 0], 24, false⟩) (vs := #[.int .i64 0, .int .i64 0]) (by kernel_rfl) (by kernel_rfl) (by kernel_rfl) rfl (by kernel_rfl) rfl (by kernel_rfl) rfl rfl rfl rfl (by kernel_rfl) rfl hGb ?_
  intro σc rsc gc oc nc ac
  have FC : Fin5 G σ0 σc m2 met := ⟨ac.trans FB.abs, fun b y hb hy => oc b y (FB.old b y hb hy), oc _ _ FB.row, by have := FB.nx; omega⟩
  have ga3 := oc _ _ ga2
  have gb3 := oc _ _ gb
  have hGc : G ≤ σc.next := by omega
  have CL := s_live (G := G) (k : Int) FC.abs
  rw [hf] at CL
  refine RW.val (by kernel_rfl) (by kernel_rfl) rfl (by kernel_rfl) ?_
  refine RW.nil ?_
  refine W.seq ?_
  refine W.seq ?_
  refine W.drawnS (by kernel_rfl) (by kernel_rfl) hGc ?_
  refine RW.val (by kernel_rfl) (by kernel_rfl) rfl (by kernel_rfl) ?_
  refine RW.loads 2 (by kernel_rfl) (by kernel_rfl) rfl rfl ga3 rfl rfl (by kernel_rfl) ?_
  refine RW.call (by kernel_rfl) (by kernel_rfl) rfl rfl rfl (by kernel_rfl) (by kernel_rfl) ⟨_, _, CL, ?_⟩
  refine RW.val (by kernel_rfl) (by kernel_rfl) rfl (by kernel_rfl) ?_
  refine RW.val (by kernel_rfl) (by kernel_rfl) rfl (by kernel_rfl) ?_
  refine RW.idx (s := 1) (by kernel_rfl) (by kernel_rfl) rfl Tryd.underlying55 (by kernel_rfl) rfl rfl ⟨by omega, by omega⟩ (by kernel_rfl) ?_
  refine RW.load (by kernel_rfl) (by kernel_rfl) rfl rfl FC.row um rfl (by kernel_rfl) ?_
  refine RW.val (by kernel_rfl) (by kernel_rfl) rfl (by kernel_rfl) ?_
  refine RW.val (by kernel_rfl) (by kernel_rfl) rfl (by kernel_rfl) ?_
  refine RW.val (by rfl) (by kernel_rfl) rfl (by kernel_rfl) ?_
  refine RW.val (by rfl) (by kernel_rfl) rfl (by kernel_rfl) ?_
  refine RW.idx (s := 1) (by rfl) (by kernel_rfl) rfl Tryd.underlying55 (by kernel_rfl) rfl rfl ⟨by omega, by omega⟩ (by kernel_rfl) ?_
  refine RW.load (by rfl) (by kernel_rfl) rfl rfl FC.row um rfl (by kernel_rfl) ?_
  refine RW.val (by rfl) (by kernel_rfl) rfl (by kernel_rfl) ?_
  refine RW.val (by rfl) (by kernel_rfl) rfl (by kernel_rfl) ?_
  refine RW.val (by rfl) (by kernel_rfl) rfl (by kernel_rfl) ?_
  refine RW.val (by rfl) (by kernel_rfl) rfl (by kernel_rfl) ?_
  refine RW.val (by rfl) (by kernel_rfl) rfl (by kernel_rfl) ?_
  refine RW.val (by rfl) (by kernel_rfl) rfl (by kernel_rfl) ?_
  refine RW.val (by rfl) (by kernel_rfl) rfl (by kernel_rfl) ?_
  refine RW.val (by rfl) (by kernel_rfl) rfl (by kernel_rfl) ?_
  refine RW.val (by rfl) (by kernel_rfl) rfl (by kernel_rfl) ?_
  refine RW.val (by kernel_rfl) (by kernel_rfl) rfl (by kernel_rfl) ?_
  refine RW.nil ?_
  refine ⟨⟨by kernel_rfl, ?_, fun b => rfl⟩, ?_⟩
  · repeat' (first | exact True.intro | exact fun _ => rfl | exact ⟨_, ga3⟩ | exact ⟨_, FC.row⟩ | refine And.intro ?_ ?_)
  refine W.cond (b := false) rfl (fun h => by cases h) (fun _ => ?_)
  refine W.skip ?_
  refine W.seq ?_
  refine W.drawnS (by kernel_rfl) (by kernel_rfl) hGc ?_
  refine RW.val (by kernel_rfl) (by kernel_rfl) rfl (by kernel_rfl) ?_
  refine RW.val (by kernel_rfl) (by kernel_rfl) rfl (by kernel_rfl) ?_
  refine RW.idx (s := 1) (by kernel_rfl) (by kernel_rfl) rfl Tryd.underlying55 (by kernel_rfl) rfl rfl ⟨by omega, by omega⟩ (by kernel_rfl) ?_
  refine RW.load (by kernel_rfl) (by kernel_rfl) rfl rfl FC.row um rfl (by kernel_rfl) ?_
  refine RW.val (by kernel_rfl) (by kernel_rfl) rfl (by kernel_rfl) ?_
  refine RW.skip (by rfl) (by kernel_rfl) ?_
  refine RW.skip (by rfl) (by kernel_rfl) ?_
  refine RW.skip (by rfl) (by kernel_rfl) ?_
  refine RW.skip (by rfl) (by kernel_rfl) ?_
  refine RW.skip (by rfl) (by kernel_rfl) ?_
  refine RW.skip (by rfl) (by kernel_rfl) ?_
  refine RW.skip (by rfl) (by kernel_rfl) ?_
  refine RW.skip (by rfl) (by kernel_rfl) ?_
  refine RW.skip (by rfl) (by kernel_rfl) ?_
  refine RW.skip (by rfl) (by kernel_rfl) ?_
  refine RW.skip (by rfl) (by kernel_rfl) ?_
  refine RW.skip (by rfl) (by kernel_rfl) ?_
  refine RW.skip (by rfl) (by kernel_rfl) ?_
  refine RW.skip (by rfl) (by kernel_rfl) ?_
  refine RW.skip (by rfl) (by kernel_rfl) ?_
  refine RW.skip (by rfl) (by kernel_rfl) ?_
  refine RW.skip (by rfl) (by kernel_rfl) ?_
  refine RW.skip (by rfl) (by kernel_rfl) ?_
  refine RW.val (by kernel_rfl) (by kernel_rfl) rfl (by kernel_rfl) ?_
  refine RW.nil ?_
  refine ⟨⟨by kernel_rfl, ?_, fun b => rfl⟩, ?_⟩
  · repeat' (first | exact True.intro | exact fun _ => rfl | exact ⟨_, gb3⟩ | exact ⟨_, gc⟩ | exact ⟨_, FC.row⟩ | refine And.intro ?_ ?_)
  refine W.cond (b := false) rfl (fun h => by cases h) (fun _ => ?_)
  refine W.skip ?_
  refine W.region ?_
  refine RW.val (by kernel_rfl) (by kernel_rfl) rfl (by kernel_rfl) ?_
  refine RW.valE (by kernel_rfl) (by kernel_rfl) rfl (congrArg (Value.int .i64) (wrap_in (by omega) (by omega))) (by kernel_rfl) ?_
  refine RW.val (by kernel_rfl) (by kernel_rfl) rfl (by kernel_rfl) ?_
  refine RW.nil ?_
  exact next _ _ FC rfl rfl rfl rfl rfl rfl
end Go.Proofs.YthmfiahmfdadgaaDoor
