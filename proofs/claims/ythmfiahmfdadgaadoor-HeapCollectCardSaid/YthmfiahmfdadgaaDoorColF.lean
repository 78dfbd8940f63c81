/-
  HeapCollect in the second memory: the whole law; and in every world in which its arguments lie. Conditions: the tables of unicode/utf8 lie as laid.
-/
import Derived.Test.YthmfiahmfdadgaaDoorColE
import Derived.Test.YthmfiahmfdadgaaDoorOpen
import Derived.Test.YthmfiahmfdadgaaDoorS3
namespace Go.Proofs.YthmfiahmfdadgaaDoor
open Go.RowKit
set_option maxRecDepth 100000

/-- A call that leaves all alone where the tables lie. -/
theorem tab_call {P : Program} {G : Nat} {f : FuncId} {args : Array Value} {v : Value} {σ : Mem} (hR : RowsAt rowsU σ) (h16 : 16 ≤ G) (hl : args.toList.all (closedV 3) = true) (hv : closedV 3 v = true)
    (hc : ∀ w, Tabs w → Calls P f args w fun e w' => e = .returned v ∧ Below w.heap.size w w') : SCall G P f args σ v σ := by
  refine ⟨Nat.le_refl _, fun μ w cargs hs hGn hf har => ?_⟩
  have hT : Tabs w := tabs_of_rows (rows_lie hs (fun g cs hm => Nat.lt_of_lt_of_le (rowsU_low g cs hm) h16) (fun g cs hm => Nat.lt_of_lt_of_le (rowsU_low g cs hm) (by decide)) rowsU_flat hR)
  have hz : cargs = args := by
    apply Array.ext
    · exact har.1.symm
    · intro i h1 h2
      exact closedV_eq 3 _ _ (List.all_eq_true.1 hl _ (by simp)) (har.2 i args[i] cargs[i] (by simp [h2]) (by simp [h1]))
  subst hz
  refine (hc w hT).mono ?_
  rintro e w' ⟨rfl, hb⟩
  have own2 := OwnOk.same (G := G) (σ := σ) (μ := μ) (w := w) (w' := w') (σ' := σ) rfl (Ext.refl μ) rfl hb.size (fun B hB _ => hb.block B hB) fun c z ci hz hc => .inr ⟨c, z, ci, hz, hc, rfl⟩
  exact ⟨v, μ, rfl, ⟨Nat.le_refl _, fun b h1 h2 => absurd h1 (by omega), fun _ _ => rfl, ⟨hs.glob, fun b x bi hx hm => (hs.blk b x bi hx hm).keep (hb.block _ (hs.blk b x bi hx hm).lt) (Ext.refl _), hs.inj, hs.rw_, own2 hs.abs⟩, hb.size, hb.os, hb.tape, hb.output, fun b x bi hb' hx _ => absurd (Mem.lt hx) (by omega), fun _ x _ h => ⟨x, h⟩, hGn, own_id, fun B hB _ _ => hb.block B hB⟩, closedV_rel _ 3 v hv⟩
theorem st14 {G : Nat} {σ0 : Mem} {v1 v2 : Value} {l1 l2 : List Int} (hG : G ≤ σ0.next) (a1 : ArgS G σ0 v1 l1) (a2 : ArgS G σ0 v2 l2) (h1 : l1.length ≤ 40) (h2 : l1.length ≤ l2.length) {ta : Nat → Value} {σ : Mem} {met : List Bool} {m2 : HM} (hF : Fin5 G σ0 σ m2 met) (hlen : met.length = 41) (hfind : ∀ i : Nat, i < l1.length → m2.find (2, (i : Int)) = if met[i]? = some true then some (.pair (consW (pk l1 i)) (consW (pk l2 i))) else none) (e0 : ta 0 = v1) (e1 : ta 1 = v2) (e7 : ta 7 = .int .i64 l1.length) (e8 : ta 8 = .pointer (some ⟨σ0.next, 0, none⟩)) (e11 : ta 11 = .slice (some ⟨σ0.next + 1, 0, none⟩) 41 41) :
    W G Tryd.prog none 223 (restN 14 (bodyOf Tryd.f5)) ta [] σ (trueQ 6) := by
  refine W.know 0 e0 (W.know 1 e1 (W.know 7 e7 (W.know 8 e8 (W.know 11 e11 (?_)))))
  refine W.seq ?_
  refine W.seq ?_
  refine W.region ?_
  refine RW.val (by kernel_rfl) (by kernel_rfl) rfl (by kernel_rfl) ?_
  refine RW.nil ?_
  refine W.block ?_
  refine W.loop (fun m ta σ => ∃ k : Nat, m + k = l1.length ∧ Fin5 G σ0 σ m2 met ∧ ta 0 = v1 ∧ ta 1 = v2 ∧ ta 7 = .int .i64 l1.length ∧ ta 8 = .pointer (some ⟨σ0.next, 0, none⟩) ∧ ta 11 = .slice (some ⟨σ0.next + 1, 0, none⟩) 41 41 ∧ ta 19 = .int .i64 k) l1.length ?_ ?_
  · exact ⟨0, rfl, hF, rfl, rfl, rfl, rfl, rfl, rfl⟩
  clear hF e0 e1 e7 e8 e11
  rintro m ta σ ⟨k, hm, hF, e0, e1, e7, e8, e11, e19⟩
  refine W.know 0 e0 (W.know 1 e1 (W.know 7 e7 (W.know 8 e8 (W.know 11 e11 (W.know 19 e19 (?_))))))
  refine W.seq ?_
  refine W.seq ?_
  refine W.region ?_
  refine RW.val (by kernel_rfl) (by kernel_rfl) rfl (by kernel_rfl) ?_
  refine RW.val (by kernel_rfl) (by kernel_rfl) rfl (by kernel_rfl) ?_
  refine RW.val (by kernel_rfl) (by kernel_rfl) rfl (by kernel_rfl) ?_
  refine RW.nil ?_
  refine W.cond rfl (fun h => ?_) (fun h => ?_)
  · have hk : k < l1.length := by have := of_decide_eq_true h; omega
    have hgm : met[k]? = some (met[k]'(by omega)) := List.getElem?_eq_getElem _
    have hfk := hfind k hk
    refine W.skip ?_
    cases hb : met[k]'(by omega) with
    | true =>
      rw [hb] at hgm
      rw [hgm, if_pos rfl] at hfk
      exact rnd_yes hG a1 a2 h1 h2 hF hk hlen hgm hfk rfl rfl rfl rfl rfl rfl fun ta' σ' F' q0 q1 q7 q8 q11 q19 => ⟨rfl, m - 1, by omega, k + 1, by omega, F', q0, q1, q7, q8, q11, q19⟩
    | false =>
      rw [hb] at hgm
      rw [hgm, if_neg (by simp)] at hfk
      exact rnd_no hG a1 a2 h1 h2 hF hk hlen hgm hfk rfl rfl rfl rfl rfl rfl fun ta' σ' F' q0 q1 q7 q8 q11 q19 => ⟨rfl, m - 1, by omega, k + 1, by omega, F', q0, q1, q7, q8, q11, q19⟩
  · refine W.exit _ ?_
    refine W.seq ?_
    refine W.region ?_
    refine RW.val (by kernel_rfl) (by kernel_rfl) rfl (by kernel_rfl) ?_
    refine RW.nil ?_
    refine W.ret ?_
    exact ⟨rfl, rfl, rfl⟩
theorem col_wc {G : Nat} {σ0 : Mem} {v1 v2 v3 : Value} {l1 l2 l3 : List Int} (hG : G ≤ σ0.next) (a1 : ArgS G σ0 v1 l1) (a2 : ArgS G σ0 v2 l2) (h1 : l1.length ≤ 40) (h2 : l1.length ≤ l2.length) (a3 : ArgS G σ0 v3 l3) (h3 : l3.length ≤ 40) (h16 : 16 ≤ G) (hR : RowsAt rowsU σ0) (hno : σ0.abs = Abs.no) :
    WC G Tryd.prog 5 #[v1, v2, v3] σ0 fun v _ => v = .bool true := by
  have CL : SCall G Tryd.prog 8 #[] σ0 (.bool true) σ0 := tab_call hR h16 rfl rfl lives_any
  have CN := s_new (G := G) (σ := σ0) 50 (by decide) (by decide) hno
  refine WC.enter (fn := Tryd.f5) Tryd.func5 rfl ?_
  show W G Tryd.prog none 223 (restN 0 (bodyOf Tryd.f5)) _ [] σ0 (endQ Tryd.prog [.tmp 6] fun v _ => v = .bool true)
  refine trueQ_end ?_
  refine W.know 0 (x := v1) rfl (W.know 1 (x := v2) rfl (W.know 2 (x := v3) rfl ?_))
  refine W.seq ?_
  refine W.region ?_
  refine RW.val (by kernel_rfl) (by kernel_rfl) rfl (by kernel_rfl) ?_
  refine RW.nil ?_
  refine W.seq ?_
  refine W.seq ?_
  refine W.region ?_
  refine RW.call (by kernel_rfl) (by kernel_rfl) rfl rfl rfl (by kernel_rfl) (by kernel_rfl) ⟨_, _, CL, ?_⟩
  refine RW.val (by kernel_rfl) (by kernel_rfl) rfl (by kernel_rfl) ?_
  refine RW.nil ?_
  refine W.cond (b := false) rfl (fun h => by cases h) (fun _ => ?_)
  refine W.skip ?_
  refine W.seq ?_
  refine W.seq ?_
  refine W.region ?_
  refine RW.val (by kernel_rfl) (by kernel_rfl) rfl (by kernel_rfl) ?_
  refine RW.len (by kernel_rfl) (by kernel_rfl) rfl rfl rfl rfl a1.len (by kernel_rfl) ?_
  refine RW.valE (v' := .bool false) (by kernel_rfl) (by kernel_rfl) rfl (congrArg Value.bool (decide_eq_false (by omega))) (by kernel_rfl) ?_
  refine RW.val (by kernel_rfl) (by kernel_rfl) rfl (by kernel_rfl) ?_
  refine RW.val (by rfl) (by kernel_rfl) rfl (by kernel_rfl) ?_
  refine RW.len (by rfl) (by kernel_rfl) rfl rfl rfl rfl a2.len (by kernel_rfl) ?_
  refine RW.val (by rfl) (by kernel_rfl) rfl (by kernel_rfl) ?_
  refine RW.len (by rfl) (by kernel_rfl) rfl rfl rfl rfl a1.len (by kernel_rfl) ?_
  refine RW.valE (v' := .bool false) (by rfl) (by kernel_rfl) rfl (congrArg Value.bool (decide_eq_false (by omega))) (by kernel_rfl) ?_
  refine RW.val (by kernel_rfl) (by kernel_rfl) rfl (by kernel_rfl) ?_
  refine RW.val (by kernel_rfl) (by kernel_rfl) rfl (by kernel_rfl) ?_
  refine RW.val (by rfl) (by kernel_rfl) rfl (by kernel_rfl) ?_
  refine RW.len (by rfl) (by kernel_rfl) rfl rfl rfl rfl a3.len (by kernel_rfl) ?_
  refine RW.valE (v' := .bool false) (by rfl) (by kernel_rfl) rfl (congrArg Value.bool (decide_eq_false (by omega))) (by kernel_rfl) ?_
  refine RW.val (by kernel_rfl) (by kernel_rfl) rfl (by kernel_rfl) ?_
  refine RW.nil ?_
  refine W.cond (b := false) rfl (fun h => by cases h) (fun _ => ?_)
  refine W.skip ?_
  refine W.seq ?_
  refine W.region ?_
  refine RW.val (by kernel_rfl) (by kernel_rfl) rfl (by kernel_rfl) ?_
  refine RW.len (by kernel_rfl) (by kernel_rfl) rfl rfl rfl rfl a1.len (by kernel_rfl) ?_
  refine RW.val (by kernel_rfl) (by kernel_rfl) rfl (by kernel_rfl) ?_
  refine RW.nil ?_
  refine W.seq ?_
  refine W.region ?_
  refine RW.call (by kernel_rfl) (by kernel_rfl) rfl rfl rfl (by kernel_rfl) (by kernel_rfl) ⟨_, _, CN, ?_⟩
  refine RW.val (by kernel_rfl) (by kernel_rfl) rfl (by kernel_rfl) ?_
  refine RW.val (by kernel_rfl) (by kernel_rfl) rfl (by kernel_rfl) ?_
  refine RW.val (by kernel_rfl) (by kernel_rfl) rfl (by kernel_rfl) ?_
  refine RW.val (by kernel_rfl) (by kernel_rfl) rfl (by kernel_rfl) ?_
  refine RW.val (by kernel_rfl) (by kernel_rfl) rfl (by kernel_rfl) ?_
  refine RW.nil ?_
  refine st5 hG a1 a2 h1 h2 (v3 := v3) rfl rfl rfl rfl rfl fun ta q0 q1 q2 q7 q8 => ?_
  refine st6 hG a1 a2 h1 h2 a3 h3 q0 q1 q2 q7 q8 fun ta σ va vb hM q0 q1 q7 q8 q11 q12 q13 => ?_
  refine st10 hG a1 a2 h1 h2 hM h3 q0 q1 q7 q8 q11 q12 q13 fun ta σ va vb met hM hL q0 q1 q7 q8 q11 q12 q13 => ?_
  refine st11 hG a1 a2 h1 h2 hM hL h3 h16 hR q0 q1 q7 q8 q11 q13 fun ta σ m2 hF hfind q0 q1 q7 q8 q11 => ?_
  exact st14 hG a1 a2 h1 h2 hF hL.len hfind q0 q1 q7 q8 q11
/-- A law's slice of numbers, as the second memory has it. -/
theorem arg_ints {w : World} {v : Value} {xs : List Int} (h : Ints w w.heap.size v xs) (hb : ∀ x ∈ xs, -9223372036854775808 ≤ x ∧ x ≤ 9223372036854775807) (k : Nat) :
    ∃ (r : ARow) (v2 : Value), (∀ μ : Mu, μ (64 + k) = some ⟨r.blk, r.sh, r.cs.length, 0, 0⟩ → VRel μ v2 v) ∧ (∀ (i : Nat) u, r.cs[i]? = some u → ∃ x, w.cell? ⟨r.blk, r.sh + i, none⟩ = some (.int .i64 x) ∧ u = .int .i64 x) ∧
      ∀ (G : Nat) (σ : Mem), 64 + k < G → (r.cs ≠ [] → σ.get (64 + k) = some (.row ⟨r.cs, 0, true⟩)) → ArgS G σ v2 xs := by
  obtain ⟨A, c, rfl, h1, h2, h3⟩ := h
  cases xs with
  | nil =>
    cases A with
    | none => exact ⟨⟨0, 0, []⟩, .slice none 0 c, fun μ _ => .flat _ rfl, fun i u hu => by simp at hu, fun G σ _ _ => ⟨by kernel_rfl, fun h => absurd h (by simp), hb⟩⟩
    | some x => exact ⟨⟨0, 0, []⟩, .chan (some c), fun μ _ => .void x c, fun i u hu => by simp at hu, fun G σ _ _ => ⟨by kernel_rfl, fun h => absurd h (by simp), hb⟩⟩
  | cons y ys =>
    obtain ⟨b, off, rfl, _, hc⟩ := h3 (by simp)
    refine ⟨⟨b, off, (y :: ys).map (Value.int .i64)⟩, .slice (some ⟨64 + k, 0, none⟩) (y :: ys).length c, fun μ hm => ?_, fun i u hu => ?_, fun G σ hG hr => ⟨?_, fun _ => ⟨64 + k, c, _, rfl, hG, hr (by simp), fun j x hx => ?_⟩, hb⟩⟩
    · have := VRel.sliceE (μ := μ) (64 + k) 0 (y :: ys).length c _ hm
      simpa using this
    · rw [List.getElem?_map] at hu
      cases hx : (y :: ys)[i]? with
      | none => rw [hx] at hu; cases hu
      | some x =>
        rw [hx] at hu
        cases hu
        exact ⟨x, hc i x hx, rfl⟩
    · unfold lenF
      rw [show uT Tryd.prog 54 = some (.slice 3) by kernel_rfl]
    · show ((y :: ys).map (Value.int .i64))[j]? = _
      rw [List.getElem?_map, hx]
      rfl
theorem col_any (v1 v2 v3 : Value) (l1 l2 l3 : List Int) (w : World) (hT : Tabs w) (i1 : Ints w w.heap.size v1 l1) (i2 : Ints w w.heap.size v2 l2) (i3 : Ints w w.heap.size v3 l3) (b1 : ∀ x ∈ l1, -9223372036854775808 ≤ x ∧ x ≤ 9223372036854775807) (b2 : ∀ x ∈ l2, -9223372036854775808 ≤ x ∧ x ≤ 9223372036854775807) (b3 : ∀ x ∈ l3, -9223372036854775808 ≤ x ∧ x ≤ 9223372036854775807) :
    Calls Tryd.prog 5 #[v1, v2, v3] w fun e w' => e = .returned (.bool true) ∧ Below w.heap.size w w' := by
  by_cases hl : 40 < l1.length ∨ l2.length < l1.length ∨ 40 < l3.length
  · obtain ⟨A1, c1, rfl, _⟩ := i1
    obtain ⟨A2, c2, rfl, _⟩ := i2
    obtain ⟨A3, c3, rfl, _⟩ := i3
    exact col_long A1 A2 A3 _ c1 _ c2 _ c3 w hT hl
  · obtain ⟨r1, u1, p1, q1, s1⟩ := arg_ints i1 b1 0
    obtain ⟨r2, u2, p2, q2, s2⟩ := arg_ints i2 b2 1
    obtain ⟨r3, u3, p3, q3, s3⟩ := arg_ints i3 b3 2
    have h64 : ∀ g cs, (g, cs) ∈ rowsU → g < 64 := fun g cs hm => Nat.lt_of_lt_of_le (rowsU_low g cs hm) (by decide)
    have hnd : (rowsU.map (·.1)).Nodup := by unfold rowsU; simp
    have hA : ∀ (k : Nat) (r : ARow), [r1, r2, r3][k]? = some r → (r.cs ≠ [] → (argMem rowsU [r1, r2, r3]).get (64 + k) = some (.row ⟨r.cs, 0, true⟩)) := fun k r hr hc => argMem_at hr hc
    obtain ⟨v, σ', hS, rfl⟩ := col_wc (G := 67) (σ0 := argMem rowsU [r1, r2, r3]) (Nat.le_refl _) (s1 67 _ (by decide) (hA 0 r1 rfl)) (s2 67 _ (by decide) (hA 1 r2 rfl)) (by omega) (by omega) (s3 67 _ (by decide) (hA 2 r3 rfl)) (by omega) (by decide) (argMem_tab hnd h64) rfl
    refine arg_calls (rows := [r1, r2, r3]) (args := #[u1, u2, u3]) (cargs := #[v1, v2, v3]) (rowsU_lie hT) h64 (fun k r hr i u hu => ?_) ⟨rfl, fun i x x' h1 h2 => ?_⟩ hS rfl
    · have key : ∃ x, w.cell? ⟨r.blk, r.sh + i, none⟩ = some (.int .i64 x) ∧ u = .int .i64 x := by
        match k, hr with
        | 0, hr => cases hr; exact q1 i u hu
        | 1, hr => cases hr; exact q2 i u hu
        | 2, hr => cases hr; exact q3 i u hu
        | k + 3, hr => simp at hr
      obtain ⟨x, k1, rfl⟩ := key
      exact ⟨_, k1, .flat _ rfl⟩
    · match i, h1, h2 with
      | 0, h1, h2 => cases h1; cases h2; exact p1 _ (argMu_at (k := 0) (rows := [r1, r2, r3]) rfl)
      | 1, h1, h2 => cases h1; cases h2; exact p2 _ (argMu_at (k := 1) (rows := [r1, r2, r3]) rfl)
      | 2, h1, h2 => cases h1; cases h2; exact p3 _ (argMu_at (k := 2) (rows := [r1, r2, r3]) rfl)
      | i + 3, h1, _ => simp at h1
end Go.Proofs.YthmfiahmfdadgaaDoor
