/-
  append where an order is open, and append to a slice that was made empty; parts of a grown slice that is frozen. Conditions: none.
  Grown slices: the rest of one is cleared, its beginning is kept. Conditions: none.
-/
import Derived.Test.YthemeeiedlbhkaaGreatDoorHka
import Derived.Test.YthemeeiedlbhkaaGreatDoorS4
namespace Go.Proofs.YthemeeiedlbhkaaGreatDoor
set_option maxRecDepth 100000
section
variable {P : Program} {G nt : Nat} {ops : Array Oper} {l : List Oper} {o : Oper} {ta : Nat → Value} {σ : Mem} {rs : List (Rec × Mem)} {A : Abs} {F : Nat → Option Blk2} {L : List Ent} {K : List (Rec × Mem) → (Nat → Value) → Mem → Prop}
theorem appendF_empty {t u e b n : Nat} {d : TypeDesc} {i : TypeInfo} {z x : Value} {tE : TypeId} {g : Bool} {xs : List Value} (hr : σ.get b = some (.row ⟨[], tE, g⟩)) (htt : uT P t = some (.slice e)) (huu : uT P u = some d) (h1 : iT P e = some i) (h2 : i.zero = some z) (hsrc : srcG d i z σ x = some (n, xs)) (hn : n ≠ 0) :
    appendF G P σ t u (.slice (some ⟨b, 0, none⟩) 0 0) x = appendF G P σ t u (.slice none 0 0) x := by
  unfold appendF
  rw [htt, huu]
  simp only [h1, h2, hsrc, if_neg hn, hr]
  rw [if_neg (show ¬ 0 + n ≤ 0 by omega)]
  simp
theorem RW.appFD (H : Lies G A F σ L) (k : Nat) {c : Call} {s_ x_ : Operand} {t u e e2 s n l0 : Nat} {v vb xv : Value} {xs ys : List Value} (hs : SlF F s xv n ys) (hw : wantedT ops ta o = true) (hk : opndOk G o = true) (ho : o.op = .call c) (hc : c.callee = .builtin .append) (ha : c.args = #[s_, x_]) (ht : c.argTypes = #[t, u]) (hsv : oper2 ta s_ = vb) (hxv : oper2 ta x_ = xv)
    (hl : lookL L k = some (.sl e s v l0 xs)) (hvb : vb = v ∨ 0 < n ∧ v = .slice none 0 0 ∧ ∃ b' tE g, vb = .slice (some ⟨b', 0, none⟩) 0 0 ∧ σ.get b' = some (.row ⟨[], tE, g⟩)) (htt : uT P t = some (.slice e)) (huu : uT P u = some (.slice e2)) (hi : infoB P e s 64 = true) (hs0 : 0 < s) (hone : ys.all (·.oneCell') = true) (hb : l0 + n ≤ 1000000) (hd : dstOk nt o.dst = true)
    (h : ∀ σ' v', Lies G A F σ' (setL L k (.sl e s v' (l0 + n) (xs ++ ys))) → RW G P nt ops l (putO ta o.dst v') σ' ((.eff v', σ) :: rs) K) : RW G P nt ops (o :: l) ta σ rs K := by
  obtain ⟨i, z, h1, h2, h3, h4, h5⟩ := infoB_ok hi
  have hg := H.sl k hl
  have hsrc : srcG (.slice e2) i z σ xv = some (n, ys) := by
    show srcF σ i.size xv = _
    rw [h4]
    exact slf_src hs hs0 H.old
  by_cases hn : n = 0
  · subst hn
    have hvb : vb = v := by
      rcases hvb with e | ⟨h0, _⟩
      · exact e
      · omega
    subst hvb
    have hy : ys = [] := List.eq_nil_of_length_eq_zero (by rw [hs.length, Nat.zero_mul])
    subst hy
    have k1 : appendF G P σ t u vb xv = some (vb, .same) := by
      unfold appendF
      rw [htt, huu]
      simp only [h1, h2]
      rw [if_pos ⟨h3, by omega⟩]
      simp only [hsrc, if_pos trivial]
      cases hg with
      | nil => rfl
      | row hq hr ht hc hlc hx => exact if_pos hlc
    rw [← hsv, ← hxv] at k1
    refine RW.append hw hk ho hc ha ht k1 hd (h _ _ ?_)
    rw [List.append_nil, Nat.add_zero, hsv, setL_same hl]
    exact H
  · have hmul : (l0 + n) * i.bytes ≤ 1000000 * 64 := Nat.mul_le_mul hb h5
    obtain ⟨v', cmd, k1, k2, k3, k4, k5, k6⟩ := grow_append (P := P) hg H.gn htt huu h1 h2 h3 h4 hs0 hsrc (by omega) hone ⟨by omega, by omega⟩
    have k1 : appendF G P σ t u vb xv = some (v', cmd) := by
      rcases hvb with rfl | ⟨_, rfl, b', tE, g, rfl, hb'⟩
      · exact k1
      · rw [appendF_empty hb' htt huu h1 h2 hsrc hn]; exact k1
    rw [← hsv, ← hxv] at k1
    refine RW.append hw hk ho hc ha ht k1 hd (h _ _ (H.grown k hl k2 k3 k4 k5 fun b hb => ?_))
    rcases k6 with k6 | k6
    · exact .inl (k6 ▸ hb)
    · rw [k6] at hb
      cases hb
      exact .inr (Nat.le_refl _)
end
end Go.Proofs.YthemeeiedlbhkaaGreatDoor
namespace Go.Proofs.YthemeeiedlbhkaaGreatDoor
set_option maxRecDepth 100000
section
variable {P : Program} {G nt : Nat} {ops : Array Oper} {l : List Oper} {o : Oper} {ta : Nat → Value} {σ : Mem} {rs : List (Rec × Mem)} {A : Abs} {F : Nat → Option Blk2} {L : List Ent} {K : List (Rec × Mem) → (Nat → Value) → Mem → Prop}
theorem Lies.cutSl {t e s n i : Nat} {v : Value} {xs : List Value} (H : Lies G A F σ L) (k : Nat) (hs : lookL L k = some (.sl e s v n xs)) (hi : i ≤ n) (ht : uT P t = some (.slice e)) (hz : sizeT P e = some s) :
    ∃ v', sliceF P t v none (some (.int .i64 ((i : Nat) : Int))) none = some v' ∧ Lies G A F σ (setL L k (.sl e s v' i (xs.take (i * s)))) := by
  have hg := H.sl k hs
  cases hg with
  | nil =>
    obtain rfl : i = 0 := by omega
    refine ⟨.slice none 0 0, by simp only [sliceF, ht, hz, boundF]; rfl, ?_⟩
    rw [List.take_nil, setL_same hs]
    exact H
  | @row q _ c r _ hq hr hte hc hl hx =>
    have hb : boundF (some (.int .i64 ((i : Nat) : Int))) n c = some i := by
      simp only [boundF]
      rw [if_pos (by omega), Int.toNat_natCast]
    have hm : i * s ≤ n * s := Nat.mul_le_mul_right _ hi
    refine ⟨.slice (some ⟨q, 0, some s⟩) i c, ?_, H.grown k hs (.row hq hr hte hc (by omega) (by rw [← hx, List.take_take, Nat.min_eq_left hm])) (Nat.le_refl _) rfl (fun _ _ h _ => h) fun c hc => .inl hc⟩
    simp only [sliceF, ht, hz]
    rw [hb]
    simp only []
    rw [show boundF none 0 i = some 0 from rfl]
    simp only []
    rw [if_pos ⟨trivial, by omega⟩]
    simp
end
end Go.Proofs.YthemeeiedlbhkaaGreatDoor
