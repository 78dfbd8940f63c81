/-
  What is frozen, as a source of append; entries of two memories together. No program in this text. Conditions: none.
  append where an order is open, and append to a slice that was made empty; parts of a grown slice that is frozen. Conditions: none.
  Frozen slices of which the room is known, their parts; lists of frozen slices. Over any program. Conditions: none.
  More rules of a walk: make of a slice, copy, append of made elements. Over any program. Conditions: none.
  A row of so many elements of several cells: made, filled by copies. Over any program. Conditions: none.
  A contract of a call that leaves all alone, as a call of the second memory. Over any program. Conditions: none.
-/
import Derived.Test.YtmmapljeeccdnaaDoorS4
import Derived.Test.YtmmapljeeccdnaaDoorS3
import Derived.Test.YtmmapljeeccdnaaDoorBase
namespace Go.Proofs.YtmmapljeeccdnaaDoor
set_option maxRecDepth 100000
theorem slf_src {F : Nat → Option Blk2} {σ : Mem} {s n : Nat} {v : Value} {xs : List Value} (h : SlF F s v n xs) (hs0 : 0 < s) (ho : ∀ b y, F b = some y → σ.get b = some y) : srcF σ s v = some (n, xs) := by
 cases h with
 | nil _ h => subst h; rfl
 | void _ _ h => subst h; rfl
 | @some b p n c sp r xs hr hx hc =>
  unfold srcF
  by_cases h0 : n = 0
  ·subst h0
   rw [Nat.zero_mul] at hx
   simp only [if_pos trivial]
   rw [List.eq_nil_of_length_eq_zero hx]
  ·have h1 : 0 < n * s := Nat.mul_pos (by omega) hs0
   have h2 := congrArg List.length hc
   rw [List.length_take, List.length_drop, hx] at h2
   simp only [if_neg h0, ho _ _ hr]
   rw [if_pos (by omega), hc]
theorem setL_same : ∀ {L : List Ent} {k : Nat} {x : Ent}, lookL L k = some x → setL L k x = L
 | _ :: _, 0, _, h => by cases h; rfl
 | x :: l, k + 1, y, h => congrArg (x :: ·) (setL_same (L := l) (k := k) h)
theorem allOk_app {G : Nat} {σ : Mem} : ∀ {a b : List Ent}, AllOk G σ a → AllOk G σ b → AllOk G σ (a ++ b)
 | [], _, _, h => h
 | _ :: _, _, h, k => ⟨h.1, allOk_app h.2 k⟩
theorem apart_app {F F' : Nat → Option Blk2} : ∀ {a b : List Ent}, Apart F' a → Apart F b → Le F F' → (∀ y ∈ b, ∀ c, y.blk = some c → F' c ≠ none) → Apart F (a ++ b)
 | [], _, _, h, _, _ => h
 | x :: l, b, h, k, le, hb => by
  refine ⟨fun c hc => ⟨?_, fun y hy hyc => ?_⟩, apart_app h.2 k le hb⟩
  ·have := (h.1 c hc).1
   cases e : F c with
   | none => rfl
   | some z => rw [le _ _ e] at this; cases this
  ·rcases List.mem_append.1 hy with h1 | h1
   ·exact (h.1 c hc).2 y h1 hyc
   ·exact hb y h1 c hyc (h.1 c hc).1
theorem Lies.then {G : Nat} {A A' : Abs} {F : Nat → Option Blk2} {σ σ' : Mem} {L L' : List Ent} (H : Lies G A F σ L) (K : Lies G A' σ.get σ' L') : Lies G A' F σ' (L' ++ L) := by
 refine ⟨K.gn, fun b y h => K.old b y (H.old b y h), K.abs, allOk_app K.ok (H.ok.keep fun _ _ b y _ h => K.old b y h), apart_app K.apart H.apart H.old fun y hy c hc => ?_⟩
 obtain ⟨_, z, hz⟩ := (H.ok.mem y hy).is hc
 rw [hz]
 exact fun h => by cases h
theorem ints_at {l : List Int} {j : Nat} (hj : j < l.length) : ((l.map (Value.int .i64)).drop (((j : Nat) : Int).toNat * 1)).take 1 = [.int .i64 (l.getD j 0)] := by
 rw [Int.toNat_natCast, Nat.mul_one, List.getD_eq_getElem?_getD, List.getElem?_eq_getElem hj, List.drop_eq_getElem_cons (by simpa using hj)]
 simp
theorem Lies.back {G : Nat} {A : Abs} {F F' : Nat → Option Blk2} {σ : Mem} {L : List Ent} (H : Lies G A F' σ L) (k : Le F F') : Lies G A F σ L :=
 ⟨H.gn, fun b y h => H.old b y (k b y h), H.abs, H.ok, H.apart.frozen fun z hz b hb => by
  have := H.apart.mem z hz b hb
  cases e : F b with
  | none => rfl
  | some y => rw [k b y e] at this; cases this⟩
end Go.Proofs.YtmmapljeeccdnaaDoor
namespace Go.Proofs.YtmmapljeeccdnaaDoor
set_option maxRecDepth 100000
section
variable {P : Program} {G nt : Nat} {ops : Array Oper} {l : List Oper} {o : Oper} {ta : Nat → Value} {σ : Mem} {rs : List (Rec × Mem)} {A : Abs} {F : Nat → Option Blk2} {L : List Ent} {K : List (Rec × Mem) → (Nat → Value) → Mem → Prop}
theorem appendF_empty {t u e b n : Nat} {d : TypeDesc} {i : TypeInfo} {z x : Value} {tE : TypeId} {g : Bool} {xs : List Value} (hr : σ.get b = some (.row ⟨[], tE, g⟩)) (htt : uT P t = some (.slice e)) (huu : uT P u = some d) (h1 : iT P e = some i) (h2 : i.zero = some z) (hsrc : srcG d i z σ x = some (n, xs)) (hn : n ≠ 0) :
    appendF G P σ t u (.slice (some ⟨b, 0, none⟩) 0 0) x = appendF G P σ t u (.slice none 0 0) x := by
  unfold appendF
  rw [htt, huu]
  simp only [h1, h2, hsrc, if_neg hn, hr]
  rw [if_neg (show ¬ 0 + n ≤ 0 by omega)]
  simp
theorem RW.appLB (H : Lies G A F σ L) (k j : Nat) {c : Call} {s_ x_ : Operand} {t u e e2 s n l0 b : Nat} {v vb : Value} {xs : List Value} {r : Row} (hw : wantedT ops ta o = true) (hk : opndOk G o = true) (ho : o.op = .call c) (hc : c.callee = .builtin .append) (ha : c.args = #[s_, x_]) (ht : c.argTypes = #[t, u]) (hsv : oper2 ta s_ = vb) (hxv : oper2 ta x_ = .slice (some ⟨b, 0, none⟩) n n)
    (hl : lookL L k = some (.sl e s v l0 xs)) (hvb : vb = v ∨ v = .slice none 0 0 ∧ ∃ b' tE g, vb = .slice (some ⟨b', 0, none⟩) 0 0 ∧ σ.get b' = some (.row ⟨[], tE, g⟩)) (hr : lookL L j = some (.at_ b (.row r))) (htt : uT P t = some (.slice e)) (huu : uT P u = some (.slice e2)) (hi : infoB P e s 512 = true) (hs0 : 0 < s) (hn : 0 < n) (hrl : r.cs.length = n * s) (hone : r.cs.all (·.oneCell') = true) (hb : l0 + n ≤ 1000000) (hd : dstOk nt o.dst = true)
    (h : ∀ σ' v', Lies G A F σ' (delL (setL L k (.sl e s v' (l0 + n) (xs ++ r.cs))) j) → RW G P nt ops l (putO ta o.dst v') σ' ((.eff v', σ) :: rs) K) : RW G P nt ops (o :: l) ta σ rs K := by
  obtain ⟨i, z, h1, h2, h3, h4, h5⟩ := infoB_ok hi
  have hg := H.sl k hl
  have hrow := H.get j hr
  have hsrc : srcG (.slice e2) i z σ (.slice (some ⟨b, 0, none⟩) n n) = some (n, r.cs) := by
    rw [show srcG (.slice e2) i z σ (.slice (some ⟨b, 0, none⟩) n n) = srcF σ i.size (.slice (some ⟨b, 0, none⟩) n n) from rfl]
    unfold srcF
    rw [h4]
    simp only [if_neg (show ¬ n = 0 by omega), hrow]
    rw [if_pos (by omega), List.drop_zero, ← hrl, List.take_length]
  have hmul : (l0 + n) * i.bytes ≤ 1000000 * 512 := Nat.mul_le_mul hb h5
  obtain ⟨v', cmd, k1, k2, k3, k4, k5, k6⟩ := grow_append (P := P) hg H.gn htt huu h1 h2 h3 h4 hs0 hsrc hn hone ⟨by omega, by omega⟩
  have k1 : appendF G P σ t u vb (.slice (some ⟨b, 0, none⟩) n n) = some (v', cmd) := by
    rcases hvb with rfl | ⟨rfl, b', tE, g, rfl, hb'⟩
    · exact k1
    · rw [appendF_empty hb' htt huu h1 h2 hsrc (by omega)]; exact k1
  rw [← hsv, ← hxv] at k1
  refine RW.append hw hk ho hc ha ht k1 hd (h _ _ (Lies.del (H.grown k hl k2 k3 k4 k5 fun b hb => ?_) j))
  rcases k6 with k6 | k6
  · exact .inl (k6 ▸ hb)
  · rw [k6] at hb
    cases hb
    exact .inr (Nat.le_refl _)
end
end Go.Proofs.YtmmapljeeccdnaaDoor
namespace Go.Proofs.YtmmapljeeccdnaaDoor
set_option maxRecDepth 100000
inductive SlK (F : Nat → Option Blk2) (s : Nat) : Value → Nat → List Value → Prop
 | nil : SlK F s (.slice none 0 0) 0 []
 | some {b p n c : Nat} {sp : Option Nat} {r : Row} {xs : List Value} (hr : F b = .some (.row r)) (hx : xs.length = n * s) (hc : (r.cs.drop p).take (n * s) = xs) (hle : n ≤ c) (hsp : sp = none ∨ sp = .some s) : SlK F s (.slice (.some ⟨b, p, sp⟩) n c) n xs
section
variable {F F' : Nat → Option Blk2} {s n : Nat} {v : Value} {xs : List Value}
theorem SlK.slf (h : SlK F s v n xs) : SlF F s v n xs := by
 cases h with
 | nil => exact .nil _ rfl
 | some hr hx hc _ _ => exact .some hr hx hc
theorem SlK.le (h : SlK F s v n xs) (k : Le F F') : SlK F' s v n xs := by
 cases h with
 | nil => exact .nil
 | some hr hx hc h1 h2 => exact .some (k _ _ hr) hx hc h1 h2
theorem SlK.length (h : SlK F s v n xs) : xs.length = n * s := h.slf.length
variable {P : Program} {t e : TypeId} {i : Nat}
theorem slk_cut (h : SlK F s v n xs) (ht : uT P t = some (.slice e)) (hz : sizeT P e = some s) (hi : i ≤ n) :
    ∃ v', sliceF P t v none (some (.int .i64 ((i : Nat) : Int))) none = some v' ∧ SlK F s v' i (xs.take (i * s)) := by
  cases h with
  | nil =>
    obtain rfl : i = 0 := by omega
    refine ⟨.slice none 0 0, by simp only [sliceF, ht, hz, boundF]; rfl, ?_⟩
    rw [List.take_nil]
    exact .nil
  | @some b p _ c sp r _ hr hx hc hle hsp =>
    have hb : boundF (some (.int .i64 ((i : Nat) : Int))) n c = some i := by
      simp only [boundF]
      rw [if_pos (by omega), Int.toNat_natCast]
    have hm : i * s ≤ n * s := Nat.mul_le_mul_right _ hi
    have key : SlK F s (.slice (some ⟨b, p, sp⟩) i c) i (xs.take (i * s)) := .some hr (by rw [List.length_take]; omega) (by rw [← hc, List.take_take, Nat.min_eq_left hm]) (by omega) hsp
    refine ⟨_, ?_, key⟩
    simp only [sliceF, ht, hz]
    rw [hb]
    simp only []
    rw [show boundF none 0 i = some 0 from rfl]
    rcases hsp with rfl | rfl
    · simp
    · simp only []
      rw [if_pos ⟨trivial, by omega⟩]
      simp
theorem slk_rest (h : SlK F s v n xs) (ht : uT P t = some (.slice e)) (hz : sizeT P e = some s) (hi : i ≤ n) :
    ∃ v', sliceF P t v (some (.int .i64 ((i : Nat) : Int))) none none = some v' ∧ SlK F s v' (n - i) (xs.drop (i * s)) := by
  cases h with
  | nil =>
    obtain rfl : i = 0 := by omega
    refine ⟨.slice none 0 0, by simp only [sliceF, ht, hz, boundF]; rfl, ?_⟩
    rw [List.drop_nil]
    exact .nil
  | @some b p _ c sp r _ hr hx hc hle hsp =>
    have hb : boundF (some (.int .i64 ((i : Nat) : Int))) 0 n = some i := by
      simp only [boundF]
      rw [if_pos (by omega), Int.toNat_natCast]
    have hm : i * s ≤ n * s := Nat.mul_le_mul_right _ hi
    have hm2 : (n - i) * s = n * s - i * s := Nat.sub_mul ..
    have key : ∀ q, (q = p ∧ c = i ∨ q = p + i * s) → SlK F s (.slice (some ⟨b, q, sp⟩) (n - i) (c - i)) (n - i) (xs.drop (i * s)) := by
      rintro q (⟨rfl, hci⟩ | rfl)
      · obtain rfl : n = i := by omega
        rw [Nat.sub_self]
        exact .some hr (by rw [List.length_drop, hx]; omega) (by rw [Nat.zero_mul, List.take_zero, List.drop_of_length_le (by omega)]) (by omega) hsp
      · exact .some hr (by rw [List.length_drop, hx]; omega) (by rw [← hc, List.drop_take, hm2, List.drop_drop]) (by omega) hsp
    by_cases hci : c = i
    · refine ⟨_, ?_, key p (.inl ⟨rfl, hci⟩)⟩
      simp only [sliceF, ht, hz]
      rw [show boundF none n c = some n from rfl]
      simp only []
      rw [hb]
      rcases hsp with rfl | rfl
      · simp [hci]
      · simp only []
        rw [if_pos ⟨trivial, hle⟩]
        simp [hci]
    · refine ⟨_, ?_, key (p + i * s) (.inr rfl)⟩
      simp only [sliceF, ht, hz]
      rw [show boundF none n c = some n from rfl]
      simp only []
      rw [hb]
      rcases hsp with rfl | rfl
      · simp [hci]
      · simp only []
        rw [if_pos ⟨trivial, hle⟩]
        simp [hci]
end
section
variable {G : Nat} {A : Abs} {F F' : Nat → Option Blk2} {σ : Mem} {L : List Ent}
theorem Lies.freezeK (H : Lies G A F σ L) (k : Nat) {e s n : Nat} {v : Value} {xs : List Value} (h : lookL L k = some (.sl e s v n xs)) : ∃ F', Le F F' ∧ SlK F' s v n xs ∧ Lies G A F' σ (delL L k) := by
 have hg : GRow G σ e s v n xs := H.ok.mem _ (lookL_mem h)
 obtain ⟨F', k1, k2, k3⟩ := H.freezeSl k h
 refine ⟨F', k1, ?_, k3⟩
 cases hg with
 | nil => exact .nil
 | row _ _ _ _ hl _ =>
  cases k2 with
  | some hr hx hc => exact .some hr hx hc hl (.inr rfl)
def AllR (F : Nat → Option Blk2) : List Value → List (List Int) → Prop
 | [], [] => True
 | v :: vs, l :: M => SlK F 1 v l.length (l.map (Value.int .i64)) ∧ AllR F vs M
 | _, _ => False
theorem AllR.le (k : Le F F') : ∀ {vs : List Value} {M : List (List Int)}, AllR F vs M → AllR F' vs M
 | [], [], _ => trivial
 | _ :: _, _ :: _, h => ⟨h.1.le k, AllR.le k h.2⟩
theorem AllR.len : ∀ {vs : List Value} {M : List (List Int)}, AllR F vs M → vs.length = M.length
 | [], [], _ => rfl
 | _ :: _, _ :: _, h => congrArg (· + 1) (AllR.len h.2)
theorem AllR.app : ∀ {vs ws : List Value} {M N : List (List Int)}, AllR F vs M → AllR F ws N → AllR F (vs ++ ws) (M ++ N)
 | [], _, [], _, _, k => k
 | _ :: _, _, _ :: _, _, h, k => ⟨h.1, AllR.app h.2 k⟩
theorem AllR.take : ∀ {vs : List Value} {M : List (List Int)} (i : Nat), AllR F vs M → AllR F (vs.take i) (M.take i)
 | [], [], i, _ => by rw [List.take_nil, List.take_nil]; trivial
 | _ :: _, _ :: _, 0, _ => trivial
 | _ :: _, _ :: _, i + 1, h => ⟨h.1, AllR.take i h.2⟩
theorem AllR.drop : ∀ {vs : List Value} {M : List (List Int)} (i : Nat), AllR F vs M → AllR F (vs.drop i) (M.drop i)
 | [], [], i, _ => by rw [List.drop_nil, List.drop_nil]; trivial
 | _ :: _, _ :: _, 0, h => h
 | _ :: _, _ :: _, i + 1, h => AllR.drop i h.2
theorem AllR.get : ∀ {vs : List Value} {M : List (List Int)} {i : Nat}, AllR F vs M → i < M.length → SlK F 1 (vs.getD i undef) (M.getD i []).length ((M.getD i []).map (Value.int .i64))
 | [], [], i, _, hi => absurd hi (Nat.not_lt_zero _)
 | _ :: _, _ :: _, 0, h, _ => h.1
 | _ :: _, _ :: _, i + 1, h, hi => AllR.get (i := i) h.2 (by simpa using hi)
theorem AllR.ones : ∀ {vs : List Value} {M : List (List Int)}, AllR F vs M → vs.all (·.oneCell') = true
 | [], [], _ => rfl
 | v :: vs, _ :: _, h => by
  have := slf_all h.1.slf
  rw [List.all_cons, List.all_nil, Bool.and_true] at this
  rw [List.all_cons, AllR.ones h.2, Bool.and_true, this]
def MacF (F : Nat → Option Blk2) (v : Value) (M : List (List Int)) : Prop := ∃ vs : List Value, SlK F 1 v M.length vs ∧ AllR F vs M
theorem MacF.le {v : Value} {M : List (List Int)} (h : MacF F v M) (k : Le F F') : MacF F' v M := by
 obtain ⟨vs, h1, h2⟩ := h
 exact ⟨vs, h1.le k, h2.le k⟩
end
end Go.Proofs.YtmmapljeeccdnaaDoor
namespace Go.Proofs.YtmmapljeeccdnaaDoor
set_option maxRecDepth 100000
theorem wrap_u {n : Int} (h1 : 0 ≤ n) (h2 : n ≤ 18446744073709551615) : IntKind.u64.wrap n = n := by
 simp [IntKind.wrap, IntKind.bits, IntKind.signed]
 omega
theorem zerosN_ones {l : List Value} (h : l.all (·.oneCell') = true) : ∀ n, (zerosN l n).all (·.oneCell') = true
 | 0 => rfl
 | n + 1 => by
  rw [show zerosN l (n + 1) = l ++ zerosN l n from rfl, List.all_append, h, zerosN_ones h n]
  rfl
section
variable {P : Program} {G nt : Nat} {ops : Array Oper} {l : List Oper} {o : Oper} {ta : Nat → Value} {σ : Mem} {rs : List (Rec × Mem)} {A : Abs} {F : Nat → Option Blk2} {L : List Ent} {K : List (Rec × Mem) → (Nat → Value) → Mem → Prop}
theorem RW.cpy (H : Lies G A F σ L) (k : Nat) {c : Call} {d_ x_ : Operand} {t u e s l0 cp b p n q : Nat} {sp : Option Nat} {r : Row} {xv : Value} {xs cs' : List Value} (hw : wantedT ops ta o = true) (hk : opndOk G o = true) (ho : o.op = .call c) (hc : c.callee = .builtin .copy) (ha : c.args = #[d_, x_]) (ht : c.argTypes = #[t, u]) (hdv : oper2 ta d_ = .slice (some ⟨b, p, sp⟩) l0 cp) (hxv : oper2 ta x_ = xv)
    (hl : lookL L k = some (.at_ b (.row r))) (htt : uT P t = some (.slice e)) (hsz : sizeT P e = some s) (hsrc : srcF σ s xv = some (n, xs)) (hq : Nat.min n l0 = q) (hm : 0 < q) (hp : p + (xs.take (q * s)).length ≤ r.cs.length) (hone : xs.all (·.oneCell') = true) (he : overL r.cs p (xs.take (q * s)) = cs') (hd : dstOk nt o.dst = true)
    (h : ∀ σ', Lies G A F σ' (setL L k (.at_ b (.row ⟨cs', r.t, r.g⟩))) → RW G P nt ops l (putO ta o.dst (.int .i64 ((q : Nat) : Int))) σ' ((.eff (.int .i64 ((q : Nat) : Int)), σ) :: rs) K) : RW G P nt ops (o :: l) ta σ rs K := by
  subst hq
  have hl0 : l0 ≠ 0 := fun e0 => by rw [e0, show Nat.min n 0 = 0 from Nat.min_zero n] at hm; exact Nat.lt_irrefl _ hm
  have e1 : copyF G P σ t (oper2 ta d_) (oper2 ta x_) = some (.int .i64 ((Nat.min n l0 : Nat) : Int), .put b (.row ⟨cs', r.t, r.g⟩)) := by
    unfold copyF
    rw [htt, hdv, hxv]
    simp only [hsz, hsrc, H.get k hl]
    rw [if_neg (by omega), if_pos ⟨H.low k hl, hl0, hp, hone⟩, he]
  exact RW.eff hw hk (eop_copy ho hc ha ht e1) hd (h _ (H.put k _ hl))
theorem gr_forms {e s n : Nat} {v : Value} {xs : List Value} (h : GRow G σ e s v n xs) : v = .slice none 0 0 ∨ ∃ q m c, v = .slice (some ⟨q, 0, some s⟩) m c := by
 cases h with
 | nil => exact .inl rfl
 | row => exact .inr ⟨_, _, _, rfl⟩
theorem RW.appN (H : Lies G A F σ L) {c : Call} {s_ x_ : Operand} {t u e e2 s b p l0 cp : Nat} {sp : Option Nat} {xv : Value} {ys : List Value} (hs : SlF F s xv 0 ys) (hw : wantedT ops ta o = true) (hk : opndOk G o = true) (ho : o.op = .call c) (hc : c.callee = .builtin .append) (ha : c.args = #[s_, x_]) (ht : c.argTypes = #[t, u]) (hsv : oper2 ta s_ = .slice (some ⟨b, p, sp⟩) l0 cp) (hxv : oper2 ta x_ = xv) (hle : l0 ≤ cp)
    (htt : uT P t = some (.slice e)) (huu : uT P u = some (.slice e2)) (hi : infoB P e s 64 = true) (hs0 : 0 < s) (hd : dstOk nt o.dst = true)
    (h : RW G P nt ops l (putO ta o.dst (.slice (some ⟨b, p, sp⟩) l0 cp)) σ ((.eff (.slice (some ⟨b, p, sp⟩) l0 cp), σ) :: rs) K) : RW G P nt ops (o :: l) ta σ rs K := by
  obtain ⟨i, z, h1, h2, h3, h4, h5⟩ := infoB_ok hi
  have hsrc : srcG (.slice e2) i z σ xv = some (0, ys) := by
    show srcF σ i.size xv = _
    rw [h4]
    exact slf_src hs hs0 H.old
  have k1 : appendF G P σ t u (.slice (some ⟨b, p, sp⟩) l0 cp) xv = some (.slice (some ⟨b, p, sp⟩) l0 cp, .same) := by
    unfold appendF
    rw [htt, huu]
    simp only [h1, h2]
    rw [if_pos ⟨h3, by omega⟩]
    simp only [hsrc, if_pos trivial, if_pos hle]
  rw [← hsv, ← hxv] at k1
  have := RW.append (σ := σ) (rs := rs) (l := l) (K := K) hw hk ho hc ha ht k1 hd
  rw [hsv] at this
  exact this h
theorem RW.appS (H : Lies G A F σ L) {c : Call} {s_ x_ : Operand} {t u e e2 s b m n : Nat} {r : Row} {xv : Value} {ys : List Value} (hs : SlF F s xv n ys) (hw : wantedT ops ta o = true) (hk : opndOk G o = true) (ho : o.op = .call c) (hc : c.callee = .builtin .append) (ha : c.args = #[s_, x_]) (ht : c.argTypes = #[t, u]) (hsv : oper2 ta s_ = .slice (some ⟨b, 0, none⟩) m m) (hxv : oper2 ta x_ = xv) (hr : σ.get b = some (.row r)) (hrl : r.cs.length = m * s) (hn : 0 < n)
    (htt : uT P t = some (.slice e)) (huu : uT P u = some (.slice e2)) (hi : infoB P e s 64 = true) (hs0 : 0 < s) (hb : m + n ≤ 1000000) (hd : dstOk nt o.dst = true)
    (h : ∀ σ' v', Lies G A F σ' (.sl e s v' (m + n) (r.cs ++ ys) :: L) → RW G P nt ops l (putO ta o.dst v') σ' ((.eff v', σ) :: rs) K) : RW G P nt ops (o :: l) ta σ rs K := by
  obtain ⟨i, z, h1, h2, h3, h4, h5⟩ := infoB_ok hi
  have hsrc : srcG (.slice e2) i z σ xv = some (n, ys) := by
    show srcF σ i.size xv = _
    rw [h4]
    exact slf_src hs hs0 H.old
  have hmul : (m + n) * i.bytes ≤ 1000000 * 64 := Nat.mul_le_mul hb h5
  have hyl : ys.length = n * s := hs.length
  have hadd : (m + n) * s = m * s + n * s := Nat.add_mul _ _ _
  have k1 : appendF G P σ t u (.slice (some ⟨b, 0, none⟩) m m) xv = some (.slice (some ⟨σ.next, 0, some s⟩) (m + n) (m + n), .push (.row ⟨r.cs ++ ys, e, true⟩)) := by
    unfold appendF
    rw [htt, huu]
    simp only [h1, h2]
    rw [if_pos ⟨h3, by omega⟩]
    simp only [hsrc, if_neg (show ¬ n = 0 by omega), hr, if_neg (show ¬ m + n ≤ m by omega)]
    rw [if_pos ⟨by omega, by omega, by rw [h4, hrl]; omega⟩, h4, List.drop_zero, ← hrl, List.take_length]
  rw [← hsv, ← hxv] at k1
  refine RW.append hw hk ho hc ha ht k1 hd (h _ _ ?_)
  have g : Grow σ (σ.push (.row ⟨r.cs ++ ys, e, true⟩)) := ⟨fun b y hy => get_push_old hy, Nat.le_succ _, rfl⟩
  exact H.addSl g (.row H.gn get_push rfl (by rw [List.length_append, hrl, hyl, hadd]) (Nat.le_refl _) (List.take_of_length_le (by rw [List.length_append, hrl, hyl, hadd]; exact Nat.le_refl _))) fun c hc => by cases hc; exact Nat.le_refl _
end
end Go.Proofs.YtmmapljeeccdnaaDoor
namespace Go.Proofs.YtmmapljeeccdnaaDoor
set_option maxRecDepth 100000
theorem zerosN_add (l : List Value) (b : Nat) : ∀ a, zerosN l (a + b) = zerosN l a ++ zerosN l b
 | 0 => by rw [Nat.zero_add]; rfl
 | a + 1 => by
  rw [Nat.succ_add]
  show l ++ zerosN l (a + b) = l ++ zerosN l a ++ zerosN l b
  rw [zerosN_add l b a, List.append_assoc]
theorem zerosN_take {l : List Value} {s a n : Nat} (hl : l.length = s) (h : a ≤ n) : (zerosN l n).take (a * s) = zerosN l a := by
 obtain ⟨b, rfl⟩ : ∃ b, n = a + b := ⟨n - a, by omega⟩
 rw [zerosN_add, List.take_append_of_le_length (by rw [zerosN_len, hl]; exact Nat.le_refl _), List.take_of_length_le (by rw [zerosN_len, hl]; exact Nat.le_refl _)]
theorem zerosN_drop {l : List Value} {s a n : Nat} (hl : l.length = s) (h : a ≤ n) : (zerosN l n).drop (a * s) = zerosN l (n - a) := by
 obtain ⟨b, rfl⟩ : ∃ b, n = a + b := ⟨n - a, by omega⟩
 have e : (zerosN l a).length = a * s := by rw [zerosN_len, hl]
 rw [zerosN_add, ← e, List.drop_left, Nat.add_sub_cancel_left]
theorem zerosN_one (l : List Value) : zerosN l 1 = l := List.append_nil l
def rowB (vs zs : List Value) (N m : Nat) : List Value := zerosN vs m ++ zerosN zs (N - m)
section
variable {vs zs : List Value} {s N : Nat} (h1 : vs.length = s) (h2 : zs.length = s)
include h1 h2
theorem rowB_len {m : Nat} (hm : m ≤ N) : (rowB vs zs N m).length = N * s := by
 unfold rowB
 rw [List.length_append, zerosN_len, zerosN_len, h1, h2, ← Nat.add_mul]
 congr 1
 omega
theorem rowB_put {m q : Nat} (hq : m + q ≤ N) : overL (rowB vs zs N m) (m * s) (zerosN vs q) = rowB vs zs N (m + q) := by
 have e : (zerosN vs m).length = m * s := by rw [zerosN_len, h1]
 have eq : (zerosN vs q).length = q * s := by rw [zerosN_len, h1]
 unfold overL rowB
 rw [eq, ← e, List.take_left, ← List.drop_drop, List.drop_left, zerosN_drop h2 (by omega), zerosN_add]
 congr 2
 omega
theorem rowB_start (hN : 0 < N) : overL (zerosN zs N) 0 (vs.take (1 * s)) = rowB vs zs N 1 := by
 have := rowB_put (N := N) (m := 0) (q := 1) h1 h2 (by omega)
 rw [zerosN_one, Nat.zero_mul] at this
 rw [List.take_of_length_le (by omega)]
 exact this
theorem rowB_next {m q : Nat} (hq1 : q ≤ m) (hq2 : m + q ≤ N) : overL (rowB vs zs N m) (m * s) ((((rowB vs zs N m).drop 0).take (m * s)).take (q * s)) = rowB vs zs N (m + q) := by
 have e : (zerosN vs m).length = m * s := by rw [zerosN_len, h1]
 have : ((rowB vs zs N m).drop 0).take (m * s) = zerosN vs m := by
  unfold rowB
  rw [List.drop_zero, ← e, List.take_left]
 rw [this, zerosN_take h1 hq1]
 exact rowB_put h1 h2 hq2
end
theorem rowB_full (vs zs : List Value) (N : Nat) : rowB vs zs N N = zerosN vs N := by
 unfold rowB
 rw [Nat.sub_self]
 exact List.append_nil _
theorem rowB_ones {vs zs : List Value} (h1 : vs.all (·.oneCell') = true) (h2 : zs.all (·.oneCell') = true) (N m : Nat) : (rowB vs zs N m).all (·.oneCell') = true := by
 unfold rowB
 rw [List.all_append, zerosN_ones h1, zerosN_ones h2]
 rfl
theorem rowB_ones' {vs zs : List Value} (h1 : vs.all (·.oneCell') = true) (h2 : zs.all (·.oneCell') = true) (N m i : Nat) : (((rowB vs zs N m).drop 0).take i).all (·.oneCell') = true := by
 have h := rowB_ones h1 h2 N m
 rw [List.all_eq_true] at h ⊢
 intro x hx
 exact h x (List.mem_of_mem_drop (List.mem_of_mem_take hx))
theorem make_wide {z : Array Value} {s : Nat} (hz : z.size = s) (hs : 0 < s) (n : Nat) : (if n * s = 0 then [] else (zerosF z (n * s)).toList) = zerosN z.toList n := by
 have hl : z.toList.length = s := by rw [Array.length_toList, hz]
 split
 ·rename_i h
  rcases Nat.mul_eq_zero.1 h with h | h
  ·subst h; rfl
  ·omega
 ·apply List.ext_getElem?
  intro i
  unfold zerosF
  rcases Nat.lt_or_ge i (n * s) with hi | hi
  ·rw [zerosN_get _ _ _ (by rw [hl]; exact hi), hl]
   have hm : i % s < z.size := by rw [hz]; exact Nat.mod_lt _ hs
   rw [Array.toList_map, List.getElem?_map, Array.toList_range, List.getElem?_range hi]
   simp [hz, Nat.mod_lt _ hs]
  ·rw [List.getElem?_eq_none (by simp; exact hi), List.getElem?_eq_none (by rw [zerosN_len, hl]; exact hi)]
section
variable {P : Program} {G nt : Nat} {ops : Array Oper} {l : List Oper} {o : Oper} {ta : Nat → Value} {σ : Mem} {rs : List (Rec × Mem)} {A : Abs} {F : Nat → Option Blk2} {L : List Ent} {K : List (Rec × Mem) → (Nat → Value) → Mem → Prop}
theorem RW.mkB (H : Lies G A F σ L) {t e : TypeId} {x y : Operand} {k1 k2 : IntKind} {n s : Nat} {z : Value} {zs : List Value} (hw : wantedT ops ta o = true) (hk : opndOk G o = true) (ho : o.op = .makeSlice t x y) (hx : oper2 ta x = .int k1 ((n : Nat) : Int)) (hy : oper2 ta y = .int k2 ((n : Nat) : Int)) (hu : uT P t = some (.slice e)) (hi : infoB P e s 64 = true) (hs : 0 < s) (hzt : zeroT P e = some z) (hz1 : closedV 2 z = true) (hz3 : z.cells.toList = zs) (hn : n ≤ 1000000) (hd : dstOk nt o.dst = true)
    (hst : stepOp G P σ o (oper2 ta) = (match makeSliceF P t (oper2 ta x) (oper2 ta y) with | some (e, cs, l, c) => some (.make (.row ⟨cs, e, false⟩) fun b => .slice (some ⟨b, 0, none⟩) l c) | none => none))
    (h : ∀ σ' b, Lies G A F σ' (.at_ b (.row ⟨zerosN zs n, e, false⟩) :: L) → RW G P nt ops l (putO ta o.dst (.slice (some ⟨b, 0, none⟩) n n)) σ' ((.make (.row ⟨zerosN zs n, e, false⟩) fun b => .slice (some ⟨b, 0, none⟩) n n, σ) :: rs) K) : RW G P nt ops (o :: l) ta σ rs K := by
  obtain ⟨i, z', h1, h2, h3, h4, h5⟩ := infoB_ok hi
  have hz : z' = z := by
    unfold zeroT at hzt
    rw [h1] at hzt
    exact Option.some.inj (h2.symm.trans hzt)
  subst hz
  subst hz3
  have hm : n * i.bytes ≤ 1000000 * 64 := Nat.mul_le_mul hn h5
  have e1 : makeSliceF P t (oper2 ta x) (oper2 ta y) = some (e, zerosN z'.cells.toList n, n, n) := by
    unfold makeSliceF
    rw [hu, hx, hy]
    simp only [h1, hzt]
    rw [if_pos ⟨by omega, by omega, by omega, by
      have : (i.bytes : Int) * ((n : Nat) : Int) = ((n * i.bytes : Nat) : Int) := by push_cast; exact Int.mul_comm _ _
      rw [this]; omega, hz1, by omega⟩, Int.toNat_natCast, h4, make_wide (h3.trans h4) hs]
  rw [e1] at hst
  exact RW.make hw hk hst hd (h _ _ (H.push _))
theorem slice_fromB {t e b m N s : Nat} (hm : m < N) (ht : uT P t = some (.slice e)) (hz : sizeT P e = some s) : sliceF P t (.slice (some ⟨b, 0, none⟩) N N) (some (.int .i64 ((m : Nat) : Int))) none none = some (.slice (some ⟨b, m * s, none⟩) (N - m) (N - m)) := by
 have hb : boundF (some (.int .i64 ((m : Nat) : Int))) 0 N = some m := by
  simp only [boundF]
  rw [if_pos (by omega), Int.toNat_natCast]
 simp only [sliceF, ht, hz]
 rw [show boundF none N N = some N from rfl]
 simp only []
 rw [hb]
 simp only []
 rw [if_neg (by omega), Nat.zero_add]
theorem slice_toB {t e b m N s : Nat} (hm : m ≤ N) (ht : uT P t = some (.slice e)) (hz : sizeT P e = some s) (hm0 : 0 < N) : sliceF P t (.slice (some ⟨b, 0, none⟩) N N) none (some (.int .i64 ((m : Nat) : Int))) none = some (.slice (some ⟨b, 0, none⟩) m N) := by
 have hb : boundF (some (.int .i64 ((m : Nat) : Int))) N N = some m := by
  simp only [boundF]
  rw [if_pos (by omega), Int.toNat_natCast]
 simp only [sliceF, ht, hz]
 rw [hb]
 simp only []
 rw [show boundF none 0 m = some 0 from rfl]
 simp
end
theorem src_rowB {σ : Mem} {b m c s : Nat} {r : Row} (h : σ.get b = some (.row r)) (h0 : 0 < m) (hm : m * s ≤ r.cs.length) : srcF σ s (.slice (some ⟨b, 0, none⟩) m c) = some (m, (r.cs.drop 0).take (m * s)) := by
 unfold srcF
 simp only [h]
 rw [if_neg (by omega), if_pos (by omega)]
end Go.Proofs.YtmmapljeeccdnaaDoor
namespace Go.Proofs.YtmmapljeeccdnaaDoor
open Go.RowKit
set_option maxRecDepth 100000
section
variable {P : Program} {G : Nat}
theorem below_call {f : FuncId} {args : Array Value} {v : Value} {σ : Mem} (hl : args.toList.all (closedV 3) = true) (hv : closedV 3 v = true)
    (hc : ∀ w, Calls P f args w fun e w' => e = .returned v ∧ Below w.heap.size w w') : SCall G P f args σ v σ := by
  refine ⟨Nat.le_refl _, fun μ w cargs hs hGn _ har => ?_⟩
  have hz : cargs = args := by
    apply Array.ext
    · exact har.1.symm
    · intro i h1 h2
      exact closedV_eq 3 _ _ (List.all_eq_true.1 hl _ (by simp)) (har.2 i args[i] cargs[i] (by simp [h2]) (by simp [h1]))
  subst hz
  refine (hc w).mono ?_
  rintro e w' ⟨rfl, hb⟩
  have own2 := OwnOk.same (G := G) (σ := σ) (μ := μ) (w := w) (w' := w') (σ' := σ) rfl (Ext.refl μ) rfl hb.size (fun B hB _ => hb.block B hB) fun c z ci hz hc => .inr ⟨c, z, ci, hz, hc, rfl⟩
  exact ⟨v, μ, rfl, ⟨Nat.le_refl _, fun b h1 h2 => absurd h1 (by omega), fun _ _ => rfl, ⟨hs.glob, fun b x bi hx hm => (hs.blk b x bi hx hm).keep (hb.block _ (hs.blk b x bi hx hm).lt) (Ext.refl _), hs.inj, hs.rw_, own2 hs.abs⟩, hb.size, hb.os, hb.tape, hb.output, fun b x bi hb' hx _ => absurd (Mem.lt hx) (by omega), fun _ x _ h => ⟨x, h⟩, hGn, own_id, fun B hB _ _ => hb.block B hB⟩, closedV_rel _ 3 v hv⟩
end
end Go.Proofs.YtmmapljeeccdnaaDoor
