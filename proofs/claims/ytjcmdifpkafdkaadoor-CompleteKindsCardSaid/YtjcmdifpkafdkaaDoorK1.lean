/-
  What is frozen, as a source of append; entries of two memories together. No program in this text. Conditions: none.
  append where an order is open, and append to a slice that was made empty; parts of a grown slice that is frozen. Conditions: none.
  Frozen slices of which the room is known, their parts; lists of frozen slices. Over any program. Conditions: none.
  Maps within a walk: what a lookup answers and what an entry's setting leaves, of the entries alone. Over any program. Conditions: none.
  A contract of a call that leaves all alone, as a call of the second memory. Over any program. Conditions: none.
-/
import Derived.Test.YtjcmdifpkafdkaaDoorS4
import Derived.Test.YtjcmdifpkafdkaaDoorS3
import Derived.Test.YtjcmdifpkafdkaaDoorBase
namespace Go.Proofs.YtjcmdifpkafdkaaDoor
set_option maxRecDepth 100000
theorem slf_src {F : Nat → Option Blk2} {σ : Mem} {s n : Nat} {v : Value} {xs : List Value} (h : SlF F s v n xs) (hs0 : 0 < s) (ho : ∀ b y, F b = some y → σ.get b = some y) : srcF σ s v = some (n, xs) := by
 cases h with
 | nil _ h => subst h; rfl
 | void _ _ h => subst h; rfl
 | @some b p n c sp r xs hr hx hc =>
  unfold srcF
  by_cases h0 : n = 0
  ·subst h0
   rw [Nat.zero_mul] at hx
   simp only [if_pos trivial]
   rw [List.eq_nil_of_length_eq_zero hx]
  ·have h1 : 0 < n * s := Nat.mul_pos (by omega) hs0
   have h2 := congrArg List.length hc
   rw [List.length_take, List.length_drop, hx] at h2
   simp only [if_neg h0, ho _ _ hr]
   rw [if_pos (by omega), hc]
theorem setL_same : ∀ {L : List Ent} {k : Nat} {x : Ent}, lookL L k = some x → setL L k x = L
 | _ :: _, 0, _, h => by cases h; rfl
 | x :: l, k + 1, y, h => congrArg (x :: ·) (setL_same (L := l) (k := k) h)
theorem RW.appF {P : Program} {G nt : Nat} {ops : Array Oper} {l : List Oper} {o : Oper} {ta : Nat → Value} {σ : Mem} {rs : List (Rec × Mem)} {A : Abs} {F : Nat → Option Blk2} {L : List Ent} {K : (Nat → Value) → Mem → Prop} (H : Lies G A F σ L) (k : Nat) {c : Call} {s_ x_ : Operand} {t u e e2 s n l0 : Nat} {v xv : Value} {xs ys : List Value} (hs : SlF F s xv n ys) (hw : wantedT ops ta o = true) (hk : opndOk G o = true) (ho : o.op = .call c) (hc : c.callee = .builtin .append) (ha : c.args = #[s_, x_]) (ht : c.argTypes = #[t, u]) (hsv : oper2 ta s_ = v) (hxv : oper2 ta x_ = xv)
    (hl : lookL L k = some (.sl e s v l0 xs)) (htt : uT P t = some (.slice e)) (huu : uT P u = some (.slice e2)) (hi : infoB P e s 64 = true) (hs0 : 0 < s) (hone : ys.all (·.oneCell') = true) (hb : l0 + n ≤ 1000000) (hd : dstOk nt o.dst = true)
    (h : ∀ σ' v' rs', Lies G A F σ' (setL L k (.sl e s v' (l0 + n) (xs ++ ys))) → RW G P nt ops l (putO ta o.dst v') σ' rs' fun _ => K) : RW G P nt ops (o :: l) ta σ rs fun _ => K := by
  obtain ⟨i, z, h1, h2, h3, h4, h5⟩ := infoB_ok hi
  have hg := H.sl k hl
  have hsrc : srcG (.slice e2) i z σ xv = some (n, ys) := by
    show srcF σ i.size xv = _
    rw [h4]
    exact slf_src hs hs0 H.old
  by_cases hn : n = 0
  · subst hn
    have hy : ys = [] := List.eq_nil_of_length_eq_zero (by rw [hs.length, Nat.zero_mul])
    subst hy
    have k1 : appendF G P σ t u v xv = some (v, .same) := by
      unfold appendF
      rw [htt, huu]
      simp only [h1, h2]
      rw [if_pos ⟨h3, by omega⟩]
      simp only [hsrc, if_pos trivial]
      cases hg with
      | nil => rfl
      | row hq hr ht hc hlc hx => exact if_pos hlc
    rw [← hsv, ← hxv] at k1
    refine RW.append hw hk ho hc ha ht k1 hd (h _ _ _ ?_)
    rw [List.append_nil, Nat.add_zero, hsv, setL_same hl]
    exact H
  · have hmul : (l0 + n) * i.bytes ≤ 1000000 * 64 := Nat.mul_le_mul hb h5
    obtain ⟨v', cmd, k1, k2, k3, k4, k5, k6⟩ := grow_append (P := P) hg H.gn htt huu h1 h2 h3 h4 hs0 hsrc (by omega) hone ⟨by omega, by omega⟩
    rw [← hsv, ← hxv] at k1
    refine RW.append hw hk ho hc ha ht k1 hd (h _ _ _ (H.grown k hl k2 k3 k4 k5 fun b hb => ?_))
    rcases k6 with k6 | k6
    · exact .inl (k6 ▸ hb)
    · rw [k6] at hb
      cases hb
      exact .inr (Nat.le_refl _)
theorem allOk_app {G : Nat} {σ : Mem} : ∀ {a b : List Ent}, AllOk G σ a → AllOk G σ b → AllOk G σ (a ++ b)
 | [], _, _, h => h
 | _ :: _, _, h, k => ⟨h.1, allOk_app h.2 k⟩
theorem apart_app {F F' : Nat → Option Blk2} : ∀ {a b : List Ent}, Apart F' a → Apart F b → Le F F' → (∀ y ∈ b, ∀ c, y.blk = some c → F' c ≠ none) → Apart F (a ++ b)
 | [], _, _, h, _, _ => h
 | x :: l, b, h, k, le, hb => by
  refine ⟨fun c hc => ⟨?_, fun y hy hyc => ?_⟩, apart_app h.2 k le hb⟩
  ·have := (h.1 c hc).1
   cases e : F c with
   | none => rfl
   | some z => rw [le _ _ e] at this; cases this
  ·rcases List.mem_append.1 hy with h1 | h1
   ·exact (h.1 c hc).2 y h1 hyc
   ·exact hb y h1 c hyc (h.1 c hc).1
theorem Lies.then {G : Nat} {A A' : Abs} {F : Nat → Option Blk2} {σ σ' : Mem} {L L' : List Ent} (H : Lies G A F σ L) (K : Lies G A' σ.get σ' L') : Lies G A' F σ' (L' ++ L) := by
 refine ⟨K.gn, fun b y h => K.old b y (H.old b y h), K.abs, allOk_app K.ok (H.ok.keep fun _ _ b y _ h => K.old b y h), apart_app K.apart H.apart H.old fun y hy c hc => ?_⟩
 obtain ⟨_, z, hz⟩ := (H.ok.mem y hy).is hc
 rw [hz]
 exact fun h => by cases h
theorem getD_mem {l : List Int} {j : Nat} (h : j < l.length) : l.getD j 0 ∈ l := by
 rw [List.getD_eq_getElem?_getD, List.getElem?_eq_getElem h]
 exact List.getElem_mem h
theorem Lies.back {G : Nat} {A : Abs} {F F' : Nat → Option Blk2} {σ : Mem} {L : List Ent} (H : Lies G A F' σ L) (k : Le F F') : Lies G A F σ L :=
 ⟨H.gn, fun b y h => H.old b y (k b y h), H.abs, H.ok, H.apart.frozen fun z hz b hb => by
  have := H.apart.mem z hz b hb
  cases e : F b with
  | none => rfl
  | some y => rw [k b y e] at this; cases this⟩
end Go.Proofs.YtjcmdifpkafdkaaDoor
namespace Go.Proofs.YtjcmdifpkafdkaaDoor
set_option maxRecDepth 100000
section
variable {P : Program} {G nt : Nat} {ops : Array Oper} {l : List Oper} {o : Oper} {ta : Nat → Value} {σ : Mem} {rs : List (Rec × Mem)} {A : Abs} {F : Nat → Option Blk2} {L : List Ent} {K : List (Rec × Mem) → (Nat → Value) → Mem → Prop}
theorem appendF_empty {t u e b n : Nat} {d : TypeDesc} {i : TypeInfo} {z x : Value} {tE : TypeId} {g : Bool} {xs : List Value} (hr : σ.get b = some (.row ⟨[], tE, g⟩)) (htt : uT P t = some (.slice e)) (huu : uT P u = some d) (h1 : iT P e = some i) (h2 : i.zero = some z) (hsrc : srcG d i z σ x = some (n, xs)) (hn : n ≠ 0) :
    appendF G P σ t u (.slice (some ⟨b, 0, none⟩) 0 0) x = appendF G P σ t u (.slice none 0 0) x := by
  unfold appendF
  rw [htt, huu]
  simp only [h1, h2, hsrc, if_neg hn, hr]
  rw [if_neg (show ¬ 0 + n ≤ 0 by omega)]
  simp
theorem RW.appLB (H : Lies G A F σ L) (k j : Nat) {c : Call} {s_ x_ : Operand} {t u e e2 s n l0 b : Nat} {v vb : Value} {xs : List Value} {r : Row} (hw : wantedT ops ta o = true) (hk : opndOk G o = true) (ho : o.op = .call c) (hc : c.callee = .builtin .append) (ha : c.args = #[s_, x_]) (ht : c.argTypes = #[t, u]) (hsv : oper2 ta s_ = vb) (hxv : oper2 ta x_ = .slice (some ⟨b, 0, none⟩) n n)
    (hl : lookL L k = some (.sl e s v l0 xs)) (hvb : vb = v ∨ v = .slice none 0 0 ∧ ∃ b' tE g, vb = .slice (some ⟨b', 0, none⟩) 0 0 ∧ σ.get b' = some (.row ⟨[], tE, g⟩)) (hr : lookL L j = some (.at_ b (.row r))) (htt : uT P t = some (.slice e)) (huu : uT P u = some (.slice e2)) (hi : infoB P e s 512 = true) (hs0 : 0 < s) (hn : 0 < n) (hrl : r.cs.length = n * s) (hone : r.cs.all (·.oneCell') = true) (hb : l0 + n ≤ 1000000) (hd : dstOk nt o.dst = true)
    (h : ∀ σ' v', Lies G A F σ' (delL (setL L k (.sl e s v' (l0 + n) (xs ++ r.cs))) j) → RW G P nt ops l (putO ta o.dst v') σ' ((.eff v', σ) :: rs) K) : RW G P nt ops (o :: l) ta σ rs K := by
  obtain ⟨i, z, h1, h2, h3, h4, h5⟩ := infoB_ok hi
  have hg := H.sl k hl
  have hrow := H.get j hr
  have hsrc : srcG (.slice e2) i z σ (.slice (some ⟨b, 0, none⟩) n n) = some (n, r.cs) := by
    rw [show srcG (.slice e2) i z σ (.slice (some ⟨b, 0, none⟩) n n) = srcF σ i.size (.slice (some ⟨b, 0, none⟩) n n) from rfl]
    unfold srcF
    rw [h4]
    simp only [if_neg (show ¬ n = 0 by omega), hrow]
    rw [if_pos (by omega), List.drop_zero, ← hrl, List.take_length]
  have hmul : (l0 + n) * i.bytes ≤ 1000000 * 512 := Nat.mul_le_mul hb h5
  obtain ⟨v', cmd, k1, k2, k3, k4, k5, k6⟩ := grow_append (P := P) hg H.gn htt huu h1 h2 h3 h4 hs0 hsrc hn hone ⟨by omega, by omega⟩
  have k1 : appendF G P σ t u vb (.slice (some ⟨b, 0, none⟩) n n) = some (v', cmd) := by
    rcases hvb with rfl | ⟨rfl, b', tE, g, rfl, hb'⟩
    · exact k1
    · rw [appendF_empty hb' htt huu h1 h2 hsrc (by omega)]; exact k1
  rw [← hsv, ← hxv] at k1
  refine RW.append hw hk ho hc ha ht k1 hd (h _ _ (Lies.del (H.grown k hl k2 k3 k4 k5 fun b hb => ?_) j))
  rcases k6 with k6 | k6
  · exact .inl (k6 ▸ hb)
  · rw [k6] at hb
    cases hb
    exact .inr (Nat.le_refl _)
end
end Go.Proofs.YtjcmdifpkafdkaaDoor
namespace Go.Proofs.YtjcmdifpkafdkaaDoor
set_option maxRecDepth 100000
inductive SlK (F : Nat → Option Blk2) (s : Nat) : Value → Nat → List Value → Prop
 | nil : SlK F s (.slice none 0 0) 0 []
 | some {b p n c : Nat} {sp : Option Nat} {r : Row} {xs : List Value} (hr : F b = .some (.row r)) (hx : xs.length = n * s) (hc : (r.cs.drop p).take (n * s) = xs) (hle : n ≤ c) (hsp : sp = none ∨ sp = .some s) : SlK F s (.slice (.some ⟨b, p, sp⟩) n c) n xs
section
variable {F F' : Nat → Option Blk2} {s n : Nat} {v : Value} {xs : List Value}
theorem SlK.slf (h : SlK F s v n xs) : SlF F s v n xs := by
 cases h with
 | nil => exact .nil _ rfl
 | some hr hx hc _ _ => exact .some hr hx hc
theorem SlK.le (h : SlK F s v n xs) (k : Le F F') : SlK F' s v n xs := by
 cases h with
 | nil => exact .nil
 | some hr hx hc h1 h2 => exact .some (k _ _ hr) hx hc h1 h2
theorem SlK.length (h : SlK F s v n xs) : xs.length = n * s := h.slf.length
variable {P : Program} {t e : TypeId} {i : Nat}
theorem slk_cut (h : SlK F s v n xs) (ht : uT P t = some (.slice e)) (hz : sizeT P e = some s) (hi : i ≤ n) :
    ∃ v', sliceF P t v none (some (.int .i64 ((i : Nat) : Int))) none = some v' ∧ SlK F s v' i (xs.take (i * s)) := by
  cases h with
  | nil =>
    obtain rfl : i = 0 := by omega
    refine ⟨.slice none 0 0, by simp only [sliceF, ht, hz, boundF]; rfl, ?_⟩
    rw [List.take_nil]
    exact .nil
  | @some b p _ c sp r _ hr hx hc hle hsp =>
    have hb : boundF (some (.int .i64 ((i : Nat) : Int))) n c = some i := by
      simp only [boundF]
      rw [if_pos (by omega), Int.toNat_natCast]
    have hm : i * s ≤ n * s := Nat.mul_le_mul_right _ hi
    have key : SlK F s (.slice (some ⟨b, p, sp⟩) i c) i (xs.take (i * s)) := .some hr (by rw [List.length_take]; omega) (by rw [← hc, List.take_take, Nat.min_eq_left hm]) (by omega) hsp
    refine ⟨_, ?_, key⟩
    simp only [sliceF, ht, hz]
    rw [hb]
    simp only []
    rw [show boundF none 0 i = some 0 from rfl]
    rcases hsp with rfl | rfl
    · simp
    · simp only []
      rw [if_pos ⟨trivial, by omega⟩]
      simp
theorem slk_rest (h : SlK F s v n xs) (ht : uT P t = some (.slice e)) (hz : sizeT P e = some s) (hi : i ≤ n) :
    ∃ v', sliceF P t v (some (.int .i64 ((i : Nat) : Int))) none none = some v' ∧ SlK F s v' (n - i) (xs.drop (i * s)) := by
  cases h with
  | nil =>
    obtain rfl : i = 0 := by omega
    refine ⟨.slice none 0 0, by simp only [sliceF, ht, hz, boundF]; rfl, ?_⟩
    rw [List.drop_nil]
    exact .nil
  | @some b p _ c sp r _ hr hx hc hle hsp =>
    have hb : boundF (some (.int .i64 ((i : Nat) : Int))) 0 n = some i := by
      simp only [boundF]
      rw [if_pos (by omega), Int.toNat_natCast]
    have hm : i * s ≤ n * s := Nat.mul_le_mul_right _ hi
    have hm2 : (n - i) * s = n * s - i * s := Nat.sub_mul ..
    have key : ∀ q, (q = p ∧ c = i ∨ q = p + i * s) → SlK F s (.slice (some ⟨b, q, sp⟩) (n - i) (c - i)) (n - i) (xs.drop (i * s)) := by
      rintro q (⟨rfl, hci⟩ | rfl)
      · obtain rfl : n = i := by omega
        rw [Nat.sub_self]
        exact .some hr (by rw [List.length_drop, hx]; omega) (by rw [Nat.zero_mul, List.take_zero, List.drop_of_length_le (by omega)]) (by omega) hsp
      · exact .some hr (by rw [List.length_drop, hx]; omega) (by rw [← hc, List.drop_take, hm2, List.drop_drop]) (by omega) hsp
    by_cases hci : c = i
    · refine ⟨_, ?_, key p (.inl ⟨rfl, hci⟩)⟩
      simp only [sliceF, ht, hz]
      rw [show boundF none n c = some n from rfl]
      simp only []
      rw [hb]
      rcases hsp with rfl | rfl
      · simp [hci]
      · simp only []
        rw [if_pos ⟨trivial, hle⟩]
        simp [hci]
    · refine ⟨_, ?_, key (p + i * s) (.inr rfl)⟩
      simp only [sliceF, ht, hz]
      rw [show boundF none n c = some n from rfl]
      simp only []
      rw [hb]
      rcases hsp with rfl | rfl
      · simp [hci]
      · simp only []
        rw [if_pos ⟨trivial, hle⟩]
        simp [hci]
end
section
variable {G : Nat} {A : Abs} {F F' : Nat → Option Blk2} {σ : Mem} {L : List Ent}
theorem Lies.freezeK (H : Lies G A F σ L) (k : Nat) {e s n : Nat} {v : Value} {xs : List Value} (h : lookL L k = some (.sl e s v n xs)) : ∃ F', Le F F' ∧ SlK F' s v n xs ∧ Lies G A F' σ (delL L k) := by
 have hg : GRow G σ e s v n xs := H.ok.mem _ (lookL_mem h)
 obtain ⟨F', k1, k2, k3⟩ := H.freezeSl k h
 refine ⟨F', k1, ?_, k3⟩
 cases hg with
 | nil => exact .nil
 | row _ _ _ _ hl _ =>
  cases k2 with
  | some hr hx hc => exact .some hr hx hc hl (.inr rfl)
def AllR (F : Nat → Option Blk2) : List Value → List (List Int) → Prop
 | [], [] => True
 | v :: vs, l :: M => SlK F 1 v l.length (l.map (Value.int .i64)) ∧ AllR F vs M
 | _, _ => False
theorem AllR.le (k : Le F F') : ∀ {vs : List Value} {M : List (List Int)}, AllR F vs M → AllR F' vs M
 | [], [], _ => trivial
 | _ :: _, _ :: _, h => ⟨h.1.le k, AllR.le k h.2⟩
theorem AllR.len : ∀ {vs : List Value} {M : List (List Int)}, AllR F vs M → vs.length = M.length
 | [], [], _ => rfl
 | _ :: _, _ :: _, h => congrArg (· + 1) (AllR.len h.2)
theorem AllR.app : ∀ {vs ws : List Value} {M N : List (List Int)}, AllR F vs M → AllR F ws N → AllR F (vs ++ ws) (M ++ N)
 | [], _, [], _, _, k => k
 | _ :: _, _, _ :: _, _, h, k => ⟨h.1, AllR.app h.2 k⟩
theorem AllR.take : ∀ {vs : List Value} {M : List (List Int)} (i : Nat), AllR F vs M → AllR F (vs.take i) (M.take i)
 | [], [], i, _ => by rw [List.take_nil, List.take_nil]; trivial
 | _ :: _, _ :: _, 0, _ => trivial
 | _ :: _, _ :: _, i + 1, h => ⟨h.1, AllR.take i h.2⟩
theorem AllR.drop : ∀ {vs : List Value} {M : List (List Int)} (i : Nat), AllR F vs M → AllR F (vs.drop i) (M.drop i)
 | [], [], i, _ => by rw [List.drop_nil, List.drop_nil]; trivial
 | _ :: _, _ :: _, 0, h => h
 | _ :: _, _ :: _, i + 1, h => AllR.drop i h.2
theorem AllR.get : ∀ {vs : List Value} {M : List (List Int)} {i : Nat}, AllR F vs M → i < M.length → SlK F 1 (vs.getD i undef) (M.getD i []).length ((M.getD i []).map (Value.int .i64))
 | [], [], i, _, hi => absurd hi (Nat.not_lt_zero _)
 | _ :: _, _ :: _, 0, h, _ => h.1
 | _ :: _, _ :: _, i + 1, h, hi => AllR.get (i := i) h.2 (by simpa using hi)
theorem AllR.ones : ∀ {vs : List Value} {M : List (List Int)}, AllR F vs M → vs.all (·.oneCell') = true
 | [], [], _ => rfl
 | v :: vs, _ :: _, h => by
  have := slf_all h.1.slf
  rw [List.all_cons, List.all_nil, Bool.and_true] at this
  rw [List.all_cons, AllR.ones h.2, Bool.and_true, this]
def MacF (F : Nat → Option Blk2) (v : Value) (M : List (List Int)) : Prop := ∃ vs : List Value, SlK F 1 v M.length vs ∧ AllR F vs M
theorem MacF.le {v : Value} {M : List (List Int)} (h : MacF F v M) (k : Le F F') : MacF F' v M := by
 obtain ⟨vs, h1, h2⟩ := h
 exact ⟨vs, h1.le k, h2.le k⟩
end
end Go.Proofs.YtjcmdifpkafdkaaDoor
namespace Go.Proofs.YtjcmdifpkafdkaaDoor

noncomputable def lookE (P : Program) (es : List (Value × Value)) (t : TypeId) (k : Value) (ok : Bool) : Option Value :=
 match uT P t with
 | some (.map kt et) => (match uT P kt, zeroT P et with
  | some d, some z => if keyOk P kt d k = true ∧ closedV 2 k = true ∧ closedV 2 z = true then (match findX P kt d k es 0 with
   | some (some (_, x)) => some (if ok then .tuple #[x, .bool true] else x)
   | some none => some (if ok then .tuple #[z, .bool false] else z)
   | none => none) else none
  | _, _ => none)
 | _ => none
noncomputable def updE (P : Program) (es : List (Value × Value)) (cl : Nat) (t : TypeId) (k x : Value) : Option (List (Value × Value) × Nat) :=
 match uT P t with
 | some (.map kt _) => (match uT P kt with
  | some d => if keyOk P kt d k = true ∧ closedV 2 k = true ∧ cl = es.length then (match findX P kt d k es 0 with
   | some none => some (es ++ [(k, x)], cl + 1)
   | _ => none) else none
  | none => none)
 | _ => none
section
variable {P : Program} {G : Nat} {A : Abs} {F : Nat → Option Blk2} {σ : Mem} {L : List Ent} {nt : Nat} {ops : Array Oper} {l : List Oper} {ta : Nat → Value} {rs : List (Rec × Mem)} {o : Oper} {b cl : Nat} {es : List (Value × Value)}
theorem lookE_F {t : TypeId} {k v : Value} {ok : Bool} (h : σ.get b = some (.ents es cl)) (e : lookE P es t k ok = some v) : lookupF P σ t (.map (some b)) k ok = some v := by
 unfold lookE at e
 unfold lookupF
 split at e
 ·rename_i kt et hu
  split at e
  ·rename_i d z hd hz
   simp only [hu, h, hd, hz]
   exact e
  ·cases e
 ·cases e
theorem updE_F {t : TypeId} {k x : Value} {es' : List (Value × Value)} {cl' : Nat} (h : σ.get b = some (.ents es cl)) (hG : G ≤ b) (e : updE P es cl t k x = some (es', cl')) : updateF G P σ t (.map (some b)) k x = some (.put b (.ents es' cl')) := by
 unfold updE at e
 unfold updateF
 split at e
 ·rename_i kt et hu
  split at e
  ·rename_i d hd
   simp only [hu, h, hd]
   split at e
   ·rename_i hc
    rw [if_pos ⟨hG, hc⟩]
    split at e
    ·rename_i hf
     rw [hf]
     cases e
     rfl
    ·cases e
   ·cases e
  ·cases e
 ·cases e
theorem RW.lkL {K : List (Rec × Mem) → (Nat → Value) → Mem → Prop} (H : Lies G A F σ L) (i : Nat) {t : TypeId} {m k : Operand} {ok : Bool} (v : Value)
    (h : RW G P nt ops l (putO ta o.dst v) σ ((.eff v, σ) :: rs) K) (ho : o.op = .lookup t m k ok := by exact rfl) (hm : oper2 ta m = .map (some b) := by exact rfl) (hr : lookL L i = some (.at_ b (.ents es cl)) := by exact rfl) (hv : lookE P es t (oper2 ta k) ok = some v := by kernel_rfl) (hw : wantedT ops ta o = true := by kernel_rfl) (hk : opndOk G o = true := by kernel_rfl) (hd : dstOk nt o.dst = true := by kernel_rfl) : RW G P nt ops (o :: l) ta σ rs K :=
  RW.eff hw hk (eop_lookup ho (by rw [hm]; exact lookE_F (H.get i hr) hv)) hd h
theorem RW.upL {K : (Nat → Value) → Mem → Prop} (H : Lies G A F σ L) (i : Nat) (es' : List (Value × Value)) (cl' : Nat) {t : TypeId} {m k x : Operand}
    (h : ∀ σ' rs', Lies G A F σ' (setL L i (.at_ b (.ents es' cl'))) → RW G P nt ops l (putO ta o.dst undef) σ' rs' fun _ => K) (ho : o.op = .mapUpdate t m k x ∨ o.op = .insert t m k x := by first | exact .inl rfl | exact .inr rfl) (hm : oper2 ta m = .map (some b) := by exact rfl) (hr : lookL L i = some (.at_ b (.ents es cl)) := by exact rfl) (hv : updE P es cl t (oper2 ta k) (oper2 ta x) = some (es', cl') := by kernel_rfl) (hw : wantedT ops ta o = true := by kernel_rfl) (hk : opndOk G o = true := by kernel_rfl) (hd : dstOk nt o.dst = true := by kernel_rfl) : RW G P nt ops (o :: l) ta σ rs fun _ => K :=
  RW.eff hw hk (eop_update (cmd := .put b (.ents es' cl')) ho (by rw [hm]; exact updE_F (H.get i hr) (H.low i hr) hv)) hd (h _ _ (H.put i _ hr))
theorem RW.mkM {K : (Nat → Value) → Mem → Prop} (H : Lies G A F σ L)
    (h : ∀ σ' b rs', Lies G A F σ' (.at_ b (.ents [] 0) :: L) → RW G P nt ops l (putO ta o.dst (.map (some b))) σ' rs' fun _ => K) (hs : stepOp G P σ o (oper2 ta) = some (.make (.ents [] 0) fun b => .map (some b)) := by kernel_rfl) (hw : wantedT ops ta o = true := by kernel_rfl) (hk : opndOk G o = true := by kernel_rfl) (hd : dstOk nt o.dst = true := by kernel_rfl) : RW G P nt ops (o :: l) ta σ rs fun _ => K :=
  RW.mkL H hw hk hs hd h
end
end Go.Proofs.YtjcmdifpkafdkaaDoor
namespace Go.Proofs.YtjcmdifpkafdkaaDoor
open Go.RowKit
set_option maxRecDepth 100000
section
variable {P : Program} {G : Nat}
theorem below_call {f : FuncId} {args : Array Value} {v : Value} {σ : Mem} (hl : args.toList.all (closedV 3) = true) (hv : closedV 3 v = true)
    (hc : ∀ w, Calls P f args w fun e w' => e = .returned v ∧ Below w.heap.size w w') : SCall G P f args σ v σ := by
  refine ⟨Nat.le_refl _, fun μ w cargs hs hGn _ har => ?_⟩
  have hz : cargs = args := by
    apply Array.ext
    · exact har.1.symm
    · intro i h1 h2
      exact closedV_eq 3 _ _ (List.all_eq_true.1 hl _ (by simp)) (har.2 i args[i] cargs[i] (by simp [h2]) (by simp [h1]))
  subst hz
  refine (hc w).mono ?_
  rintro e w' ⟨rfl, hb⟩
  have own2 := OwnOk.same (G := G) (σ := σ) (μ := μ) (w := w) (w' := w') (σ' := σ) rfl (Ext.refl μ) rfl hb.size (fun B hB _ => hb.block B hB) fun c z ci hz hc => .inr ⟨c, z, ci, hz, hc, rfl⟩
  exact ⟨v, μ, rfl, ⟨Nat.le_refl _, fun b h1 h2 => absurd h1 (by omega), fun _ _ => rfl, ⟨hs.glob, fun b x bi hx hm => (hs.blk b x bi hx hm).keep (hb.block _ (hs.blk b x bi hx hm).lt) (Ext.refl _), hs.inj, hs.rw_, own2 hs.abs⟩, hb.size, hb.os, hb.tape, hb.output, fun b x bi hb' hx _ => absurd (Mem.lt hx) (by omega), fun _ x _ h => ⟨x, h⟩, hGn, own_id, fun B hB _ _ => hb.block B hB⟩, closedV_rel _ 3 v hv⟩
end
end Go.Proofs.YtjcmdifpkafdkaaDoor
