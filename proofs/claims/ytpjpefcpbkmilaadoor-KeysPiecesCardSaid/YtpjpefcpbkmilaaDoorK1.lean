/-
  A contract of a call that leaves all alone, as a call of the second memory. Over any program. Conditions: none.
  What is frozen, as a source of append; entries of two memories together. No program in this text. Conditions: none.
  append where an order is open, and append to a slice that was made empty; parts of a grown slice that is frozen. Conditions: none.
  Frozen slices of which the room is known, their parts; lists of frozen slices. Over any program. Conditions: none.
  A contract of a call that reads a slice and leaves all alone, as a call of the second memory. Over any program. Conditions: none.
  Strings in the second memory: joined, their length, their bytes in a row of their own. Over any program. Conditions: none.
-/
import Derived.Test.YtpjpefcpbkmilaaDoorS3
import Derived.Test.YtpjpefcpbkmilaaDoorBase
import Derived.Test.YtpjpefcpbkmilaaDoorS4
namespace Go.Proofs.YtpjpefcpbkmilaaDoor
open Go.RowKit
set_option maxRecDepth 100000
section
variable {P : Program} {G : Nat}
theorem below_call {f : FuncId} {args : Array Value} {v : Value} {σ : Mem} (hl : args.toList.all (closedV 3) = true) (hv : closedV 3 v = true)
    (hc : ∀ w, Calls P f args w fun e w' => e = .returned v ∧ Below w.heap.size w w') : SCall G P f args σ v σ := by
  refine ⟨Nat.le_refl _, fun μ w cargs hs hGn _ har => ?_⟩
  have hz : cargs = args := by
    apply Array.ext
    · exact har.1.symm
    · intro i h1 h2
      exact closedV_eq 3 _ _ (List.all_eq_true.1 hl _ (by simp)) (har.2 i args[i] cargs[i] (by simp [h2]) (by simp [h1]))
  subst hz
  refine (hc w).mono ?_
  rintro e w' ⟨rfl, hb⟩
  have own2 := OwnOk.same (G := G) (σ := σ) (μ := μ) (w := w) (w' := w') (σ' := σ) rfl (Ext.refl μ) rfl hb.size (fun B hB _ => hb.block B hB) fun c z ci hz hc => .inr ⟨c, z, ci, hz, hc, rfl⟩
  exact ⟨v, μ, rfl, ⟨Nat.le_refl _, fun b h1 h2 => absurd h1 (by omega), fun _ _ => rfl, ⟨hs.glob, fun b x bi hx hm => (hs.blk b x bi hx hm).keep (hb.block _ (hs.blk b x bi hx hm).lt) (Ext.refl _), hs.inj, hs.rw_, own2 hs.abs⟩, hb.size, hb.os, hb.tape, hb.output, fun b x bi hb' hx _ => absurd (Mem.lt hx) (by omega), fun _ x _ h => ⟨x, h⟩, hGn, own_id, fun B hB _ _ => hb.block B hB⟩, closedV_rel _ 3 v hv⟩
end
end Go.Proofs.YtpjpefcpbkmilaaDoor
namespace Go.Proofs.YtpjpefcpbkmilaaDoor
set_option maxRecDepth 100000
theorem slf_src {F : Nat → Option Blk2} {σ : Mem} {s n : Nat} {v : Value} {xs : List Value} (h : SlF F s v n xs) (hs0 : 0 < s) (ho : ∀ b y, F b = some y → σ.get b = some y) : srcF σ s v = some (n, xs) := by
  cases h with
  | nil _ h => subst h; rfl
  | void _ _ h => subst h; rfl
  | @some b p n c sp r xs hr hx hc =>
    unfold srcF
    by_cases h0 : n = 0
    · subst h0
      rw [Nat.zero_mul] at hx
      simp only [if_pos trivial]
      rw [List.eq_nil_of_length_eq_zero hx]
    · have h1 : 0 < n * s := Nat.mul_pos (by omega) hs0
      have h2 := congrArg List.length hc
      rw [List.length_take, List.length_drop, hx] at h2
      simp only [if_neg h0, ho _ _ hr]
      rw [if_pos (by omega), hc]
theorem setL_same : ∀ {L : List Ent} {k : Nat} {x : Ent}, lookL L k = some x → setL L k x = L
  | _ :: _, 0, _, h => by cases h; rfl
  | x :: l, k + 1, y, h => congrArg (x :: ·) (setL_same (L := l) (k := k) h)
theorem allOk_app {G : Nat} {σ : Mem} : ∀ {a b : List Ent}, AllOk G σ a → AllOk G σ b → AllOk G σ (a ++ b)
  | [], _, _, h => h
  | _ :: _, _, h, k => ⟨h.1, allOk_app h.2 k⟩
theorem apart_app {F F' : Nat → Option Blk2} : ∀ {a b : List Ent}, Apart F' a → Apart F b → Le F F' → (∀ y ∈ b, ∀ c, y.blk = some c → F' c ≠ none) → Apart F (a ++ b)
  | [], _, _, h, _, _ => h
  | x :: l, b, h, k, le, hb => by
    refine ⟨fun c hc => ⟨?_, fun y hy hyc => ?_⟩, apart_app h.2 k le hb⟩
    · have := (h.1 c hc).1
      cases e : F c with
      | none => rfl
      | some z => rw [le _ _ e] at this; cases this
    · rcases List.mem_append.1 hy with h1 | h1
      · exact (h.1 c hc).2 y h1 hyc
      · exact hb y h1 c hyc (h.1 c hc).1
theorem Lies.then {G : Nat} {A A' : Abs} {F : Nat → Option Blk2} {σ σ' : Mem} {L L' : List Ent} (H : Lies G A F σ L) (K : Lies G A' σ.get σ' L') : Lies G A' F σ' (L' ++ L) := by
  refine ⟨K.gn, fun b y h => K.old b y (H.old b y h), K.abs, allOk_app K.ok (H.ok.keep fun _ _ b y _ h => K.old b y h), apart_app K.apart H.apart H.old fun y hy c hc => ?_⟩
  obtain ⟨_, z, hz⟩ := (H.ok.mem y hy).is hc
  rw [hz]
  exact fun h => by cases h
theorem ints_at {l : List Int} {j : Nat} (hj : j < l.length) : ((l.map (Value.int .i64)).drop (((j : Nat) : Int).toNat * 1)).take 1 = [.int .i64 (l.getD j 0)] := by
  rw [Int.toNat_natCast, Nat.mul_one, List.getD_eq_getElem?_getD, List.getElem?_eq_getElem hj, List.drop_eq_getElem_cons (by simpa using hj)]
  simp
theorem Lies.back {G : Nat} {A : Abs} {F F' : Nat → Option Blk2} {σ : Mem} {L : List Ent} (H : Lies G A F' σ L) (k : Le F F') : Lies G A F σ L :=
  ⟨H.gn, fun b y h => H.old b y (k b y h), H.abs, H.ok, H.apart.frozen fun z hz b hb => by
    have := H.apart.mem z hz b hb
    cases e : F b with
    | none => rfl
    | some y => rw [k b y e] at this; cases this⟩
end Go.Proofs.YtpjpefcpbkmilaaDoor
namespace Go.Proofs.YtpjpefcpbkmilaaDoor
set_option maxRecDepth 100000
section
variable {P : Program} {G nt : Nat} {ops : Array Oper} {l : List Oper} {o : Oper} {ta : Nat → Value} {σ : Mem} {rs : List (Rec × Mem)} {A : Abs} {F : Nat → Option Blk2} {L : List Ent} {K : List (Rec × Mem) → (Nat → Value) → Mem → Prop}
theorem appendF_empty {t u e b n : Nat} {d : TypeDesc} {i : TypeInfo} {z x : Value} {tE : TypeId} {g : Bool} {xs : List Value} (hr : σ.get b = some (.row ⟨[], tE, g⟩)) (htt : uT P t = some (.slice e)) (huu : uT P u = some d) (h1 : iT P e = some i) (h2 : i.zero = some z) (hsrc : srcG d i z σ x = some (n, xs)) (hn : n ≠ 0) :
    appendF G P σ t u (.slice (some ⟨b, 0, none⟩) 0 0) x = appendF G P σ t u (.slice none 0 0) x := by
  unfold appendF
  rw [htt, huu]
  simp only [h1, h2, hsrc, if_neg hn, hr]
  rw [if_neg (show ¬ 0 + n ≤ 0 by omega)]
  simp
theorem RW.appFD (H : Lies G A F σ L) (k : Nat) {c : Call} {s_ x_ : Operand} {t u e e2 s n l0 : Nat} {v vb xv : Value} {xs ys : List Value} (hs : SlF F s xv n ys) (hw : wantedT ops ta o = true) (hk : opndOk G o = true) (ho : o.op = .call c) (hc : c.callee = .builtin .append) (ha : c.args = #[s_, x_]) (ht : c.argTypes = #[t, u]) (hsv : oper2 ta s_ = vb) (hxv : oper2 ta x_ = xv)
    (hl : lookL L k = some (.sl e s v l0 xs)) (hvb : vb = v ∨ 0 < n ∧ v = .slice none 0 0 ∧ ∃ b' tE g, vb = .slice (some ⟨b', 0, none⟩) 0 0 ∧ σ.get b' = some (.row ⟨[], tE, g⟩)) (htt : uT P t = some (.slice e)) (huu : uT P u = some (.slice e2)) (hi : infoB P e s 64 = true) (hs0 : 0 < s) (hone : ys.all (·.oneCell') = true) (hb : l0 + n ≤ 1000000) (hd : dstOk nt o.dst = true)
    (h : ∀ σ' v', Lies G A F σ' (setL L k (.sl e s v' (l0 + n) (xs ++ ys))) → RW G P nt ops l (putO ta o.dst v') σ' ((.eff v', σ) :: rs) K) : RW G P nt ops (o :: l) ta σ rs K := by
  obtain ⟨i, z, h1, h2, h3, h4, h5⟩ := infoB_ok hi
  have hg := H.sl k hl
  have hsrc : srcG (.slice e2) i z σ xv = some (n, ys) := by
    show srcF σ i.size xv = _
    rw [h4]
    exact slf_src hs hs0 H.old
  by_cases hn : n = 0
  · subst hn
    have hvb : vb = v := by
      rcases hvb with e | ⟨h0, _⟩
      · exact e
      · omega
    subst hvb
    have hy : ys = [] := List.eq_nil_of_length_eq_zero (by rw [hs.length, Nat.zero_mul])
    subst hy
    have k1 : appendF G P σ t u vb xv = some (vb, .same) := by
      unfold appendF
      rw [htt, huu]
      simp only [h1, h2]
      rw [if_pos ⟨h3, by omega⟩]
      simp only [hsrc, if_pos trivial]
      cases hg with
      | nil => rfl
      | row hq hr ht hc hlc hx => exact if_pos hlc
    rw [← hsv, ← hxv] at k1
    refine RW.append hw hk ho hc ha ht k1 hd (h _ _ ?_)
    rw [List.append_nil, Nat.add_zero, hsv, setL_same hl]
    exact H
  · have hmul : (l0 + n) * i.bytes ≤ 1000000 * 64 := Nat.mul_le_mul hb h5
    obtain ⟨v', cmd, k1, k2, k3, k4, k5, k6⟩ := grow_append (P := P) hg H.gn htt huu h1 h2 h3 h4 hs0 hsrc (by omega) hone ⟨by omega, by omega⟩
    have k1 : appendF G P σ t u vb xv = some (v', cmd) := by
      rcases hvb with rfl | ⟨_, rfl, b', tE, g, rfl, hb'⟩
      · exact k1
      · rw [appendF_empty hb' htt huu h1 h2 hsrc hn]; exact k1
    rw [← hsv, ← hxv] at k1
    refine RW.append hw hk ho hc ha ht k1 hd (h _ _ (H.grown k hl k2 k3 k4 k5 fun b hb => ?_))
    rcases k6 with k6 | k6
    · exact .inl (k6 ▸ hb)
    · rw [k6] at hb
      cases hb
      exact .inr (Nat.le_refl _)
end
end Go.Proofs.YtpjpefcpbkmilaaDoor
namespace Go.Proofs.YtpjpefcpbkmilaaDoor
set_option maxRecDepth 100000
inductive SlK (F : Nat → Option Blk2) (s : Nat) : Value → Nat → List Value → Prop
  | nil : SlK F s (.slice none 0 0) 0 []
  | some {b p n c : Nat} {sp : Option Nat} {r : Row} {xs : List Value} (hr : F b = .some (.row r)) (hx : xs.length = n * s) (hc : (r.cs.drop p).take (n * s) = xs) (hle : n ≤ c) (hsp : sp = none ∨ sp = .some s) : SlK F s (.slice (.some ⟨b, p, sp⟩) n c) n xs
section
variable {F F' : Nat → Option Blk2} {s n : Nat} {v : Value} {xs : List Value}
theorem SlK.slf (h : SlK F s v n xs) : SlF F s v n xs := by
  cases h with
  | nil => exact .nil _ rfl
  | some hr hx hc _ _ => exact .some hr hx hc
theorem SlK.le (h : SlK F s v n xs) (k : Le F F') : SlK F' s v n xs := by
  cases h with
  | nil => exact .nil
  | some hr hx hc h1 h2 => exact .some (k _ _ hr) hx hc h1 h2
theorem SlK.length (h : SlK F s v n xs) : xs.length = n * s := h.slf.length
variable {P : Program} {t e : TypeId} {i : Nat}
theorem slk_rest (h : SlK F s v n xs) (ht : uT P t = some (.slice e)) (hz : sizeT P e = some s) (hi : i ≤ n) :
    ∃ v', sliceF P t v (some (.int .i64 ((i : Nat) : Int))) none none = some v' ∧ SlK F s v' (n - i) (xs.drop (i * s)) := by
  cases h with
  | nil =>
    obtain rfl : i = 0 := by omega
    refine ⟨.slice none 0 0, by simp only [sliceF, ht, hz, boundF]; rfl, ?_⟩
    rw [List.drop_nil]
    exact .nil
  | @some b p _ c sp r _ hr hx hc hle hsp =>
    have hb : boundF (some (.int .i64 ((i : Nat) : Int))) 0 n = some i := by
      simp only [boundF]
      rw [if_pos (by omega), Int.toNat_natCast]
    have hm : i * s ≤ n * s := Nat.mul_le_mul_right _ hi
    have hm2 : (n - i) * s = n * s - i * s := Nat.sub_mul ..
    have key : ∀ q, (q = p ∧ c = i ∨ q = p + i * s) → SlK F s (.slice (some ⟨b, q, sp⟩) (n - i) (c - i)) (n - i) (xs.drop (i * s)) := by
      rintro q (⟨rfl, hci⟩ | rfl)
      · obtain rfl : n = i := by omega
        rw [Nat.sub_self]
        exact .some hr (by rw [List.length_drop, hx]; omega) (by rw [Nat.zero_mul, List.take_zero, List.drop_of_length_le (by omega)]) (by omega) hsp
      · exact .some hr (by rw [List.length_drop, hx]; omega) (by rw [← hc, List.drop_take, hm2, List.drop_drop]) (by omega) hsp
    by_cases hci : c = i
    · refine ⟨_, ?_, key p (.inl ⟨rfl, hci⟩)⟩
      simp only [sliceF, ht, hz]
      rw [show boundF none n c = some n from rfl]
      simp only []
      rw [hb]
      rcases hsp with rfl | rfl
      · simp [hci]
      · simp only []
        rw [if_pos ⟨trivial, hle⟩]
        simp [hci]
    · refine ⟨_, ?_, key (p + i * s) (.inr rfl)⟩
      simp only [sliceF, ht, hz]
      rw [show boundF none n c = some n from rfl]
      simp only []
      rw [hb]
      rcases hsp with rfl | rfl
      · simp [hci]
      · simp only []
        rw [if_pos ⟨trivial, hle⟩]
        simp [hci]
end
section
variable {G : Nat} {A : Abs} {F F' : Nat → Option Blk2} {σ : Mem} {L : List Ent}
theorem Lies.freezeK (H : Lies G A F σ L) (k : Nat) {e s n : Nat} {v : Value} {xs : List Value} (h : lookL L k = some (.sl e s v n xs)) : ∃ F', Le F F' ∧ SlK F' s v n xs ∧ Lies G A F' σ (delL L k) := by
  have hg : GRow G σ e s v n xs := H.ok.mem _ (lookL_mem h)
  obtain ⟨F', k1, k2, k3⟩ := H.freezeSl k h
  refine ⟨F', k1, ?_, k3⟩
  cases hg with
  | nil => exact .nil
  | row _ _ _ _ hl _ =>
    cases k2 with
    | some hr hx hc => exact .some hr hx hc hl (.inr rfl)
def AllR (F : Nat → Option Blk2) : List Value → List (List Int) → Prop
  | [], [] => True
  | v :: vs, l :: M => SlK F 1 v l.length (l.map (Value.int .i64)) ∧ AllR F vs M
  | _, _ => False
theorem AllR.le (k : Le F F') : ∀ {vs : List Value} {M : List (List Int)}, AllR F vs M → AllR F' vs M
  | [], [], _ => trivial
  | _ :: _, _ :: _, h => ⟨h.1.le k, AllR.le k h.2⟩
theorem AllR.len : ∀ {vs : List Value} {M : List (List Int)}, AllR F vs M → vs.length = M.length
  | [], [], _ => rfl
  | _ :: _, _ :: _, h => congrArg (· + 1) (AllR.len h.2)
theorem AllR.app : ∀ {vs ws : List Value} {M N : List (List Int)}, AllR F vs M → AllR F ws N → AllR F (vs ++ ws) (M ++ N)
  | [], _, [], _, _, k => k
  | _ :: _, _, _ :: _, _, h, k => ⟨h.1, AllR.app h.2 k⟩
theorem AllR.take : ∀ {vs : List Value} {M : List (List Int)} (i : Nat), AllR F vs M → AllR F (vs.take i) (M.take i)
  | [], [], i, _ => by rw [List.take_nil, List.take_nil]; trivial
  | _ :: _, _ :: _, 0, _ => trivial
  | _ :: _, _ :: _, i + 1, h => ⟨h.1, AllR.take i h.2⟩
theorem AllR.drop : ∀ {vs : List Value} {M : List (List Int)} (i : Nat), AllR F vs M → AllR F (vs.drop i) (M.drop i)
  | [], [], i, _ => by rw [List.drop_nil, List.drop_nil]; trivial
  | _ :: _, _ :: _, 0, h => h
  | _ :: _, _ :: _, i + 1, h => AllR.drop i h.2
theorem AllR.get : ∀ {vs : List Value} {M : List (List Int)} {i : Nat}, AllR F vs M → i < M.length → SlK F 1 (vs.getD i undef) (M.getD i []).length ((M.getD i []).map (Value.int .i64))
  | [], [], i, _, hi => absurd hi (Nat.not_lt_zero _)
  | _ :: _, _ :: _, 0, h, _ => h.1
  | _ :: _, _ :: _, i + 1, h, hi => AllR.get (i := i) h.2 (by simpa using hi)
def MacF (F : Nat → Option Blk2) (v : Value) (M : List (List Int)) : Prop := ∃ vs : List Value, SlK F 1 v M.length vs ∧ AllR F vs M
theorem MacF.le {v : Value} {M : List (List Int)} (h : MacF F v M) (k : Le F F') : MacF F' v M := by
  obtain ⟨vs, h1, h2⟩ := h
  exact ⟨vs, h1.le k, h2.le k⟩
end
end Go.Proofs.YtpjpefcpbkmilaaDoor
namespace Go.Proofs.YtpjpefcpbkmilaaDoor
open Go.RowKit
set_option maxRecDepth 100000
def ReadsV (w : World) (v : Value) (n : Nat) (xs : List Value) : Prop :=
  ∃ A c, v = .slice A n c ∧ (A = none → n = 0 ∧ c = 0) ∧ (n ≠ 0 → ∃ B off, A = some ⟨B, off, none⟩ ∧ ∀ j x, xs[j]? = some x → w.cell? ⟨B, off + j, none⟩ = some x)
theorem flat_same {μ : Mu} {v v' : Value} (hf : flatV v = true) (h : VRel μ v v') : v' = v := flatV_eq hf h
section
variable {P : Program} {G : Nat} {σ : Mem}
theorem slf_reads {μ : Mu} {w : World} (hs : Sim G μ σ w) {s n : Nat} {v v' : Value} {xs : List Value} (h : SlF σ.get s v n xs) (hf : ∀ x ∈ xs, flatV x = true) (hv : VRel μ v v') : ReadsV w v' n xs := by
  cases h with
  | nil _ h =>
    obtain rfl := flat_same rfl hv
    exact ⟨none, 0, rfl, fun _ => ⟨rfl, rfl⟩, fun h => absurd rfl h⟩
  | void c _ h =>
    obtain ⟨A, rfl⟩ := VRel.void_inv hv
    exact ⟨some A, c, rfl, fun h => by (cases h), fun h => absurd rfl h⟩
  | some hr hx hc =>
    obtain ⟨bi, q, c', hm, rfl, hle, hq⟩ := VRel.slice_inv hv
    refine ⟨_, c', rfl, fun h => by (cases h), fun hn => ⟨bi.blk, q, rfl, fun j x hj => ?_⟩⟩
    obtain rfl := hq hn
    obtain ⟨_, cc, fz, t', hh, _, hl⟩ := hs.blk _ _ bi hr hm
    rw [← hc] at hj
    rw [List.getElem?_take] at hj
    split at hj
    · rw [List.getElem?_drop] at hj
      obtain ⟨x', h1, h2⟩ := hl _ _ hj
      have hfx : flatV x = true := hf x (by
        rw [← hc]
        refine List.mem_of_getElem? (i := j) ?_
        rw [List.getElem?_take, if_pos (by assumption), List.getElem?_drop]
        exact hj)
      obtain rfl := flat_same hfx h2
      unfold World.cell?
      simp only [hh]
      rw [Nat.add_assoc]
      simpa using h1
    · cases hj
theorem read_callR {R : List (Nat × List Value)} (hR : RowsAt R σ) (hGR : ∀ g cs, (g, cs) ∈ R → g < G) (h64 : ∀ g cs, (g, cs) ∈ R → g < 64) (hfR : ∀ g cs, (g, cs) ∈ R → (∀ x ∈ cs, flatV x = true) ∧ cs ≠ []) {f : FuncId} {s n : Nat} {a : Value} {xs : List Value} {rest : List Value} {v : Value} (ha : SlF σ.get s a n xs) (hf : ∀ x ∈ xs, flatV x = true) (hl : rest.all (closedV 3) = true) (hv : closedV 3 v = true)
    (hc : ∀ w a', RowsLie w R → ReadsV w a' n xs → Calls P f (a' :: rest).toArray w fun e w' => e = .returned v ∧ Below w.heap.size w w') : SCall G P f (a :: rest).toArray σ v σ := by
  refine ⟨Nat.le_refl _, fun μ w cargs hs hGn _ har => ?_⟩
  obtain ⟨a', ca, hz⟩ : ∃ a', VRel μ a a' ∧ cargs = (a' :: rest).toArray := by
    have hsz : cargs.size = rest.length + 1 := by rw [← har.1]; simp
    refine ⟨cargs[0], har.2 0 a cargs[0] (by simp) (by simp [hsz]), ?_⟩
    apply Array.ext
    · simp [hsz]
    · intro i h1 h2
      match i, h1, h2 with
      | 0, h1, h2 => simp
      | i + 1, h1, h2 =>
        have hi : i < rest.length := by omega
        have := closedV_eq 3 _ _ (List.all_eq_true.1 hl rest[i] (by simp)) (har.2 (i + 1) rest[i] cargs[i + 1] (by simp [hi]) (by simp [h1]))
        simpa using this
  subst hz
  refine (hc w a' (rows_lie hs hGR h64 hfR hR) (slf_reads hs ha hf ca)).mono ?_
  rintro e w' ⟨rfl, hb⟩
  have own2 := OwnOk.same (G := G) (σ := σ) (μ := μ) (w := w) (w' := w') (σ' := σ) rfl (Ext.refl μ) rfl hb.size (fun B hB _ => hb.block B hB) fun c z ci hz hc => .inr ⟨c, z, ci, hz, hc, rfl⟩
  exact ⟨v, μ, rfl, ⟨Nat.le_refl _, fun b h1 h2 => absurd h1 (by omega), fun _ _ => rfl, ⟨hs.glob, fun b x bi hx hm => (hs.blk b x bi hx hm).keep (hb.block _ (hs.blk b x bi hx hm).lt) (Ext.refl _), hs.inj, hs.rw_, own2 hs.abs⟩, hb.size, hb.os, hb.tape, hb.output, fun b x bi hb' hx _ => absurd (Mem.lt hx) (by omega), fun _ x _ h => ⟨x, h⟩, hGn, own_id, fun B hB _ _ => hb.block B hB⟩, closedV_rel _ 3 v hv⟩
end
end Go.Proofs.YtpjpefcpbkmilaaDoor
namespace Go.Proofs.YtpjpefcpbkmilaaDoor
set_option maxRecDepth 100000
section
variable {P : Program} {o : Oper} {ρ : Operand → Value}
theorem vop_strAdd {t t' : TypeId} {x y : Operand} {a b : ByteArray} (ho : o.op = .binOp .add t x y t') (hx : ρ x = .string a) (hy : ρ y = .string b) (hs : a.size + b.size ≤ 1000000000000) : VOp P o ρ (.string (a ++ b)) := fun μ ρc hor => by
  rw [ho] at hor
  have h1 := hor x (by simp [Op.operands])
  have h2 := hor y (by simp [Op.operands])
  rw [hx] at h1
  rw [hy] at h2
  have h1 := flatV_eq rfl h1
  have h2 := flatV_eq rfl h2
  have hn : ¬ (((a.size + b.size : Nat) : Int) > IntKind.i64.max) := by
    have : IntKind.i64.max = 9223372036854775807 := by decide
    omega
  refine ⟨_, .flat _ rfl, fun w => ?_⟩
  unfold execOp
  simp only [ho, h1, h2]
  simp only [eqGuard, binOp, Op.stringOp, if_neg hn]
  rfl
theorem vop_strLen {c : Call} {x : Operand} {t : TypeId} {a : ByteArray} (ho : o.op = .call c) (hc : c.callee = .builtin .len) (ha : c.args = #[x]) (ht : c.argTypes = #[t]) (hu : P.underlying t = some .string) (hx : ρ x = .string a) : VOp P o ρ (.int .i64 a.size) := fun μ ρc hor => by
  rw [ho] at hor
  have h1 := hor x (by simp [Op.operands, Call.operands, hc, ha])
  rw [hx] at h1
  have h1 := flatV_eq rfl h1
  refine ⟨_, .flat _ rfl, fun w => ?_⟩
  unfold execOp
  simp only [ho, Sem.run_bind, resolve, hc, ha, ht, Result.andThen_ok, Sem.run_pure]
  simp [invoke, builtin, Builtin.len_, run_underlying hu, h1, goInt]
end
section
variable {P : Program} {G nt : Nat} {ops : Array Oper} {l : List Oper} {o : Oper} {ta : Nat → Value} {σ : Mem} {rs : List (Rec × Mem)} {A : Abs} {F : Nat → Option Blk2} {L : List Ent} {K : List (Rec × Mem) → (Nat → Value) → Mem → Prop}
theorem RW.conv (H : Lies G A F σ L) {src dst e : TypeId} {x : Operand} {s : ByteArray} {cs : List Value} (hw : wantedT ops ta o = true) (hk : opndOk G o = true) (ho : o.op = .convert src dst x) (hx : oper2 ta x = .string s) (hc : convF P src dst s = some (e, cs)) (hd : dstOk nt o.dst = true)
    (h : ∀ σ' v', Lies G A F σ' (.sl e 1 v' cs.length cs :: L) → RW G P nt ops l (putO ta o.dst v') σ' ((.eff v', σ) :: rs) K) : RW G P nt ops (o :: l) ta σ rs K := by
  refine RW.eff hw hk (eop_conv ho hx hc) hd (h _ _ ?_)
  have g : Grow σ (σ.push (.row ⟨cs, e, true⟩)) := ⟨fun b y hy => get_push_old hy, Nat.le_succ _, rfl⟩
  exact H.addSl g (.row H.gn get_push rfl (by rw [Nat.mul_one]) (Nat.le_refl _) (List.take_of_length_le (by rw [Nat.mul_one]; exact Nat.le_refl _))) fun c hc => by cases hc; exact Nat.le_refl _
end
end Go.Proofs.YtpjpefcpbkmilaaDoor
