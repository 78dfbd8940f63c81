/-
  Lists of words for the laws of hooks: slices that are frozen, what Slice and Make answer where the memory is a list of entries, and the functions of a hook in plain words. Conditions: the heap lies there as HeapAt says, no number is free below.
-/
import Derived.Test.YthemeeiedlbhkaaGreatDoorL1
import Derived.Test.YthemeeiedlbhkaaGreatDoorS4
namespace Go.Proofs.YthemeeiedlbhkaaGreatDoor
set_option maxRecDepth 100000
theorem slf_src {F : Nat → Option Blk2} {σ : Mem} {s n : Nat} {v : Value} {xs : List Value} (h : SlF F s v n xs) (hs0 : 0 < s) (ho : ∀ b y, F b = some y → σ.get b = some y) : srcF σ s v = some (n, xs) := by
  cases h with
  | nil _ h => subst h; rfl
  | void _ _ h => subst h; rfl
  | @some b p n c sp r xs hr hx hc =>
    unfold srcF
    by_cases h0 : n = 0
    · subst h0
      rw [Nat.zero_mul] at hx
      simp only [if_pos trivial]
      rw [List.eq_nil_of_length_eq_zero hx]
    · have h1 : 0 < n * s := Nat.mul_pos (by omega) hs0
      have h2 := congrArg List.length hc
      rw [List.length_take, List.length_drop, hx] at h2
      simp only [if_neg h0, ho _ _ hr]
      rw [if_pos (by omega), hc]
theorem setL_same : ∀ {L : List Ent} {k : Nat} {x : Ent}, lookL L k = some x → setL L k x = L
  | _ :: _, 0, _, h => by cases h; rfl
  | x :: l, k + 1, y, h => congrArg (x :: ·) (setL_same (L := l) (k := k) h)
theorem RW.appF {P : Program} {G nt : Nat} {ops : Array Oper} {l : List Oper} {o : Oper} {ta : Nat → Value} {σ : Mem} {rs : List (Rec × Mem)} {A : Abs} {F : Nat → Option Blk2} {L : List Ent} {K : (Nat → Value) → Mem → Prop} (H : Lies G A F σ L) (k : Nat) {c : Call} {s_ x_ : Operand} {t u e e2 s n l0 : Nat} {v xv : Value} {xs ys : List Value} (hs : SlF F s xv n ys) (hw : wantedT ops ta o = true) (hk : opndOk G o = true) (ho : o.op = .call c) (hc : c.callee = .builtin .append) (ha : c.args = #[s_, x_]) (ht : c.argTypes = #[t, u]) (hsv : oper2 ta s_ = v) (hxv : oper2 ta x_ = xv)
    (hl : lookL L k = some (.sl e s v l0 xs)) (htt : uT P t = some (.slice e)) (huu : uT P u = some (.slice e2)) (hi : infoB P e s 64 = true) (hs0 : 0 < s) (hone : ys.all (·.oneCell') = true) (hb : l0 + n ≤ 1000000) (hd : dstOk nt o.dst = true)
    (h : ∀ σ' v' rs', Lies G A F σ' (setL L k (.sl e s v' (l0 + n) (xs ++ ys))) → RW G P nt ops l (putO ta o.dst v') σ' rs' fun _ => K) : RW G P nt ops (o :: l) ta σ rs fun _ => K := by
  obtain ⟨i, z, h1, h2, h3, h4, h5⟩ := infoB_ok hi
  have hg := H.sl k hl
  have hsrc : srcG (.slice e2) i z σ xv = some (n, ys) := by
    show srcF σ i.size xv = _
    rw [h4]
    exact slf_src hs hs0 H.old
  by_cases hn : n = 0
  · subst hn
    have hy : ys = [] := List.eq_nil_of_length_eq_zero (by rw [hs.length, Nat.zero_mul])
    subst hy
    have k1 : appendF G P σ t u v xv = some (v, .same) := by
      unfold appendF
      rw [htt, huu]
      simp only [h1, h2]
      rw [if_pos ⟨h3, by omega⟩]
      simp only [hsrc, if_pos trivial]
      cases hg with
      | nil => rfl
      | row hq hr ht hc hlc hx => exact if_pos hlc
    rw [← hsv, ← hxv] at k1
    refine RW.append hw hk ho hc ha ht k1 hd (h _ _ _ ?_)
    rw [List.append_nil, Nat.add_zero, hsv, setL_same hl]
    exact H
  · have hmul : (l0 + n) * i.bytes ≤ 1000000 * 64 := Nat.mul_le_mul hb h5
    obtain ⟨v', cmd, k1, k2, k3, k4, k5, k6⟩ := grow_append (P := P) hg H.gn htt huu h1 h2 h3 h4 hs0 hsrc (by omega) hone ⟨by omega, by omega⟩
    rw [← hsv, ← hxv] at k1
    refine RW.append hw hk ho hc ha ht k1 hd (h _ _ _ (H.grown k hl k2 k3 k4 k5 fun b hb => ?_))
    rcases k6 with k6 | k6
    · exact .inl (k6 ▸ hb)
    · rw [k6] at hb
      cases hb
      exact .inr (Nat.le_refl _)
theorem allOk_app {G : Nat} {σ : Mem} : ∀ {a b : List Ent}, AllOk G σ a → AllOk G σ b → AllOk G σ (a ++ b)
  | [], _, _, h => h
  | _ :: _, _, h, k => ⟨h.1, allOk_app h.2 k⟩
theorem apart_app {F F' : Nat → Option Blk2} : ∀ {a b : List Ent}, Apart F' a → Apart F b → Le F F' → (∀ y ∈ b, ∀ c, y.blk = some c → F' c ≠ none) → Apart F (a ++ b)
  | [], _, _, h, _, _ => h
  | x :: l, b, h, k, le, hb => by
    refine ⟨fun c hc => ⟨?_, fun y hy hyc => ?_⟩, apart_app h.2 k le hb⟩
    · have := (h.1 c hc).1
      cases e : F c with
      | none => rfl
      | some z => rw [le _ _ e] at this; cases this
    · rcases List.mem_append.1 hy with h1 | h1
      · exact (h.1 c hc).2 y h1 hyc
      · exact hb y h1 c hyc (h.1 c hc).1
theorem Lies.then {G : Nat} {A A' : Abs} {F : Nat → Option Blk2} {σ σ' : Mem} {L L' : List Ent} (H : Lies G A F σ L) (K : Lies G A' σ.get σ' L') : Lies G A' F σ' (L' ++ L) := by
  refine ⟨K.gn, fun b y h => K.old b y (H.old b y h), K.abs, allOk_app K.ok (H.ok.keep fun _ _ b y _ h => K.old b y h), apart_app K.apart H.apart H.old fun y hy c hc => ?_⟩
  obtain ⟨_, z, hz⟩ := (H.ok.mem y hy).is hc
  rw [hz]
  exact fun h => by cases h
section
variable {G h : Nat} {m : HM} {σ : Mem} {F : Nat → Option Blk2} {L : List Ent} {A : Abs}
end
theorem pickOf_in (x : Int) {n : Int} (h : 0 < n) : 0 ≤ pickOf x n ∧ pickOf x n < n := by
  unfold pickOf
  have h1 := Int.tmod_lt_of_pos x h
  have h2 := Int.lt_tmod_of_pos x h
  rw [if_neg (by omega)]
  split <;> omega
theorem ints_at {l : List Int} {j : Nat} (hj : j < l.length) : ((l.map (Value.int .i64)).drop (((j : Nat) : Int).toNat * 1)).take 1 = [.int .i64 (l.getD j 0)] := by
  rw [Int.toNat_natCast, Nat.mul_one, List.getD_eq_getElem?_getD, List.getElem?_eq_getElem hj, List.drop_eq_getElem_cons (by simpa using hj)]
  simp
section
variable {G h : Nat} {m : HM} {σ : Mem}
end
structure ExtH (m m' : HM) (n : Nat) : Prop where
  finds : FindsAll m m'
  lim : m'.limit = m.limit
  free : m'.free = []
  many : m'.many ≤ m.many + n
theorem ExtH.refl {m : HM} (hf : m.free = []) : ExtH m m 0 := ⟨fun _ _ h => h, rfl, hf, Nat.le_refl _⟩
theorem ExtH.trans {m m1 m2 : HM} {a b : Nat} (h : ExtH m m1 a) (k : ExtH m1 m2 b) : ExtH m m2 (a + b) := ⟨h.finds.trans k.finds, k.lim.trans h.lim, k.free, by have := h.many; have := k.many; omega⟩
theorem ExtH.le {m m1 : HM} {a b : Nat} (h : ExtH m m1 a) (k : a ≤ b) : ExtH m m1 b := ⟨h.finds, h.lim, h.free, by have := h.many; omega⟩
def okW (x : Wd) : Bool := !(x.1 == 1 && x.2 == 0)
def isT (x : Wd) : Bool := x.1 == 1 && x.2 == 1
def glob (us : List Wd) : List Wd := us.filter fun x => okW x && !isT x
theorem Lies.back {G : Nat} {A : Abs} {F F' : Nat → Option Blk2} {σ : Mem} {L : List Ent} (H : Lies G A F' σ L) (k : Le F F') : Lies G A F σ L :=
  ⟨H.gn, fun b y h => H.old b y (k b y h), H.abs, H.ok, H.apart.frozen fun z hz b hb => by
    have := H.apart.mem z hz b hb
    cases e : F b with
    | none => rfl
    | some y => rw [k b y e] at this; cases this⟩
end Go.Proofs.YthemeeiedlbhkaaGreatDoor
