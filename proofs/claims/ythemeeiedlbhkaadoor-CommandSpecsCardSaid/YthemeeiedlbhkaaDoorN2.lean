/-
  Specifications and their strings. Plain. Conditions: none.
  Flags and lines of a specification's bytes. Plain. Conditions: none.
-/
import Derived.Test.YthemeeiedlbhkaaDoorL4
import Derived.Lib.Bytealg
import Derived.Test.YthemeeiedlbhkaaDoorL3
import Derived.Test.YthemeeiedlbhkaaDoorV1
import Derived.Test.YthemeeiedlbhkaaDoorC1
namespace Go.Proofs.YthemeeiedlbhkaaDoor
open Go.Lib
set_option maxRecDepth 100000
theorem byte_ten {x : Int} (h0 : 0 ≤ x) (h1 : x < 256) : x.toNat.toUInt8 = 10 ↔ x = 10 := by
 have := byte_toNat x h0 h1
 constructor
 ·intro h
  rw [h] at this
  have e : (10 : UInt8).toNat = 10 := rfl
  omega
 ·rintro rfl; rfl
theorem enc_ten {c : Int} (hc : chB c = true) : (10 : UInt8) ∈ encodeRune c ↔ c = 10 := by
 obtain ⟨c0, c1, c2⟩ := chB_iff.1 hc
 unfold encodeRune
 rw [List.mem_map]
 constructor
 ·rintro ⟨x, hx, hx2⟩
  have hb := encodeRuneZ_byte c x hx
  have hx3 := (byte_ten hb.1 hb.2).1 hx2
  subst hx3
  by_cases q1 : c ≤ 127
  ·rw [encodeRuneZ_one c0 q1] at hx; exact (List.mem_singleton.1 hx).symm
  ·exfalso
   by_cases q2 : c ≤ 2047
   ·rw [encodeRuneZ_two (by omega) q2] at hx; simp only [List.mem_cons, List.not_mem_nil, or_false] at hx; omega
   ·by_cases q3 : c ≤ 65535
    ·rw [encodeRuneZ_three (by omega)] at hx; simp only [List.mem_cons, List.not_mem_nil, or_false] at hx; omega
    ·rw [encodeRuneZ_four (by omega) (by omega)] at hx; simp only [List.mem_cons, List.not_mem_nil, or_false] at hx; omega
 ·rintro rfl
  exact ⟨10, by rw [encodeRuneZ_one (by decide) (by decide)]; exact List.mem_singleton.2 rfl, rfl⟩
theorem encA_ten {a : List Int} (ha : ∀ c ∈ a, chB c = true) : (10 : UInt8) ∈ encA a ↔ (10 : Int) ∈ a := by
 induction a with
 | nil => exact ⟨fun h => absurd h (List.not_mem_nil), fun h => absurd h (List.not_mem_nil)⟩
 | cons c a ih =>
  rw [encA_cons, List.mem_append, enc_ten (ha c (List.mem_cons_self ..)), ih fun x hx => ha x (List.mem_cons_of_mem _ hx), List.mem_cons]
  exact ⟨fun h => h.elim (fun e => .inl e.symm) .inr, fun h => h.elim (fun e => .inl e.symm) .inr⟩
theorem ixb_none {c : UInt8} : ∀ {s : List UInt8}, c ∉ s → Lib.indexByte s c = -1
 | [], _ => rfl
 | b :: s, h => by
  have h1 : (b == c) = false := beq_eq_false_iff_ne.2 fun e => h (e ▸ List.mem_cons_self ..)
  rw [Lib.indexByte, h1, ixb_none (fun e => h (List.mem_cons_of_mem _ e))]
  rfl
theorem ixb_some {c : UInt8} {t : List UInt8} : ∀ {s : List UInt8}, c ∉ s → Lib.indexByte (s ++ c :: t) c = (s.length : Int)
 | [], _ => by rw [List.nil_append, Lib.indexByte, beq_self_eq_true]; rfl
 | b :: s, h => by
  have h1 : (b == c) = false := beq_eq_false_iff_ne.2 fun e => h (e ▸ List.mem_cons_self ..)
  have ih := ixb_some (t := t) (s := s) (fun e => h (List.mem_cons_of_mem _ e))
  rw [List.cons_append, Lib.indexByte, h1, ih, if_neg Bool.false_ne_true, if_neg (by simp), List.length_cons]
  rfl
theorem first_ten : ∀ r : List Int, (10 : Int) ∉ r ∨ ∃ p q, r = p ++ 10 :: q ∧ (10 : Int) ∉ p
 | [] => .inl (List.not_mem_nil)
 | c :: r => by
  by_cases h : c = 10
  ·exact .inr ⟨[], r, by rw [h]; rfl, List.not_mem_nil⟩
  ·rcases first_ten r with k | ⟨p, q, rfl, k⟩
   ·exact .inl fun e => (List.mem_cons.1 e).elim (fun e => h e.symm) k
   ·exact .inr ⟨c :: p, q, rfl, fun e => (List.mem_cons.1 e).elim (fun e => h e.symm) k⟩
theorem line_last {b : List UInt8} (hv : validD b = true) (h : (10 : Int) ∉ runes b) : Lib.indexByte b 10 = -1 := by
 refine ixb_none fun e => h ?_
 rw [← valid_eq hv, encA_ten (valid_ch hv)] at e
 exact e
theorem line_split {b : List UInt8} {p q : List Int} (hv : validD b = true) (h : runes b = p ++ 10 :: q) (hp : (10 : Int) ∉ p) : Lib.indexByte b 10 = ((encA p).length : Int) ∧ b = encA p ++ 10 :: encA q ∧ validD (encA p) = true ∧ runes (encA p) = p ∧ validD (encA q) = true ∧ runes (encA q) = q := by
 have hc := valid_ch hv
 rw [h] at hc
 have cp : ∀ c ∈ p, chB c = true := fun c hx => hc c (List.mem_append.2 (.inl hx))
 have cq : ∀ c ∈ q, chB c = true := fun c hx => hc c (List.mem_append.2 (.inr (List.mem_cons_of_mem _ hx)))
 have e : b = encA p ++ 10 :: encA q := by
  rw [← valid_eq hv, h, encA_append, encA_cons]
  rfl
 refine ⟨?_, e, valid_encA p cp, runes_encA p cp, valid_encA q cq, runes_encA q cq⟩
 conv => lhs; rw [e]
 exact ixb_some fun k => hp ((encA_ten cp).1 k)
abbrev Need := Int × List UInt8
structure SpecM where
 w : Bool
 e : Bool
 h : Bool
 n : List Need
def codeL : List Int := [97, 98, 66, 99, 67, 100, 102, 105, 107, 109, 110, 78, 112, 80, 114, 115, 83, 118, 120]
def flagB (c : Int) : Bool := c == 42 || c == 64 || c == 94
def lineP (r : List Int) : List Int := r.takeWhile (· != 10)
def needsG : Nat → Int → List Int → List Need × Option Int
 | _, _, [] => ([], none)
 | 0, a, _ :: _ => ([], some a)
 | k + 1, a, c :: r =>
  if c ∈ codeL then ((c, encA (lineP r)) :: (needsG k (a + ((lineP r).length : Int) + 2) (r.drop ((lineP r).length + 1))).1, (needsG k (a + ((lineP r).length : Int) + 2) (r.drop ((lineP r).length + 1))).2)
  else ([], some a)
def flagsR (s : List UInt8) : List Int := (runes s).takeWhile flagB
def restR (s : List UInt8) : List Int := (runes s).drop (flagsR s).length
def parseM (s : List UInt8) : SpecM × Int × Int :=
 if validD s = false then (⟨false, false, false, []⟩, 5, 0)
 else match (needsG (restR s).length ((flagsR s).length : Int) (restR s)).2 with
  | some a => (⟨false, false, false, []⟩, 5, a)
  | none => (⟨(flagsR s).contains 42, (flagsR s).contains 64, (flagsR s).contains 94, (needsG (restR s).length ((flagsR s).length : Int) (restR s)).1⟩, 0, 0)
def needB (n : Need) : Bool := decide (n.1 ∈ codeL) && validD n.2 && !((runes n.2).contains 10)
def flagsT (w e h : Bool) : List UInt8 := (if w = true then [42] else []) ++ (if e = true then [64] else []) ++ (if h = true then [94] else [])
def lineN (n : Need) : List UInt8 := encodeRune n.1 ++ n.2
def moreN (r : List Need) : List UInt8 := r.flatMap fun n => 10 :: lineN n
def joinN : List Need → List UInt8
 | [] => []
 | n :: r => lineN n ++ moreN r
def textM (x : SpecM) : List UInt8 × Int := if x.n.all needB = true then (flagsT x.w x.e x.h ++ joinN x.n, 0) else ([], 5)
theorem lineP_none {r : List Int} (h : (10 : Int) ∉ r) : lineP r = r := by
 unfold lineP
 induction r with
 | nil => rfl
 | cons c r ih =>
  rw [List.takeWhile_cons_of_pos (by rw [bne_iff_ne]; exact fun e => h (e ▸ List.mem_cons_self ..)), ih fun k => h (List.mem_cons_of_mem _ k)]
theorem lineP_some {p q : List Int} (h : (10 : Int) ∉ p) : lineP (p ++ 10 :: q) = p := by
 unfold lineP
 induction p with
 | nil => rfl
 | cons c p ih =>
  rw [List.cons_append, List.takeWhile_cons_of_pos (by rw [bne_iff_ne]; exact fun e => h (e ▸ List.mem_cons_self ..)), ih fun k => h (List.mem_cons_of_mem _ k)]
theorem codes_ok {c : Int} (h : c ∈ codeL) : chB c = true ∧ flagB c = false ∧ c ≠ 10 ∧ 0 ≤ c ∧ c ≤ 127 := by
 have : codeL.all (fun c => chB c && !flagB c && decide (c ≠ 10) && decide (0 ≤ c) && decide (c ≤ 127)) = true := by decide
 have := List.all_eq_true.1 this c h
 simp only [Bool.and_eq_true, decide_eq_true_eq, Bool.not_eq_true'] at this
 exact ⟨this.1.1.1.1, this.1.1.1.2, this.1.1.2, this.1.2, this.2⟩
theorem needs_fuel : ∀ {k m : Nat} {a : Int} {r : List Int}, r.length ≤ k → r.length ≤ m → needsG k a r = needsG m a r
 | k, m, a, [], _, _ => by cases k <;> cases m <;> rfl
 | k + 1, m + 1, a, c :: r, h1, h2 => by
  have ih := needs_fuel (k := k) (m := m) (a := a + ((lineP r).length : Int) + 2) (r := r.drop ((lineP r).length + 1)) (by rw [List.length_drop]; rw [List.length_cons] at h1; omega) (by rw [List.length_drop]; rw [List.length_cons] at h2; omega)
  unfold needsG
  rw [ih]
 | 0, m, a, c :: r, h1, _ => by simp at h1
 | k + 1, 0, a, c :: r, _, h2 => by simp at h2
theorem needs_go {k : Nat} {a c : Int} {p q : List Int} (hc : c ∈ codeL) (hp : (10 : Int) ∉ p) (_ : q.length ≤ k) : needsG (k + 1) a (c :: (p ++ 10 :: q)) = ((c, encA p) :: (needsG k (a + (p.length : Int) + 2) q).1, (needsG k (a + (p.length : Int) + 2) q).2) := by
 have e : (p ++ 10 :: q).drop (p.length + 1) = q := by rw [← List.drop_drop, List.drop_left]; rfl
 conv => lhs; unfold needsG
 rw [if_pos hc, lineP_some hp, e]
theorem needs_last {k : Nat} {a c : Int} {p : List Int} (hc : c ∈ codeL) (hp : (10 : Int) ∉ p) : needsG (k + 1) a (c :: p) = ([(c, encA p)], none) := by
 unfold needsG
 rw [if_pos hc, lineP_none hp, List.drop_eq_nil_of_le (by omega)]
 cases k <;> rfl
theorem needs_bad {k : Nat} {a c : Int} {r : List Int} (hc : c ∉ codeL) : needsG (k + 1) a (c :: r) = ([], some a) := by
 unfold needsG
 rw [if_neg hc]
/-! the text of a specification is parsed to it -/
def flagsC (w e h : Bool) : List Int := (if w = true then [42] else []) ++ (if e = true then [64] else []) ++ (if h = true then [94] else [])
theorem flags_enc : ∀ w e h : Bool, flagsT w e h = encA (flagsC w e h) ∧ ((flagsC w e h).all fun c => chB c && flagB c) = true ∧ (flagsC w e h).contains 42 = w ∧ (flagsC w e h).contains 64 = e ∧ (flagsC w e h).contains 94 = h := by decide
theorem enc_ge : ∀ a : List Int, a.length ≤ (encA a).length
 | [] => Nat.le_refl _
 | c :: a => by
  have := enc_ge a
  have := (enc_len c).1
  rw [encA_cons, List.length_append, List.length_cons]
  omega
end Go.Proofs.YthemeeiedlbhkaaDoor
namespace Go.Proofs.YthemeeiedlbhkaaDoor
open Go.Lib
set_option maxRecDepth 100000
theorem byte_asc {x : Int} {b : UInt8} (h0 : 0 ≤ x) (h1 : x < 256) (h : x.toNat.toUInt8 = b) : x = ((b.toNat : Nat) : Int) := by
 have := byte_toNat x h0 h1
 rw [h] at this
 omega
theorem enc_asc {c : Int} {b : UInt8} (hc : chB c = true) (hb : b.toNat < 128) (h : b ∈ encodeRune c) : c = ((b.toNat : Nat) : Int) := by
 obtain ⟨c0, c1, c2⟩ := chB_iff.1 hc
 unfold encodeRune at h
 rw [List.mem_map] at h
 obtain ⟨x, hx, hx2⟩ := h
 have hr := encodeRuneZ_byte c x hx
 have hx3 := byte_asc hr.1 hr.2 hx2
 subst hx3
 by_cases q1 : c ≤ 127
 ·rw [encodeRuneZ_one c0 q1] at hx; exact (List.mem_singleton.1 hx).symm
 ·exfalso
  by_cases q2 : c ≤ 2047
  ·rw [encodeRuneZ_two (by omega) q2] at hx; simp only [List.mem_cons, List.not_mem_nil, or_false] at hx; omega
  ·by_cases q3 : c ≤ 65535
   ·rw [encodeRuneZ_three (by omega)] at hx; simp only [List.mem_cons, List.not_mem_nil, or_false] at hx; omega
   ·rw [encodeRuneZ_four (by omega) (by omega)] at hx; simp only [List.mem_cons, List.not_mem_nil, or_false] at hx; omega
theorem encA_asc {b : UInt8} (hb : b.toNat < 128) : ∀ {a : List Int}, (∀ c ∈ a, chB c = true) → b ∈ encA a → ((b.toNat : Nat) : Int) ∈ a
 | [], _, h => absurd h (List.not_mem_nil)
 | c :: a, ha, h => by
  rw [encA_cons, List.mem_append] at h
  rcases h with h | h
  ·rw [enc_asc (ha c (List.mem_cons_self ..)) hb h]; exact List.mem_cons_self ..
  ·exact List.mem_cons_of_mem _ (encA_asc hb (fun x hx => ha x (List.mem_cons_of_mem _ hx)) h)
def flagP (b : UInt8) : Bool := [42, 64, 94].contains b
theorem flagB_is {c : Int} (h : flagB c = true) : c = 42 ∨ c = 64 ∨ c = 94 := by
 unfold flagB at h
 simpa [or_assoc] using h
theorem flagP_is {b : UInt8} (h : flagP b = true) : b = 42 ∨ b = 64 ∨ b = 94 := by
 unfold flagP at h
 simpa using h
theorem flag_enc {c : Int} (h : flagB c = true) : ∃ b, encodeRune c = [b] ∧ flagP b = true := by
 rcases flagB_is h with rfl | rfl | rfl
 ·exact ⟨42, by decide, by decide⟩
 ·exact ⟨64, by decide, by decide⟩
 ·exact ⟨94, by decide, by decide⟩
theorem noflag_enc {c : Int} (hc : chB c = true) (h : flagB c = false) : ∃ b t, encodeRune c = b :: t ∧ flagP b = false := by
 have hl := (enc_len c).1
 match he : encodeRune c with
 | [] => rw [he] at hl; simp at hl
 | b :: t =>
  refine ⟨b, t, rfl, Bool.eq_false_iff.2 fun e => ?_⟩
  have hm : b ∈ encodeRune c := by rw [he]; exact List.mem_cons_self ..
  rcases flagP_is e with rfl | rfl | rfl
  ·rw [enc_asc hc (by decide) hm] at h; exact absurd h (by decide)
  ·rw [enc_asc hc (by decide) hm] at h; exact absurd h (by decide)
  ·rw [enc_asc hc (by decide) hm] at h; exact absurd h (by decide)
theorem trim_enc : ∀ {r : List Int}, (∀ c ∈ r, chB c = true) → (encA r).dropWhile flagP = encA (r.dropWhile flagB) ∧ (encA (r.takeWhile flagB)).length = (r.takeWhile flagB).length
 | [], _ => ⟨rfl, rfl⟩
 | c :: r, h => by
  have ih := trim_enc (r := r) fun x hx => h x (List.mem_cons_of_mem _ hx)
  cases hf : flagB c with
  | true =>
   obtain ⟨b, h1, h2⟩ := flag_enc hf
   rw [encA_cons, h1, List.dropWhile_cons_of_pos hf, List.takeWhile_cons_of_pos hf, encA_cons, h1, List.cons_append, List.nil_append, List.dropWhile_cons_of_pos h2]
   exact ⟨ih.1, congrArg (· + 1) ih.2⟩
  | false =>
   obtain ⟨b, t, h1, h2⟩ := noflag_enc (h c (List.mem_cons_self ..)) hf
   have hf' : ¬flagB c = true := by rw [hf]; exact Bool.noConfusion
   rw [encA_cons, h1, List.dropWhile_cons_of_neg hf', List.takeWhile_cons_of_neg hf', encA_cons, h1, List.cons_append, List.dropWhile_cons_of_neg (by rw [h2]; exact Bool.noConfusion)]
   exact ⟨rfl, rfl⟩
theorem drop_tw {p : Int → Bool} : ∀ r : List Int, r.drop (r.takeWhile p).length = r.dropWhile p
 | [] => rfl
 | c :: r => by
  cases h : p c with
  | true => rw [List.takeWhile_cons_of_pos h, List.dropWhile_cons_of_pos h]; exact drop_tw r
  | false => rw [List.takeWhile_cons_of_neg (by rw [h]; exact Bool.noConfusion), List.dropWhile_cons_of_neg (by rw [h]; exact Bool.noConfusion)]; rfl
theorem flags_rest (s : List UInt8) : flagsR s ++ restR s = runes s := by
 unfold restR flagsR
 rw [drop_tw]
 exact List.takeWhile_append_dropWhile
theorem rest_ch {s : List UInt8} (hv : validD s = true) : ∀ c ∈ restR s, chB c = true := fun c hc => valid_ch hv c (by rw [← flags_rest]; exact List.mem_append.2 (.inr hc))
theorem flags_ch {s : List UInt8} (hv : validD s = true) : ∀ c ∈ flagsR s, chB c = true := fun c hc => valid_ch hv c (by rw [← flags_rest]; exact List.mem_append.2 (.inl hc))
theorem trim_rest {s : List UInt8} (hv : validD s = true) : (s.dropWhile fun b => [42, 64, 94].contains b) = encA (restR s) := by
 have h := (trim_enc (valid_ch hv)).1
 rw [valid_eq hv] at h
 unfold restR flagsR
 rw [drop_tw]
 exact h
theorem flags_one {s : List UInt8} (hv : validD s = true) : (encA (flagsR s)).length = (flagsR s).length := (trim_enc (valid_ch hv)).2
theorem rest_len {s : List UInt8} (hv : validD s = true) : s.length = (flagsR s).length + (encA (restR s)).length := by
 conv => lhs; rw [← valid_eq hv, ← flags_rest s, encA_append, List.length_append, flags_one hv]
theorem flags_take {s : List UInt8} (hv : validD s = true) : s.take (flagsR s).length = encA (flagsR s) := by
 have e : s = encA (flagsR s) ++ encA (restR s) := by rw [← encA_append, flags_rest, valid_eq hv]
 rw [← flags_one hv]
 generalize encA (flagsR s) = a at e ⊢
 rw [e, List.take_left]
theorem ixb_in {c : UInt8} {s : List UInt8} : decide (0 ≤ Lib.indexByte s c) = decide (c ∈ s) := by
 by_cases h : c ∈ s
 ·obtain ⟨a, b, rfl, k⟩ := List.eq_append_cons_of_mem h
  rw [ixb_some k, decide_eq_true h]
  exact decide_eq_true (Int.natCast_nonneg _)
 ·rw [ixb_none h, decide_eq_false h]; rfl
theorem encA_has {b : UInt8} (hb : b.toNat < 128) {a : List Int} (ha : ∀ c ∈ a, chB c = true) : b ∈ encA a ↔ ((b.toNat : Nat) : Int) ∈ a := by
 refine ⟨encA_asc hb ha, fun h => ?_⟩
 obtain ⟨p, q, rfl⟩ := List.append_of_mem h
 rw [encA_append, encA_cons]
 refine List.mem_append.2 (.inr (List.mem_append.2 (.inl ?_)))
 unfold encodeRune
 rw [encodeRuneZ_one (by omega) (by omega)]
 exact List.mem_singleton.2 (by simp)
theorem flag_has {s : List UInt8} (hv : validD s = true) {b : UInt8} {c : Int} (hb : b.toNat < 128) (hc : ((b.toNat : Nat) : Int) = c) : decide (0 ≤ Lib.indexByte (encA (flagsR s)) b) = (flagsR s).contains c := by
 rw [ixb_in]
 subst hc
 by_cases h : ((b.toNat : Nat) : Int) ∈ flagsR s
 ·rw [List.contains_iff_mem.2 h]; exact decide_eq_true ((encA_has hb (flags_ch hv)).2 h)
 ·rw [Bool.eq_false_iff.2 fun e => h (List.contains_iff_mem.1 e)]; exact decide_eq_false fun e => h ((encA_has hb (flags_ch hv)).1 e)
section
variable {P : Program} {o : Oper} {ρ : Operand → Value}
theorem vop_sHeadE {t : TypeId} {x h : Operand} {k : IntKind} {a r : List UInt8} {j : Nat} (hr : a.take j = r) (ho : o.op = .slice t x none (some h) none) (hx : ρ x = .string ⟨a.toArray⟩) (hh : ρ h = .int k ((j : Nat) : Int)) (hu : P.underlying t = some .string) (hj : j ≤ a.length) : VOp P o ρ (.string ⟨r.toArray⟩) := hr ▸ vop_sHeadL ho hx hh hu hj
theorem vop_sTailE {t : TypeId} {x l : Operand} {k : IntKind} {a r : List UInt8} {j : Nat} (hr : a.drop j = r) (ho : o.op = .slice t x (some l) none none) (hx : ρ x = .string ⟨a.toArray⟩) (hh : ρ l = .int k ((j : Nat) : Int)) (hu : P.underlying t = some .string) (hj : j ≤ a.length) : VOp P o ρ (.string ⟨r.toArray⟩) := hr ▸ vop_sTailL ho hx hh hu hj
end
def celN (n : Need) : List Value := [.int .i64 n.1, .string ⟨n.2.toArray⟩]
abbrev needC (l : List Need) : List Value := rowX celN l
theorem needC_snoc (l : List Need) (n : Need) : needC l ++ [.int .i64 n.1, .string ⟨n.2.toArray⟩] = needC (l ++ [n]) := (rowX_snoc l n).symm
theorem needC_len (l : List Need) : (needC l).length = l.length * 2 := rowX_len (cel := celN) (fun _ => rfl) l
theorem ten_take (p q : List Int) : (encA (p ++ 10 :: q)).take ((encA p).length + 1) = encA p ++ [10] := by
 have e : encA (p ++ 10 :: q) = (encA p ++ [10]) ++ encA q := by rw [encA_append, encA_cons, show encodeRune 10 = [10] from by decide, List.append_assoc]
 rw [e, show (encA p).length + 1 = (encA p ++ [10]).length by rw [List.length_append]; rfl, List.take_left]
theorem ten_drop (p q : List Int) : (encA (p ++ 10 :: q)).drop ((encA p).length + 1) = encA q := by
 have e : encA (p ++ 10 :: q) = (encA p ++ [10]) ++ encA q := by rw [encA_append, encA_cons, show encodeRune 10 = [10] from by decide, List.append_assoc]
 rw [e, show (encA p).length + 1 = (encA p ++ [10]).length by rw [List.length_append]; rfl, List.drop_left]
theorem ten_ix {p q : List Int} (h : ∀ c ∈ p ++ 10 :: q, chB c = true) (hp : (10 : Int) ∉ p) : Lib.indexByte (encA (p ++ 10 :: q)) 10 = (((encA p).length : Nat) : Int) := (line_split (valid_encA _ h) (runes_encA _ h) hp).1
theorem ten_no {r : List Int} (h : ∀ c ∈ r, chB c = true) (hr : (10 : Int) ∉ r) : Lib.indexByte (encA r) 10 = -1 := line_last (valid_encA _ h) (by rw [runes_encA _ h]; exact hr)
theorem needs_snoc {T : List Need × Option Int} {acc : List Need} {a c : Int} {p q : List Int} (h : T = (acc ++ (needsG (c :: (p ++ 10 :: q)).length a (c :: (p ++ 10 :: q))).1, (needsG (c :: (p ++ 10 :: q)).length a (c :: (p ++ 10 :: q))).2)) (hc : c ∈ codeL) (hp : (10 : Int) ∉ p) : T = ((acc ++ [(c, encA p)]) ++ (needsG q.length (a + ((p.length + 2 : Nat) : Int)) q).1, (needsG q.length (a + ((p.length + 2 : Nat) : Int)) q).2) := by
 rw [h, List.length_cons, needs_go hc hp (by rw [List.length_append, List.length_cons]; omega), needs_fuel (k := (p ++ 10 :: q).length) (m := q.length) (by rw [List.length_append, List.length_cons]; omega) (Nat.le_refl _), List.append_assoc, show a + (p.length : Int) + 2 = a + ((p.length + 2 : Nat) : Int) by omega]
 rfl
theorem needs_done {T : List Need × Option Int} {acc : List Need} {a c : Int} {p : List Int} (h : T = (acc ++ (needsG (c :: p).length a (c :: p)).1, (needsG (c :: p).length a (c :: p)).2)) (hc : c ∈ codeL) (hp : (10 : Int) ∉ p) : T = (acc ++ [(c, encA p)], none) := by
 rw [h, List.length_cons, needs_last hc hp]
theorem needs_fault {T : List Need × Option Int} {acc : List Need} {a c : Int} {p : List Int} (h : T = (acc ++ (needsG (c :: p).length a (c :: p)).1, (needsG (c :: p).length a (c :: p)).2)) (hc : c ∉ codeL) : T.2 = some a := by
 rw [h, List.length_cons, needs_bad hc]
theorem parse_none {s : List UInt8} {acc : List Need} (hv : validD s = true) (h : needsG (restR s).length ((flagsR s).length : Int) (restR s) = (acc, none)) : parseM s = (⟨(flagsR s).contains 42, (flagsR s).contains 64, (flagsR s).contains 94, acc⟩, 0, 0) := by
 unfold parseM
 rw [if_neg (by rw [hv]; exact Bool.noConfusion), h]
theorem parse_fault {s : List UInt8} {a : Int} (hv : validD s = true) (h : (needsG (restR s).length ((flagsR s).length : Int) (restR s)).2 = some a) : parseM s = (⟨false, false, false, []⟩, 5, a) := by
 unfold parseM
 rw [if_neg (by rw [hv]; exact Bool.noConfusion), h]
theorem parse_bad {s : List UInt8} (hv : validD s = false) : parseM s = (⟨false, false, false, []⟩, 5, 0) := by
 unfold parseM
 rw [if_pos hv]
end Go.Proofs.YthemeeiedlbhkaaDoor
