/-
  A heap in memory behind New and behind add: what the walks leave, said of the whole heap. Conditions: none.
-/
import Derived.Test.YtaaebeiigkhcjaaGreatDoorAdd
namespace Go.Proofs.YtaaebeiigkhcjaaGreatDoor
open Go.RowKit
set_option maxRecDepth 100000

def HM.push (m : HM) (o : HObj) : HM := { m with objs := m.objs ++ [some o] }
theorem HM.many_push (m : HM) (o : HObj) : (m.push o).many = m.many + 1 := by simp [HM.many, HM.push]
theorem HM.used_push (m : HM) (o : HObj) : (m.push o).used = m.used + o.size := by simp [HM.used, HM.push, optSize]
theorem HM.Ok.many_le {m : HM} (h : m.Ok) : m.many ≤ m.objs.length := by have := h.free; omega
theorem HM.Ok.push {m : HM} (h : m.Ok) (o : HObj) (hm : m.many < m.limit) (hf : m.free = []) (hu : m.used + o.size ≤ 1048576) : (m.push o).Ok where
  lo := h.lo
  hi := h.hi
  len := by
    have := h.free
    rw [hf] at this
    simp [HM.push] at this ⊢
    omega
  used := by rw [HM.used_push]; exact hu
  free := by
    have := h.free
    rw [HM.many_push]
    simp [HM.push]
    omega

def Own.with (S : Own) (bs : List Nat) (k : Nat) : Own := fun x => if x ∈ bs then some k else S x
def Own.rowed (S : Own) (v : Value) : Own := fun x => if v.ownBlock = some x then some 1 else S x

def Own.core (p : Nat) (vo : Value) : Own := fun x => if x = p ∨ vo.ownBlock = some x then some 0 else none
theorem Own.core_p (p : Nat) (vo : Value) : Own.core p vo p ≠ none := by simp [Own.core]
theorem HeapIn.core_row {w : World} {S : Own} {p : Nat} {m : HM} {vo vf : Value} {os : List Value} (h : HeapIn w S p m vo vf os) : ∀ g, vo.ownBlock = some g → Own.core p vo g ≠ none ∧ g ≠ p :=
  fun g hg => ⟨by simp [Own.core, hg], fun e => by have h1 := h.rowOwn g hg; rw [e, h.own] at h1; cases h1⟩
theorem HeapIn.core_none {w : World} {S : Own} {p : Nat} {m : HM} {vo vf : Value} {os : List Value} (h : HeapIn w S p m vo vf os) {b : Nat} (hb : S b ≠ some 0) (hb1 : S b ≠ some 1) : Own.core p vo b = none := by
  have h1 : ¬ (b = p ∨ vo.ownBlock = some b) := by
    rintro (e | e)
    · exact hb (by rw [e]; exact h.own)
    · exact hb1 (h.rowOwn b e)
  simp [Own.core, h1]
theorem HeapIn.pushed {w0 w w2 : World} {S : Own} {p : Nat} {m : HM} {vo vf : Value} {os : List Value} {x : Value} {o : HObj} {e : Ending} {bs : List Nat} {kd : Nat}
    (h : HeapIn w S p m vo vf os) (hok : m.Ok) (hm : m.many < m.limit) (hf : m.free = []) (hu : m.used + o.size ≤ 1048576)
    (hA : Added (Own.core p vo) w p m.limit m.many m.used o.size kd vo vf os x e w2) (hbs : ∀ b ∈ bs, S b = none ∧ b < w.heap.size) (hw0 : Below w0.heap.size w0 w) (hb0 : ∀ b ∈ bs, w0.heap.size ≤ b) (hobj : ObjAt w (S.with bs (os.length + 3)) (os.length + 3) x o) :
    ∃ S2, e = .returned (.tuple #[.agg #[.int .i64 kd, .int .i64 m.objs.length], .int .i64 0]) ∧ HeapAt w2 S2 p (m.push o) ∧ Turn S w0 w2 S2 ∧ ∀ b, b < w.heap.size → S b = none → b ∉ bs → S2 b = none := by
  obtain ⟨v2, he, hown, hat, hblk, ht⟩ := hA
  have hrow : ∀ g, v2.ownBlock = some g → S g = some 1 ∨ w.heap.size ≤ g := by
    intro g hg
    rcases hat with e1 | ⟨g', e1, e2⟩
    · exact .inl (h.rowOwn g (e1 ▸ hg))
    · rw [e1] at hg; cases hg; exact .inr e2
  have hS2 : ∀ b k, S b = some k → k ≠ 1 → ((S.with bs (os.length + 3)).rowed v2) b = some k := by
    intro b k hk h1
    have hn : ¬ v2.ownBlock = some b := fun e1 => by
      rcases hrow b e1 with h4 | h4
      · rw [hk] at h4; exact h1 (by simpa using h4)
      · have := h.lt b (by rw [hk]; simp); omega
    have hnb : b ∉ bs := fun hb => by have := (hbs b hb).1; rw [hk] at this; cases this
    simp [Own.rowed, Own.with, hn, hnb, hk]
  have hst : ∀ b, b < w.heap.size → S b ≠ some 0 → S b ≠ some 1 → w2.heap[b]? = w.heap[b]? := fun b hb h0 h1 => ht.block b hb (h.core_none h0 h1)
  have hbsn : ∀ b ∈ bs, ¬ v2.ownBlock = some b := fun b hb e1 => by
    obtain ⟨h1, h2⟩ := hbs b hb
    rcases hrow b e1 with h4 | h4
    · rw [h1] at h4; cases h4
    · omega
  have hnew : ∀ b, S.with bs (os.length + 3) b = some (os.length + 3) → w2.heap[b]? = w.heap[b]? ∧ ((S.with bs (os.length + 3)).rowed v2) b = some (os.length + 3) := by
    intro b hb
    by_cases hm : b ∈ bs
    · obtain ⟨h1, h2⟩ := hbs b hm
      exact ⟨hst b h2 (by rw [h1]; simp) (by rw [h1]; simp), by simp [Own.rowed, Own.with, hbsn b hm, hm]⟩
    · have hb' : S b = some (os.length + 3) := by simpa [Own.with, hm] using hb
      exact ⟨hst b (h.lt b (by rw [hb']; simp)) (by rw [hb']; simp) (by rw [hb']; simp), hS2 b _ hb' (by omega)⟩
  refine ⟨(S.with bs (os.length + 3)).rowed v2, ?_, ⟨hok.push o hm hf hu, v2, vf, os ++ [x], ?_⟩, ?_, ?_⟩
  · rw [he, h.len]
  · exact {
      blk := by
        rw [HM.many_push, HM.used_push]
        exact hblk
      own := hS2 p 0 h.own (by omega)
      row := by simpa using hown
      rowOwn := fun g hg => by simp [Own.rowed, hg]
      len := by simp [HM.push, h.len]
      objs := fun i v o' h1 h2 => by
        by_cases hi : i < os.length
        · rw [List.getElem?_append_left hi] at h1
          have h2' : m.objs[i]? = some o' := by
            have : i < m.objs.length := by rw [← h.len]; exact hi
            simpa [HM.push, List.getElem?_append_left this] using h2
          exact (h.objs i v o' h1 h2').keep fun b hb => ⟨hst b (h.lt b (by rw [hb]; simp)) (by rw [hb]; simp) (by rw [hb]; simp), hS2 b _ hb (by omega)⟩
        · have hi2 : i = os.length := by
            have := (List.getElem?_eq_some_iff.1 h1).1
            simp at this
            omega
          subst hi2
          have hv : v = x := by simpa using h1.symm
          have ho : o' = some o := by simpa [HM.push, h.len] using h2.symm
          subst hv; subst ho
          exact ObjAt.keep (S := S.with bs (os.length + 3)) hobj hnew
      fre := owns_keep h.fre fun g hg => hst g (h.lt g (by rw [h.freOwn g hg]; simp)) (by rw [h.freOwn g hg]; simp) (by rw [h.freOwn g hg]; simp)
      freOwn := fun g hg => hS2 g 2 (h.freOwn g hg) (by omega)
      lt := fun b hb => by
        by_cases h1 : v2.ownBlock = some b
        · exact (hown.lt b h1).2
        · by_cases h2 : b ∈ bs
          · exact Nat.lt_of_lt_of_le (hbs b h2).2 ht.size
          · have : S b ≠ none := by simpa [Own.rowed, Own.with, h1, h2] using hb
            exact Nat.lt_of_lt_of_le (h.lt b this) ht.size }
  · have hsz := hw0.size
    refine ⟨ht.os.trans hw0.os, ht.tape.trans hw0.tape, ht.output.trans hw0.output, Nat.le_trans hsz ht.size, fun b hb hs => (hst b (by omega) (by rw [hs]; simp) (by rw [hs]; simp)).trans (hw0.block b hb), fun b hb hs => ?_⟩
    have h1 : ¬ v2.ownBlock = some b := fun e1 => by
      rcases hrow b e1 with h4 | h4
      · rw [hs] at h4; cases h4
      · omega
    have h2 : b ∉ bs := fun hm => by have := hb0 b hm; omega
    simp [Own.rowed, Own.with, h1, h2, hs]
  · intro b hb hs h2
    have h1 : ¬ v2.ownBlock = some b := fun e1 => by
      rcases hrow b e1 with h4 | h4
      · rw [hs] at h4; cases h4
      · omega
    simp [Own.rowed, Own.with, h1, h2, hs]
theorem HeapIn.vf_form {w : World} {S : Own} {p : Nat} {m : HM} {vo vf : Value} {os : List Value} (h : HeapIn w S p m vo vf os) (hf : m.free = []) : ∃ fa c, vf = .slice fa 0 c := by
  have := h.fre
  rw [hf] at this
  rcases this.2 with ⟨h, _⟩ | ⟨g, cap, cur, h, _⟩
  · exact ⟨_, _, h⟩
  · exact ⟨_, _, h⟩

theorem new_yes (n : Nat) (w : World) (h1 : 1 ≤ n) (h2 : n ≤ 65536) :
    Calls Tryz.prog 36 #[.int .i64 n] w fun e w' => e = .returned (.tuple #[.pointer (some ⟨w.heap.size, 0, none⟩), .int .i64 0]) ∧ w' = w.alloc (.cells #[.int .i64 n, .int .i64 0, .int .i64 0, .slice none 0 0, .slice none 0 0] 122) := by
  have d1 : decide ((n : Int) < 1) = false := decide_eq_false (by omega)
  have d2 : decide ((65536 : Int) < (n : Int)) = false := decide_eq_false (by omega)
  go_enter Tryz.func36, Tryz.ntmps36
  go_wp2
  go_ret2
  exact ⟨rfl, rfl⟩
def Own.one (p : Nat) : Own := fun x => if x = p then some 0 else none
theorem new_heap (n : Nat) (w : World) (h1 : 1 ≤ n) (h2 : n ≤ 65536) :
    Calls Tryz.prog 36 #[.int .i64 n] w fun e w' => e = .returned (.tuple #[.pointer (some ⟨w.heap.size, 0, none⟩), .int .i64 0]) ∧ HeapAt w' (Own.one w.heap.size) w.heap.size ⟨n, [], []⟩ ∧ Below w.heap.size w w' := by
  refine (new_yes n w h1 h2).mono fun e w' ⟨he, hw⟩ => ⟨he, ?_, ?_⟩
  · subst hw
    refine ⟨⟨h1, h2, by simp, by simp [HM.used], by simp [HM.many]⟩, .slice none 0 0, .slice none 0 0, [], ?_⟩
    exact {
      blk := Blk.new w _ _
      own := by simp [Own.one]
      row := World.ownsRow_nil _ _ _ _
      rowOwn := fun g hg => by simp [Value.ownBlock] at hg
      len := rfl
      objs := fun i v o h1 => by simp at h1
      fre := World.ownsRow_nil _ _ _ _
      freOwn := fun g hg => by simp [Value.ownBlock] at hg
      lt := fun b hb => by
        by_cases h : b = w.heap.size
        · subst h; simp
        · simp [Own.one, h] at hb }
  · subst hw
    exact (Below.refl _ _).alloc (Nat.le_refl _) _
end Go.Proofs.YtaaebeiigkhcjaaGreatDoor
