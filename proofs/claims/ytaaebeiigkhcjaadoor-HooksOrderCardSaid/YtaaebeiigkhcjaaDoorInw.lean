/-
  slices.Insert of one ranked word ahead of all others as a call of the second memory: whatever room there is, the row goes on under a new number. Conditions: the word's row has just been made.
-/
import Derived.Test.YtaaebeiigkhcjaaDoorIns
import Derived.Test.YtaaebeiigkhcjaaDoorS4
namespace Go.Proofs.YtaaebeiigkhcjaaDoor
open Go.RowKit
set_option maxRecDepth 100000
theorem arel3 {μ : Mu} {a b c : Value} {cargs : Array Value} (h : ARel μ #[a, b, c] cargs) : ∃ a' b' c', cargs = #[a', b', c'] ∧ VRel μ a a' ∧ VRel μ b b' ∧ VRel μ c c' := by
  obtain ⟨hs, hv⟩ := h
  have h3 : cargs.size = 3 := hs.symm
  refine ⟨cargs[0], cargs[1], cargs[2], ?_, hv 0 _ _ rfl (by simp [h3]), hv 1 _ _ rfl (by simp [h3]), hv 2 _ _ rfl (by simp [h3])⟩
  apply Array.ext
  · exact h3
  · intro i h1 h2
    have : i = 0 ∨ i = 1 ∨ i = 2 := by omega
    rcases this with rfl | rfl | rfl <;> rfl
/-- Cells that are set: the block behind it. -/
theorem setCells_row (b : Nat) (t : TypeId) (fz : Nat × Nat) : ∀ (vs : List Value) (o : Nat) (cc : Array Value) (w : World), w.heap[b]? = some (.cells cc t fz) → o + vs.length ≤ cc.size →
    ∃ cc' : Array Value, (w.setCells b o vs).heap[b]? = some (.cells cc' t fz) ∧ cc'.size = cc.size ∧ (∀ i, cc'[i]? = if o ≤ i ∧ i < o + vs.length then vs[i - o]? else cc[i]?) ∧ (w.setCells b o vs).heap.size = w.heap.size ∧
      (∀ B, B ≠ b → (w.setCells b o vs).heap[B]? = w.heap[B]?) ∧ (w.setCells b o vs).os = w.os ∧ (w.setCells b o vs).tape = w.tape ∧ (w.setCells b o vs).output = w.output
  | [], o, cc, w, h, _ => ⟨cc, h, rfl, fun i => by rw [if_neg (by simp only [List.length_nil]; omega)], rfl, fun _ _ => rfl, rfl, rfl, rfl⟩
  | v :: r, o, cc, w, h, hl => by
    simp only [List.length_cons] at hl
    have e := setCell_eq_setRow w b o cc t fz v h
    have h1 := setRow_heap w b cc (cc.setIfInBounds o v) t fz h
    obtain ⟨cc', k1, k2, k3, k4, k5, k6, k7, k8⟩ := setCells_row b t fz r (o + 1) (cc.setIfInBounds o v) (w.setRow b (cc.setIfInBounds o v)) h1 (by simp; omega)
    have ew : w.setCells b o (v :: r) = (w.setRow b (cc.setIfInBounds o v)).setCells b (o + 1) r := by
      show (w.setCell ⟨b, o, none⟩ v).setCells b (o + 1) r = _
      rw [e]
    rw [ew]
    refine ⟨cc', k1, by rw [k2]; simp, fun i => ?_, by rw [k4]; simp [World.setRow], fun B hB => by rw [k5 B hB, setRow_other _ _ _ _ hB], k6, k7, k8⟩
    rw [k3]
    simp only [List.length_cons]
    by_cases h2 : i = o
    · subst h2
      rw [if_neg (by omega), if_pos (by omega), Nat.sub_self]
      simp [show i < cc.size by omega]
    · by_cases h3 : o + 1 ≤ i ∧ i < o + 1 + r.length
      · rw [if_pos h3, if_pos (by omega), show i - o = (i - (o + 1)) + 1 by omega, List.getElem?_cons_succ]
      · rw [if_neg h3, if_neg (by omega), Array.getElem?_setIfInBounds_ne (by omega)]
theorem frozen_off {w : World} {b : Nat} {cc : Array Value} {t : TypeId} {fz : Nat × Nat} (h : w.heap[b]? = some (.cells cc t fz)) (hf : fz = (0, 0) ∨ cc.size ≤ fz.1) {i : Nat} (hi : i < cc.size) : w.frozen? ⟨b, i, none⟩ = false := by
  unfold World.frozen?
  rw [h]
  rcases hf with rfl | h1
  · simp
  · obtain ⟨lo, hi'⟩ := fz
    simp only at h1
    simp
    omega
theorem cell_in {w : World} {b : Nat} {cc : Array Value} {t : TypeId} {fz : Nat × Nat} (h : w.heap[b]? = some (.cells cc t fz)) (i : Nat) : w.cell? ⟨b, i, none⟩ = cc[i]? := by
  simp [World.cell?, h]
section
variable {A : Abs} {F : Nat → Option Blk2} {σ : Mem} {L : List Ent} {G : Nat}
set_option maxHeartbeats 4000000 in
theorem insert_front {v : Value} {n b : Nat} {xs ys : List Value} (hn : 0 < n) (hbig : n ≤ 1000) (hy : ys.length = 3) (h1x : ∀ x ∈ xs, x.oneCell' = true) (h1y : ∀ x ∈ ys, x.oneCell' = true)
    (H : Lies G A F σ (.at_ b (.row ⟨ys, 61, false⟩) :: .sl 61 3 v n xs :: L)) :
    WC G Tryd.prog 27 #[v, .int .i64 0, .slice (some ⟨b, 0, none⟩) 1 1] σ fun r σ' => ∃ v', r = v' ∧ Lies G A F σ' (.at_ b (.row ⟨ys, 61, false⟩) :: .sl 61 3 v' (n + 1) (ys ++ xs) :: L) := by
  have hg := H.sl 1 rfl
  have hb := H.get 0 rfl
  have hbG := H.low 0 rfl
  have hap := (H.apart.1 b rfl).2 _ (List.mem_cons_self ..)
  have hxl := hg.length
  cases hg with
  | nil => cases hn
  | @row q _ c2 r _ hq hr hte hc2 hl hx =>
  have hbq : b ≠ q := fun e => hap (by rw [e]; rfl)
  have hkn : (σ.kill q).next = σ.next := rfl
  refine ⟨.slice (some ⟨σ.next, 0, some 3⟩) (n + 1) (n + 1), (σ.kill q).push (.row ⟨ys ++ xs, 61, true⟩), ⟨Nat.le_succ _, fun μ w cargs hs hG hf har => ?_⟩, _, rfl, ?_⟩
  · have hn0 : μ σ.next = none := hf _ (Nat.le_refl _) (Nat.lt_succ_self _)
    obtain ⟨va, vb, vc, rfl, r1, r2, r3⟩ := arel3 har
    have r2 := flatV_eq rfl r2
    subst r2
    obtain ⟨ci, hci, rfl⟩ := r3.sliceE_inv
    obtain ⟨bi, hbi, _, hsz, r1⟩ := r1.sliceG_inv
    obtain ⟨rfl, hlen⟩ : va = .slice (some ⟨bi.blk, bi.sh + 0, none⟩) n (c2 + bi.r) ∧ 0 + c2 * 3 = bi.len := by
      rcases r1 with h | h | h
      · exact h
      · exact absurd h.1 (by omega)
      · first | exact absurd h.1 (by omega) | (obtain ⟨_, h⟩ := h; exact absurd h.1 (by omega))
    -- the two rows in the world
    have inq := hs.blk q _ bi hr hbi
    obtain ⟨cc, fz, t', hh, hf', hv⟩ := inq.lie
    obtain ⟨rfl, hfz, hcs, _⟩ := hf' (hs.rw_ q _ bi hq hr hbi)
    have inb := hs.blk b _ ci hb hci
    obtain ⟨dd, gz, u', kh, kf', kv⟩ := inb.lie
    obtain ⟨rfl, _, kcs, kg⟩ := kf' (hs.rw_ b _ ci hbG hb hci)
    obtain ⟨k1, k2, rfl⟩ := kg rfl
    have kl : ci.len = 3 := by rw [← inb.len]; exact hy
    have hds : dd.size = 3 := by rw [kcs, k1, k2, kl]; simp
    have hne : ci.blk ≠ bi.blk := fun e => hbq (hs.inj b q _ _ ci bi hb hr hci hbi e (.inl hbG))
    rw [hsz] at hcs
    have hrl : r.cs.length = bi.len := inq.len
    have hcsz : cc.size = bi.sh + (c2 + bi.r) * 3 := by rw [hcs, Nat.add_mul]; omega
    obtain ⟨os, hos⟩ : ∃ os : List Value, os = (cc.toList.drop bi.sh).take (n * 3) := ⟨_, rfl⟩
    have hle : n * 3 ≤ (c2 + bi.r) * 3 := Nat.mul_le_mul_right _ (by omega)
    have hosl : os.length = n * 3 := by rw [hos, List.length_take, List.length_drop, Array.length_toList]; omega
    have hosg : ∀ (j : Nat) y, os[j]? = some y → cc[bi.sh + j]? = some y := fun j y hj => by
      have hjl : j < n * 3 := by rw [← hosl]; exact (List.getElem?_eq_some_iff.1 hj).1
      rw [hos, List.getElem?_take, if_pos hjl, List.getElem?_drop, Array.getElem?_toList] at hj
      exact hj
    have hosx : ∀ (i : Nat) y y', xs[i]? = some y → os[i]? = some y' → VRel μ y y' := fun i y y' e1 e2 => by
      rw [← hx, List.getElem?_take] at e1
      split at e1
      · obtain ⟨y2, g1, g2⟩ := hv i y e1
        rw [hosg i y' e2] at g1
        cases g1
        exact g2
      · cases e1
    have hos1 : ∀ y ∈ os, y.oneCell' = true := fun y hy' => by
      obtain ⟨i, hi, e⟩ := List.mem_iff_getElem.1 hy'
      have hi' : i < xs.length := by rw [hxl]; omega
      have := hosx i xs[i] os[i] (by simp [hi']) (by simp [hi])
      rw [← e, this.one]
      exact h1x _ (List.getElem_mem _)
    obtain ⟨zs, hzs⟩ : ∃ zs : List Value, zs = dd.toList := ⟨_, rfl⟩
    have hzl : zs.length = 3 := by rw [hzs]; simpa using hds
    have hzg : ∀ (j : Nat) y, zs[j]? = some y → w.cell? ⟨ci.blk, 0 + j, none⟩ = some y := fun j y hj => by
      rw [cell_in kh, Nat.zero_add, ← Array.getElem?_toList, ← hzs]; exact hj
    have hzy : ∀ (i : Nat) y y', ys[i]? = some y → zs[i]? = some y' → VRel μ y y' := fun i y y' e1 e2 => by
      obtain ⟨y2, g1, g2⟩ := kv i y e1
      rw [k1, Nat.zero_add, ← Array.getElem?_toList, ← hzs, e2] at g1
      cases g1
      exact g2
    have hz1 : ∀ y ∈ zs, y.oneCell' = true := fun y hy' => by
      obtain ⟨i, hi, e⟩ := List.mem_iff_getElem.1 hy'
      have hi' : i < ys.length := by omega
      have := hzy i ys[i] zs[i] (by simp [hi']) (by simp [hi])
      rw [← e, this.one]
      exact h1y _ (List.getElem_mem _)
    have hrel : ∀ (i : Nat) y, (ys ++ xs)[i]? = some y → ∃ y', (zs ++ os)[i]? = some y' ∧ VRel μ y y' := fun i y e => by
      rcases Nat.lt_or_ge i 3 with h | h
      · rw [List.getElem?_append_left (by omega)] at e
        have hi : i < zs.length := by omega
        exact ⟨zs[i], by rw [List.getElem?_append_left hi]; simp [hi], hzy i y _ e (by simp [hi])⟩
      · rw [List.getElem?_append_right (by omega), hy] at e
        have h2 : i - 3 < xs.length := (List.getElem?_eq_some_iff.1 e).1
        have hi : i - 3 < os.length := by omega
        exact ⟨os[i - 3], by rw [List.getElem?_append_right (by omega), hzl]; simp [hi], hosx (i - 3) y _ e (by simp [hi])⟩
    have hyx : (ys ++ xs).length = (n + 1) * 3 := by rw [List.length_append]; omega
    rw [k1, Nat.add_zero, Nat.add_zero]
    have hosc : ∀ (j : Nat) y, os[j]? = some y → w.cell? ⟨bi.blk, bi.sh + j, none⟩ = some y := fun j y hj => by rw [cell_in hh]; exact hosg j y hj
    rcases Nat.lt_or_ge (c2 + bi.r) (n + 1) with hroom | hroom
    · -- a new row
      refine (insert_grow bi.blk bi.sh n (c2 + bi.r) ci.blk os zs w hn (by omega) hroom (by omega) hosl hzl hosc hzg hos1 hz1).mono ?_
      rintro e w' ⟨ROW, hR, hG2, rfl, rfl⟩
      obtain ⟨g, hgc⟩ : ∃ g, g = grownCap w (n + 1) (c2 + bi.r) 61 := ⟨_, rfl⟩
      rw [← hgc] at hR hG2 ⊢
      have a0 : ((w.alloc (.cells ROW 61)).drew).heap[w.heap.size]? = some (.cells ROW 61 (0, 0)) := by
        show (w.heap.push _)[w.heap.size]? = _
        simp
      obtain ⟨c1, s1, s2, s3, s4, s5, s6, s7, s8⟩ := setCells_row w.heap.size _ _ zs 0 ROW _ a0 (by omega)
      obtain ⟨W1, hW1⟩ : ∃ W1, W1 = ((w.alloc (.cells ROW 61)).drew).setCells w.heap.size 0 zs := ⟨_, rfl⟩
      rw [← hW1] at s1 s4 s5 s6 s7 s8 ⊢
      obtain ⟨c3, u1, u2, u3, u4, u5, u6, u7, u8⟩ := setCells_row w.heap.size _ _ os 3 c1 W1.drew s1 (by omega)
      have hz : (w.alloc (.cells ROW 61)).drew.heap.size = w.heap.size + 1 := by show (w.heap.push _).size = _; simp
      have hst : Stp G σ μ w (σ.push (.row ⟨ys ++ xs, 61, true⟩)) (μ.add σ.next ⟨w.heap.size, 0, (n + 1) * 3, g - (n + 1), 3⟩) (W1.drew.setCells w.heap.size 3 os) := by
        refine Stp.grow hs hG hn0 rfl (show 0 < 3 by decide) (by rw [u4]; show W1.heap.size = _; rw [s4, hz]) (by rw [u6]; show W1.os = _; rw [s6]; rfl) (by rw [u7]; show W1.tape = _; rw [s7]; rfl) (by rw [u8]; show W1.output = _; rw [s8]; rfl) (fun B hB => ?_) fun μ' he => ?_
        · rw [u5 B (by omega)]
          show W1.heap[B]? = _
          rw [s5 B (by omega)]
          show (w.heap.push _)[B]? = _
          rw [Array.getElem?_push_lt hB, Array.getElem?_eq_getElem hB]
        · refine ⟨hyx, c3, (0, 0), _, u1, fun _ => ⟨rfl, .inl rfl, ?_, fun h => by cases h⟩, fun i x hi => ?_⟩
          · rw [u2, s2, hR]
            show g * 3 = 0 + (n + 1) * 3 + (g - (n + 1)) * 3
            omega
          · obtain ⟨y', e1, e2⟩ := hrel i x hi
            refine ⟨y', ?_, e2.ext he⟩
            rw [Nat.zero_add, u3]
            have hil : i < (zs ++ os).length := (List.getElem?_eq_some_iff.1 e1).1
            rw [List.length_append] at hil
            rcases Nat.lt_or_ge i 3 with h | h
            · rw [if_neg (by omega), s3, if_pos (by omega), Nat.sub_zero]
              rwa [List.getElem?_append_left (by omega)] at e1
            · rw [if_pos (by omega)]
              rwa [List.getElem?_append_right (by omega), hzl] at e1
      refine ⟨_, _, rfl, hst.forget ⟨rfl, fun c y hy' => ?_, rfl⟩, ?_⟩
      · rw [Mem.push_get] at hy' ⊢
        rw [hkn] at hy'
        split
        · rename_i e; rw [if_pos e] at hy'; exact hy'
        · rename_i e
          rw [if_neg e, Mem.kill_get] at hy'
          split at hy'
          · cases hy'
          · exact hy'
      · have := mk_grown (μ := μ.add σ.next ⟨w.heap.size, 0, (n + 1) * 3, g - (n + 1), 3⟩) (b := σ.next) (n := n + 1) (Mu.add_at _ _ _) (show 0 < 3 by decide)
        rwa [show n + 1 + (g - (n + 1)) = g by omega] at this
    · -- in place
      have hfit : bi.sh + (n + 1) * 3 ≤ cc.size := by rw [hcsz]; have := Nat.mul_le_mul_right 3 hroom; omega
      have hsb : w.shape? bi.blk = some (r.t, cc.size) := by simp [World.shape?, hh]
      have hsa : w.shape? ci.blk = some (61, dd.size) := by simp [World.shape?, kh]
      have hfb : ∀ i, w.frozen? ⟨ci.blk, i, none⟩ = false := fun i => by unfold World.frozen?; rw [kh]; simp
      refine (insert_room bi.blk bi.sh n (c2 + bi.r) ci.blk os zs w hn (by omega) hroom hne hosl hzl hosc (fun j hj => by rw [cell_in hh, Array.getElem?_eq_getElem (by omega)]; rfl) (fun j hj => frozen_off hh hfz (by omega)) hzg hos1 hz1 _ _ _ _ hsa hsb (by omega) (hfb _) (hfb _)).mono ?_
      rintro e w' ⟨rfl, rfl⟩
      have a0 : w.drew.heap[bi.blk]? = some (.cells cc r.t fz) := hh
      obtain ⟨c1, s1, s2, s3, s4, s5, s6, s7, s8⟩ := setCells_row bi.blk r.t fz os (bi.sh + 3) cc w.drew a0 (by omega)
      obtain ⟨W1, hW1⟩ : ∃ W1, W1 = w.drew.setCells bi.blk (bi.sh + 3) os := ⟨_, rfl⟩
      rw [← hW1] at s1 s4 s5 s6 s7 s8 ⊢
      obtain ⟨c3, u1, u2, u3, u4, u5, u6, u7, u8⟩ := setCells_row bi.blk r.t fz zs bi.sh c1 W1 s1 (by omega)
      have hst : Stp G σ μ w ((σ.kill q).push (.row ⟨ys ++ xs, 61, true⟩)) (μ.add σ.next ⟨bi.blk, bi.sh, (n + 1) * 3, c2 + bi.r - (n + 1), 3⟩) (W1.setCells bi.blk bi.sh zs) := by
        refine Stp.regrow hs hG hn0 hq hr hbi rfl (show 0 < 3 by decide) (by rw [u4, s4]; rfl) (by rw [u6, s6]; rfl) (by rw [u7, s7]; rfl) (by rw [u8, s8]; rfl) (fun B hB => by rw [u5 B hB, s5 B hB]; rfl) fun μ' he => ?_
        refine ⟨hyx, c3, fz, r.t, u1, fun _ => ⟨hte, ?_, ?_, fun h => by cases h⟩, fun i x hi => ?_⟩
        · rw [u2, s2]; exact hfz
        · rw [u2, s2, hcsz]
          show bi.sh + (c2 + bi.r) * 3 = bi.sh + (n + 1) * 3 + (c2 + bi.r - (n + 1)) * 3
          omega
        · obtain ⟨y', e1, e2⟩ := hrel i x hi
          refine ⟨y', ?_, e2.ext he⟩
          show c3[bi.sh + i]? = _
          have hil : i < (zs ++ os).length := (List.getElem?_eq_some_iff.1 e1).1
          rw [List.length_append] at hil
          rw [u3]
          rcases Nat.lt_or_ge i 3 with h | h
          · rw [if_pos (by omega), show bi.sh + i - bi.sh = i by omega]
            rwa [List.getElem?_append_left (by omega)] at e1
          · rw [if_neg (by omega), s3, if_pos (by omega), show bi.sh + i - (bi.sh + 3) = i - 3 by omega]
            rwa [List.getElem?_append_right (by omega), hzl] at e1
      refine ⟨_, _, rfl, hst, ?_⟩
      have := mk_grown (μ := μ.add σ.next ⟨bi.blk, bi.sh, (n + 1) * 3, c2 + bi.r - (n + 1), 3⟩) (b := σ.next) (n := n + 1) (Mu.add_at _ _ _) (show 0 < 3 by decide)
      rwa [show n + 1 + (c2 + bi.r - (n + 1)) = c2 + bi.r by omega] at this
  · refine H.grown 1 rfl (.row (r := ⟨ys ++ xs, 61, true⟩) (c := n + 1) H.gn ?_ rfl ?_ (Nat.le_refl _) ?_) (Nat.le_succ _) rfl (fun c y hy' hne => ?_) fun c hc => ?_
    · have := get_push (σ := σ.kill q) (x := .row ⟨ys ++ xs, 61, true⟩)
      rwa [hkn] at this
    · rw [List.length_append]; omega
    · rw [List.take_of_length_le]
      rw [List.length_append]; omega
    · exact get_push_old (get_kill_ne hy' fun e => hne (by rw [e]; rfl))
    · cases hc
      exact .inr (Nat.le_refl _)
end
end Go.Proofs.YtaaebeiigkhcjaaDoor
