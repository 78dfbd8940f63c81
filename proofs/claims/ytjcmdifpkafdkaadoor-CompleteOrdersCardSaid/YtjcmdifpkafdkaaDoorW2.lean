/-
 Selection of the first least, again and again, is the stable sort. Plain. Conditions: none.
 The reference: Flex. Conditions: none.
-/
import Derived.Test.YtjcmdifpkafdkaaDoorV1
import Derived.Test.YtjcmdifpkafdkaaDoorW1
import Derived.Test.YtjcmdifpkafdkaaDoorCwc
namespace Go.Proofs.YtjcmdifpkafdkaaDoor
set_option maxRecDepth 100000
theorem fm_congr {β α : Type} {f g : β → Option α} : ∀ {l : List β}, (∀ x ∈ l, f x = g x) → l.filterMap f = l.filterMap g
 | [], _ => rfl
 | x :: l, h => by
  rw [List.filterMap_cons, List.filterMap_cons, h x (List.mem_cons_self ..), fm_congr fun y hy => h y (List.mem_cons_of_mem _ hy)]
section
variable {α : Type} {lt : α → α → Bool}
def remV (v : Nat → Option α) (n : Nat) : List α := (List.range n).filterMap v
def BestN (v : Nat → Option α) (i : Nat) : Prop := ∀ k, k < i → v k = none
def BestS (lt : α → α → Bool) (v : Nat → Option α) (i j : Nat) (y : α) : Prop := j < i ∧ v j = some y ∧ ∀ k z, k < i → v k = some z → (k < j → lt y z = true) ∧ (j < k → lt z y = false)
variable {v : Nat → Option α} {i j : Nat} {y z : α}
theorem bestN_skip (h : BestN v i) (k : v i = none) : BestN v (i + 1) := fun q hq => by
 rcases Nat.lt_succ_iff_lt_or_eq.1 hq with hq | rfl
 ·exact h q hq
 ·exact k
theorem bestN_first (h : BestN v i) (k : v i = some y) : BestS lt v (i + 1) i y := by
 refine ⟨Nat.lt_succ_self _, k, fun q z hq hz => ?_⟩
 rcases Nat.lt_succ_iff_lt_or_eq.1 hq with hq | rfl
 ·rw [h q hq] at hz; cases hz
 ·exact ⟨fun h => absurd h (Nat.lt_irrefl _), fun h => absurd h (Nat.lt_irrefl _)⟩
theorem bestS_skip (h : BestS lt v i j y) (k : v i = none) : BestS lt v (i + 1) j y := by
 refine ⟨Nat.lt_succ_of_lt h.1, h.2.1, fun q z hq hz => ?_⟩
 rcases Nat.lt_succ_iff_lt_or_eq.1 hq with hq | rfl
 ·exact h.2.2 q z hq hz
 ·rw [k] at hz; cases hz
theorem bestS_keep (h : BestS lt v i j y) (k : v i = some z) (hl : lt z y = false) : BestS lt v (i + 1) j y := by
 refine ⟨Nat.lt_succ_of_lt h.1, h.2.1, fun q w hq hw => ?_⟩
 rcases Nat.lt_succ_iff_lt_or_eq.1 hq with hq | rfl
 ·exact h.2.2 q w hq hw
 ·rw [k] at hw
  cases hw
  exact ⟨fun hh => absurd hh (by have := h.1; omega), fun _ => hl⟩
theorem bestS_less (ho : WOrd lt) (h : BestS lt v i j y) (k : v i = some z) (hl : lt z y = true) : BestS lt v (i + 1) i z := by
 refine ⟨Nat.lt_succ_self _, k, fun q w hq hw => ?_⟩
 rcases Nat.lt_succ_iff_lt_or_eq.1 hq with hq | rfl
 ·refine ⟨fun _ => ?_, fun hh => absurd hh (by omega)⟩
  have hb := h.2.2 q w hq hw
  rcases Nat.lt_trichotomy q j with e | rfl | e
  ·exact ho.lt_le hl (ho.asymm _ _ (hb.1 e))
  ·rw [h.2.1] at hw; cases hw; exact hl
  ·exact ho.lt_le hl (hb.2 e)
 ·exact ⟨fun hh => absurd hh (Nat.lt_irrefl _), fun hh => absurd hh (Nat.lt_irrefl _)⟩
theorem remV_none {n : Nat} (h : BestN v n) : remV v n = [] := by
 unfold remV
 rw [List.filterMap_eq_nil_iff]
 exact fun k hk => h k (List.mem_range.1 hk)
theorem remV_take (ho : WOrd lt) {v' : Nat → Option α} {n : Nat} (h : BestS lt v n j y) (hn : v' j = none) (hk : ∀ k, k < n → k ≠ j → v' k = v k) : Stab lt (remV v n) (y :: remV v' n) ∧ ∀ z ∈ remV v' n, lt z y = false := by
 obtain ⟨a, b, e⟩ := List.append_of_mem (List.mem_range.2 h.1)
 have hp : (a ++ j :: b).Pairwise (· < ·) := by rw [← e]; exact List.pairwise_lt_range
 have hp := List.pairwise_append.1 hp
 have ha : ∀ k ∈ a, k < j := fun k hk => hp.2.2 k hk j (List.mem_cons_self ..)
 have hb : ∀ k ∈ b, j < k := fun k hk => (List.pairwise_cons.1 hp.2.1).1 k hk
 have hr : ∀ k ∈ a ++ j :: b, k < n := fun k hk => List.mem_range.1 (by rw [e]; exact hk)
 have e1 : remV v n = a.filterMap v ++ y :: b.filterMap v := by
  unfold remV
  rw [e, List.filterMap_append, List.filterMap_cons_some h.2.1]
 have ea : a.filterMap v' = a.filterMap v := by
  refine fm_congr fun k hk' => hk k (hr k (List.mem_append.2 (.inl hk'))) ?_
  have := ha k hk'; omega
 have eb : b.filterMap v' = b.filterMap v := by
  refine fm_congr fun k hk' => hk k (hr k (List.mem_append.2 (.inr (List.mem_cons_of_mem _ hk')))) ?_
  have := hb k hk'; omega
 have e2 : remV v' n = a.filterMap v ++ b.filterMap v := by
  unfold remV
  rw [e, List.filterMap_append, List.filterMap_cons_none hn, ea, eb]
 rw [e1, e2]
 constructor
 ·have hm : ∀ x ∈ a.filterMap v, lt y x = true := fun x hx => by
   obtain ⟨k, hk', hv⟩ := List.mem_filterMap.1 hx
   exact (h.2.2 k x (hr k (List.mem_append.2 (.inl hk'))) hv).1 (ha k hk')
  have := (Stab.move hm).right (b.filterMap v)
  rw [List.append_assoc] at this
  exact this
 ·intro z hz
  rcases List.mem_append.1 hz with hz | hz
  ·obtain ⟨k, hk', hv⟩ := List.mem_filterMap.1 hz
   have h1 := (h.2.2 k z (hr k (List.mem_append.2 (.inl hk'))) hv).1 (ha k hk')
   exact ho.asymm _ _ h1
  ·obtain ⟨k, hk', hv⟩ := List.mem_filterMap.1 hz
   exact (h.2.2 k z (hr k (List.mem_append.2 (.inr (List.mem_cons_of_mem _ hk')))) hv).2 (hb k hk')
structure Taken (lt : α → α → Bool) (xs acc rest : List α) : Prop where
 stab : Stab lt xs (acc ++ rest)
 sor : Sor lt acc
 le : ∀ a ∈ acc, ∀ z ∈ rest, lt z a = false
theorem Taken.start (xs : List α) : Taken lt xs [] xs := ⟨.refl _, List.Pairwise.nil, fun a ha => absurd ha (List.not_mem_nil)⟩
theorem Taken.next {xs acc r r' : List α} (h : Taken lt xs acc r) (k1 : Stab lt r (y :: r')) (k2 : ∀ z ∈ r', lt z y = false) : Taken lt xs (acc ++ [y]) r' := by
 have hy : y ∈ r := k1.mem.1 (List.mem_cons_self ..)
 refine ⟨?_, List.pairwise_append.2 ⟨h.sor, List.pairwise_singleton .., fun a ha b hb => ?_⟩, fun a ha z hz => ?_⟩
 ·have := h.stab.trans (k1.left acc)
  rw [List.append_assoc]
  exact this
 ·rw [List.mem_singleton.1 hb]; exact h.le a ha y hy
 ·rcases List.mem_append.1 ha with ha | ha
  ·exact h.le a ha z (k1.mem.1 (List.mem_cons_of_mem _ hz))
  ·rw [List.mem_singleton.1 ha]; exact k2 z hz
theorem Taken.done (ho : WOrd lt) {xs acc : List α} (h : Taken lt xs acc []) : acc = sortL lt xs := by
 have := h.stab
 rw [List.append_nil] at this
 exact sortL_is ho this h.sor
theorem remV_all {β : Type} {d : β} {f : β → Option α} (xs : List β) : remV (fun k => f (xs.getD k d)) xs.length = xs.filterMap f := by
 unfold remV
 have e : (List.range xs.length).map (fun k => xs.getD k d) = xs := by
  refine List.ext_getElem (by rw [List.length_map, List.length_range]) fun k h1 h2 => ?_
  rw [List.getElem_map, List.getElem_range, List.getD_eq_getElem?_getD, List.getElem?_eq_getElem h2]
  rfl
 conv => rhs; rw [← e]
 rw [List.filterMap_map]
 rfl
end
end Go.Proofs.YtjcmdifpkafdkaaDoor
namespace Go.Proofs.YtjcmdifpkafdkaaDoor
open Go.Lib
set_option maxRecDepth 100000
def bV (b : Bool) : Value := .bool b
theorem bV_at {l : List Bool} {j : Nat} (h : j < l.length) : ((l.map bV).drop j).take 1 = [.bool (l.getD j false)] := by
 rw [List.drop_eq_getElem_cons (by rw [List.length_map]; exact h), List.getElem_map, List.getD_eq_getElem?_getD, List.getElem?_eq_getElem h]
 rfl
theorem bV_set {l : List Bool} {j : Nat} (h : j < l.length) : overL (l.map bV) j [.bool true] = (l.set j true).map bV := by
 rw [List.map_set]
 exact overL_one (by rw [List.length_map]; exact h)
def vF (fold : Bool) (s : List UInt8) (D : List (List UInt8)) (ds : List Bool) (k : Nat) : Option Flx := if ds.getD k false = true then none else oneF fold s (D.getD k [])
theorem vF_done {fold : Bool} {s : List UInt8} {D : List (List UInt8)} {ds : List Bool} {k : Nat} (h : ds.getD k false = true) : vF fold s D ds k = none := if_pos h
theorem vF_none {fold : Bool} {s : List UInt8} {D : List (List UInt8)} {ds : List Bool} {k : Nat} (h : ds.getD k false = false) (e : oneF fold s (D.getD k []) = none) : vF fold s D ds k = none := by
 unfold vF
 rw [if_neg (by rw [h]; exact Bool.noConfusion), e]
theorem vF_some {fold : Bool} {s : List UInt8} {D : List (List UInt8)} {ds : List Bool} {k : Nat} {y : Flx} (h : ds.getD k false = false) (e : oneF fold s (D.getD k []) = some y) : vF fold s D ds k = some y := by
 unfold vF
 rw [if_neg (by rw [h]; exact Bool.noConfusion), e]
theorem vF_set {fold : Bool} {s : List UInt8} {D : List (List UInt8)} {ds : List Bool} {k : Nat} (h : k < ds.length) : vF fold s D (ds.set k true) k = none := by
 unfold vF
 rw [List.getD_eq_getElem?_getD, List.getElem?_set_self h]
 exact if_pos rfl
theorem vF_ne {fold : Bool} {s : List UInt8} {D : List (List UInt8)} {ds : List Bool} {j k : Nat} (h : k ≠ j) : vF fold s D (ds.set j true) k = vF fold s D ds k := by
 unfold vF
 rw [List.getD_eq_getElem?_getD, List.getElem?_set_ne (Ne.symm h), ← List.getD_eq_getElem?_getD]
theorem vF_start {fold : Bool} {s : List UInt8} {D : List (List UInt8)} {n : Nat} : vF fold s D (List.replicate n false) = fun k => oneF fold s (D.getD k []) := funext fun k => by
 unfold vF
 rw [if_neg ?_]
 rw [List.getD_eq_getElem?_getD, List.getElem?_replicate]
 split <;> exact Bool.noConfusion
theorem one_len {fold : Bool} {s x : List UInt8} {y : Flx} (h : oneF fold s x = some y) : y.1 = x ∧ y.2.2.2 = ((runes x).length : Int) := by
 unfold oneF at h
 obtain ⟨p, _, rfl⟩ := Option.map_eq_some_iff.1 h
 exact ⟨rfl, rfl⟩
theorem oV {fold : Bool} {s : List UInt8} {D : List (List UInt8)} {ds : List Bool} {k : Nat} {y : Flx} (h : vF fold s D ds k = some y) : oneF fold s (D.getD k []) = some y := by
 unfold vF at h
 split at h
 ·cases h
 ·exact h
def BestF (v : Nat → Option Flx) (i : Nat) (b gp sq : Int) : Prop := (b = -1 ∧ BestN v i) ∨ (0 ≤ b ∧ ∃ y, BestS ltF v i b.toNat y ∧ gp = y.2.1 ∧ sq = y.2.2.1)
section
variable {v : Nat → Option Flx} {i : Nat} {b gp sq : Int} {z : Flx}
theorem best_some (h : BestF v i b gp sq) (k : ¬ b < 0) : 0 ≤ b ∧ ∃ y, BestS ltF v i b.toNat y ∧ gp = y.2.1 ∧ sq = y.2.2.1 := h.resolve_left fun e => by omega
theorem best_none (h : BestF v i b gp sq) (k : b < 0) : BestN v i := (h.resolve_right fun e => by omega).2
theorem best_skip (h : BestF v i b gp sq) (k : v i = none) : BestF v (i + 1) b gp sq := h.elim (fun e => .inl ⟨e.1, bestN_skip e.2 k⟩) fun ⟨h0, y, hB, e⟩ => .inr ⟨h0, y, bestS_skip hB k, e⟩
theorem best_first (h : BestF v i b gp sq) (k : b < 0) (e : v i = some z) : BestF v (i + 1) (i : Int) z.2.1 z.2.2.1 := .inr ⟨by omega, z, by rw [Int.toNat_natCast]; exact bestN_first (best_none h k) e, rfl, rfl⟩
theorem best_less (h : BestF v i b gp sq) (k : ¬ b < 0) (e : v i = some z) (hl : ∀ y, v b.toNat = some y → gp = y.2.1 → sq = y.2.2.1 → z.2.1 < y.2.1 ∨ (z.2.1 = y.2.1 ∧ (z.2.2.1 < y.2.2.1 ∨ (z.2.2.1 = y.2.2.1 ∧ z.2.2.2 < y.2.2.2)))) : BestF v (i + 1) (i : Int) z.2.1 z.2.2.1 := by
 obtain ⟨h0, y, hB, e1, e2⟩ := best_some h k
 exact .inr ⟨by omega, z, by rw [Int.toNat_natCast]; exact bestS_less ltF_ord hB e (ltF_iff.2 (hl y hB.2.1 e1 e2)), rfl, rfl⟩
theorem best_keep (h : BestF v i b gp sq) (k : ¬ b < 0) (e : v i = some z) (hl : ∀ y, v b.toNat = some y → gp = y.2.1 → sq = y.2.2.1 → ¬ (z.2.1 < y.2.1 ∨ (z.2.1 = y.2.1 ∧ (z.2.2.1 < y.2.2.1 ∨ (z.2.2.1 = y.2.2.1 ∧ z.2.2.2 < y.2.2.2))))) : BestF v (i + 1) b gp sq := by
 obtain ⟨h0, y, hB, e1, e2⟩ := best_some h k
 exact .inr ⟨h0, y, bestS_keep hB e (ltF_no.2 (hl y hB.2.1 e1 e2)), e1, e2⟩
end
section
variable {G : Nat} {A : Abs} {σ : Mem} {F : Nat → Option Blk2} {L : List Ent} {fold : Bool} {l : List (List UInt8)} {s : List UInt8} {v1 : Value}
set_option maxHeartbeats 16000000 in
theorem r_flexR (h1 : SlF F 1 v1 l.length (l.map strV)) (hl : l.length ≤ 1000000) (hsm : ∀ s ∈ l, s.length ≤ 60000) (hs : s.length ≤ 60000) (H : Lies G A F σ L) : WC G Tryd.prog 33 #[v1, .string ⟨s.toArray⟩, .bool fold] σ fun v σ' => ∃ F', Le F F' ∧ SlF F' 1 v (flexC fold l s).length ((flexC fold l s).map strV) ∧ Lies G A F' σ' L := by
 obtain ⟨F0, hF⟩ : ∃ F0, F0 = F := ⟨_, rfl⟩
 have le0 : Le F0 F := fun b y h => hF ▸ h
 rw [← hF] at h1 ⊢
 have hsmM : ∀ x ∈ l, x.length ≤ 1000000 := fun x hx => Nat.le_trans (hsm x hx) (by decide)
 refine WC.enter (fn := Tryd.f33) Tryd.func33 rfl ?_
 refine W.rg [(0, v1), (1, .string ⟨s.toArray⟩), (2, .bool fold)] fun TA => ?_
 refine W.seq (W.region ?_)
 refine RW.v ?_
 refine RW.nil ?_
 refine W.rg [(0, v1), (1, .string ⟨s.toArray⟩), (2, .bool fold)] fun TA => ?_
 refine W.seq (W.region ?_)
 refine RW.v ?_
 refine RW.nil ?_
 refine W.rg [(0, v1), (1, .string ⟨s.toArray⟩), (2, .bool fold), (7, .slice none 0 0)] fun TA => ?_
 refine W.seq ?_
 refine W.seq (W.region ?_)
 refine RW.v ?_
 refine RW.cl ?_
 refine ⟨_, _, (s_rvalid (Nat.le_trans hs (by decide))), ?_⟩
 refine RW.v ?_
 refine RW.nil ?_
 refine W.rg [(0, v1), (1, .string ⟨s.toArray⟩), (2, .bool fold), (7, .slice none 0 0), (20, .bool (!(validD s)))] fun TA => ?_
 refine W.cond rfl (fun hc1 => ?_) (fun hc1 => ?_)
 ·have hc1b := hc1
  have hvs : validD s = false := by simpa using hc1b
  refine W.seq (W.region ?_)
  iterate 2 refine RW.v ?_
  refine RW.nil ?_
  refine W.ret ?_
  refine seqQ_ret ?_
  refine endG (by rfl) (by exact resL_tmp rfl) ?_
  have ea : flexC fold l s = [] := by unfold flexC; rw [if_neg (by rw [hvs]; exact Bool.false_ne_true)]
  rw [ea]
  exact ⟨F, le0, .nil _ rfl, H⟩
 ·have hc1b := hc1
  have hvs : validD s = true := by simpa using hc1b
  refine W.skip ?_
  refine W.seq (W.region ?_)
  refine RW.v ?_
  refine RW.cl ?_
  refine ((r_candidates (h1.le le0) hl hsmM H).mono ?_)
  clear H
  rintro du _ ⟨F, le, hcd, H⟩
  replace le0 := fun b y h => le b y (le0 b y h)
  obtain ⟨D, hD⟩ : ∃ D, D = distM l := ⟨_, rfl⟩
  rw [← hD] at hcd
  have hDl : D.length ≤ 1000000 := by rw [hD]; exact Nat.le_trans (distG_len l []) hl
  have hDm : ∀ x ∈ D, validD x = true ∧ x ∈ l := fun x hx => by rw [hD] at hx; have := distM_mem.1 hx; exact ⟨this.2, this.1⟩
  obtain ⟨FB, hFB⟩ : ∃ FB, FB = F := ⟨_, rfl⟩
  rw [← hFB] at hcd
  have leB : Le FB F := fun b y h => hFB ▸ h
  have hrem : remV (vF fold s D (List.replicate D.length false)) D.length = flexM fold l s := by rw [vF_start]; unfold flexM; rw [← hD]; exact remV_all (d := []) (f := oneF fold s) D
  have hfl : (flexM fold l s).length ≤ D.length := by unfold flexM; rw [← hD]; exact List.length_filterMap_le ..
  refine RW.v ?_
  refine RW.nil ?_
  refine W.rg [(1, .string ⟨s.toArray⟩), (2, .bool fold), (7, .slice none 0 0), (8, du)] fun TA => ?_
  refine W.seq (W.region ?_)
  refine RW.v ?_
  refine RW.len (by kernel_rfl) (by kernel_rfl) rfl rfl rfl rfl ((hcd.le leB).len (e := 9) (by kernel_rfl)) (by kernel_rfl) ?_
  refine RW.mkS H (e := 4) (n := D.length) (z := .bool false) (by kernel_rfl) (by kernel_rfl) rfl rfl rfl (by kernel_rfl) (by kernel_rfl) (by kernel_rfl) (by kernel_rfl) rfl rfl (by omega) (by kernel_rfl) rfl ?_
  clear H; intro _ bd H
  refine RW.v ?_
  refine RW.nil ?_
  refine W.rg [(1, .string ⟨s.toArray⟩), (2, .bool fold), (7, .slice none 0 0), (8, du), (9, .slice (some ⟨bd, 0, none⟩) D.length D.length)] fun TA => ?_
  refine W.block ?_
  replace H := H.nilSl 9 1
  rw [show List.replicate D.length (Value.bool false) = (List.replicate D.length false).map bV by rw [List.map_replicate]; rfl] at H
  refine W.loop (fun mm ta σ => ∃ (ds : List Bool) (acc : List Flx) (u : Value), ((remV (vF fold s D ds) D.length).length ≤ mm) ∧ (acc.length + (remV (vF fold s D ds) D.length).length ≤ 1000000) ∧ (ds.length = D.length) ∧ (Taken ltF (flexM fold l s) acc (remV (vF fold s D ds) D.length)) ∧ Lies G A F σ (.sl 9 1 u acc.length ((acc.map (·.1)).map strV) :: .at_ bd (.row ⟨ds.map bV, 4, false⟩) :: (L)) ∧ ta 1 = .string ⟨s.toArray⟩ ∧ ta 2 = .bool fold ∧ ta 7 = u ∧ ta 8 = du ∧ ta 9 = .slice (some ⟨bd, 0, none⟩) D.length D.length) D.length ?_ ?_
  ·exact ⟨(List.replicate D.length false), [], .slice none 0 0, (hrem ▸ hfl), (by rw [hrem, List.length_nil]; omega), (List.length_replicate ..), (by rw [hrem]; exact Taken.start _), H, rfl, rfl, rfl, rfl, rfl⟩
  clear H
  rintro mm ta _ ⟨ds, acc, u, hm, hlen, hds, hTk, H, e1, e2, e7, e8, e9⟩
  refine W.rst [(1, .string ⟨s.toArray⟩), (2, .bool fold), (7, u), (8, du), (9, .slice (some ⟨bd, 0, none⟩) D.length D.length)] ⟨e1, e2, e7, e8, e9, trivial⟩ fun TA => ?_
  clear e1 e2 e7 e8 e9
  refine W.block ?_
  refine W.seq (W.region ?_)
  iterate 3 refine RW.v ?_
  refine RW.nil ?_
  refine W.rg [(1, .string ⟨s.toArray⟩), (2, .bool fold), (7, u), (8, du), (9, .slice (some ⟨bd, 0, none⟩) D.length D.length), (10, .int .i64 (-1)), (11, .int .i64 0), (12, .int .i64 0)] fun TA => ?_
  refine W.seq ?_
  refine W.seq (W.region ?_)
  refine RW.v ?_
  refine RW.nil ?_
  refine W.rg [(1, .string ⟨s.toArray⟩), (2, .bool fold), (7, u), (8, du), (9, .slice (some ⟨bd, 0, none⟩) D.length D.length), (10, .int .i64 (-1)), (11, .int .i64 0), (12, .int .i64 0), (13, .int .i64 0)] fun TA => ?_
  refine W.block ?_
  refine W.loop (fun mmi ta σ => ∃ (i : Nat) (b : Int) (gp : Int) (sq : Int), (mmi + i = D.length) ∧ (BestF (vF fold s D ds) i b gp sq) ∧ Lies G A F σ (.sl 9 1 u acc.length ((acc.map (·.1)).map strV) :: .at_ bd (.row ⟨ds.map bV, 4, false⟩) :: (L)) ∧ ta 1 = .string ⟨s.toArray⟩ ∧ ta 2 = .bool fold ∧ ta 7 = u ∧ ta 8 = du ∧ ta 9 = .slice (some ⟨bd, 0, none⟩) D.length D.length ∧ ta 10 = .int .i64 b ∧ ta 11 = .int .i64 gp ∧ ta 12 = .int .i64 sq ∧ ta 13 = .int .i64 ((i : Nat) : Int)) D.length ?_ ?_
  ·exact ⟨0, (-1), 0, 0, (by omega), (.inl ⟨rfl, fun k hk => absurd hk (Nat.not_lt_zero _)⟩), H, rfl, rfl, rfl, rfl, rfl, rfl, rfl, rfl, rfl⟩
  clear H
  rintro mmi ta _ ⟨i, b, gp, sq, hmi, hbb, H, e1, e2, e7, e8, e9, e10, e11, e12, e13⟩
  refine W.rst [(1, .string ⟨s.toArray⟩), (2, .bool fold), (7, u), (8, du), (9, .slice (some ⟨bd, 0, none⟩) D.length D.length), (10, .int .i64 b), (11, .int .i64 gp), (12, .int .i64 sq), (13, .int .i64 ((i : Nat) : Int))] ⟨e1, e2, e7, e8, e9, e10, e11, e12, e13, trivial⟩ fun TA => ?_
  clear e1 e2 e7 e8 e9 e10 e11 e12 e13
  have leB : Le FB F := fun b y h => hFB ▸ h
  refine W.seq ?_
  refine W.seq (W.region ?_)
  iterate 2 refine RW.v ?_
  refine RW.len (by kernel_rfl) (by kernel_rfl) rfl rfl rfl rfl ((hcd.le leB).len (e := 9) (by kernel_rfl)) (by kernel_rfl) ?_
  refine RW.v ?_
  refine RW.nil ?_
  refine W.rg [(1, .string ⟨s.toArray⟩), (2, .bool fold), (7, u), (8, du), (9, .slice (some ⟨bd, 0, none⟩) D.length D.length), (10, .int .i64 b), (11, .int .i64 gp), (12, .int .i64 sq), (13, .int .i64 ((i : Nat) : Int)), (30, .bool (decide (((i : Nat) : Int) < (D.length : Int))))] fun TA => ?_
  refine W.cond rfl (fun hc2 => ?_) (fun hc2 => ?_)
  ·have hc2b := hc2
   have hc2 := of_decide_eq_true hc2
   have hil : i < D.length := by omega
   have hXd := hDm _ (mem_of (l := D) (j := i) hil)
   refine W.skip ?_
   refine W.seq ?_
   refine W.block ?_
   refine W.seq (W.region ?_)
   iterate 2 refine RW.v ?_
   refine RW.idxF (hcd.le leB) (by kernel_rfl) (by kernel_rfl) rfl Tryd.underlying22 (by kernel_rfl) rfl rfl ⟨by omega, by omega⟩ (by kernel_rfl) ?_
   intro b3 q4 r5 hF6 hE7
   rw [strs_at (l := D) (j := i) (i := ((i : Nat) : Int)) (by omega) (by omega)] at hE7
   refine RW.loads 1 (by kernel_rfl) (by kernel_rfl) rfl rfl (H.old _ _ hF6) hE7 rfl (by kernel_rfl) ?_
   refine RW.cl ?_
   refine ((r_chars (hsmM _ hXd.2) H).mono ?_)
   clear H
   rintro cu8 _ ⟨F, _, le, rfl, hu9, H⟩
   replace leB := fun b y h => le b y (leB b y h)
   rw [chars_yes hXd.1] at hu9
   refine RW.v ?_
   refine RW.cl ?_
   refine ((r_chars (Nat.le_trans hs (by decide)) H).mono ?_)
   clear H
   rintro cu10 _ ⟨F, _, le, rfl, hu11, H⟩
   replace leB := fun b y h => le b y (leB b y h)
   replace hu9 := hu9.le le
   rw [chars_yes hvs] at hu11
   refine RW.v ?_
   refine RW.cl ?_
   refine ((r_flex1 (fold := fold) hu9.slf hu11.slf (Nat.le_trans (runes_le _) (hsmM _ hXd.2)) (Nat.le_trans (runes_le _) (Nat.le_trans hs (by decide))) H).mono ?_)
   clear H
   rintro _ _ ⟨rfl, H⟩
   obtain ⟨p, hp⟩ : ∃ p, p = subC fold (runes (D.getD i [])) (runes s) := ⟨_, rfl⟩
   rw [← hp]
   iterate 7 refine RW.v ?_
   refine RW.nil ?_
   refine W.rg [(1, .string ⟨s.toArray⟩), (2, .bool fold), (7, u), (8, du), (9, .slice (some ⟨bd, 0, none⟩) D.length D.length), (10, .int .i64 b), (11, .int .i64 gp), (12, .int .i64 sq), (13, .int .i64 ((i : Nat) : Int)), (14, .bool p.isSome), (15, .int .i64 ((p.getD (0, 0)).1)), (16, .int .i64 ((p.getD (0, 0)).2))] fun TA => ?_
   refine W.seq ?_
   refine W.seq (W.region ?_)
   iterate 2 refine RW.v ?_
   refine RW.idxE (s := 1) (by kernel_rfl) (by kernel_rfl) rfl Tryd.underlying90 (by kernel_rfl) rfl rfl ⟨by omega, by omega⟩ (by kernel_rfl) ?_
   intro q12 q12e
   have q12j : q12 = i := by rw [q12e]; omega
   rw [q12j]
   clear q12e q12j
   refine RW.ldL H 1 1 (cs := [.bool (ds.getD i false)]) (v := .bool (ds.getD i false)) (by kernel_rfl) (by kernel_rfl) rfl rfl rfl (bV_at (show i < ds.length by omega)) (by kernel_rfl) (by kernel_rfl) ?_
   refine RW.v ?_
   refine RW.both _ _ rfl rfl rfl (fun hc13 => ?_) (fun hc13 => ?_)
   ·have hc13b := hc13
    iterate 2 refine RW.s ?_
    refine RW.v ?_
    refine RW.nil ?_
    refine W.c1 ?_
    refine W.exit _ ?_
    refine seqQ_exit ?_
    refine blkQ_here ?_
    refine W.region ?_
    refine RW.v ?_
    refine RW.valE (v' := .int .i64 (((i : Nat) : Int) + 1)) (by kernel_rfl) (by kernel_rfl) rfl (congrArg (Value.int .i64) (wrap_in (by omega) (by omega))) (by kernel_rfl) ?_
    refine RW.v ?_
    refine RW.nil ?_
    replace H := H.back leB
    rw [hFB] at H
    exact ⟨rfl, mmi - 1, by omega, i + 1, b, gp, sq, (by omega), (best_skip hbb (show vF fold s D ds i = none from vF_done hc13b)), H, rfl, rfl, rfl, rfl, rfl, rfl, rfl, rfl, rfl⟩
   ·have hc13b := hc13
    iterate 2 refine RW.w ?_
    refine RW.v ?_
    refine RW.nil ?_
    refine W.rg [(1, .string ⟨s.toArray⟩), (2, .bool fold), (7, u), (8, du), (9, .slice (some ⟨bd, 0, none⟩) D.length D.length), (10, .int .i64 b), (11, .int .i64 gp), (12, .int .i64 sq), (13, .int .i64 ((i : Nat) : Int)), (15, .int .i64 ((p.getD (0, 0)).1)), (16, .int .i64 ((p.getD (0, 0)).2)), (53, .bool (!p.isSome))] fun TA => ?_
    refine W.cond rfl (fun hc14 => ?_) (fun hc14 => ?_)
    ·have hc14b := hc14
     have hc14e : p.isSome = false := by simpa using hc14b
     refine W.exit _ ?_
     refine seqQ_exit ?_
     refine blkQ_here ?_
     refine W.region ?_
     refine RW.v ?_
     refine RW.valE (v' := .int .i64 (((i : Nat) : Int) + 1)) (by kernel_rfl) (by kernel_rfl) rfl (congrArg (Value.int .i64) (wrap_in (by omega) (by omega))) (by kernel_rfl) ?_
     refine RW.v ?_
     refine RW.nil ?_
     replace H := H.back leB
     rw [hFB] at H
     exact ⟨rfl, mmi - 1, by omega, i + 1, b, gp, sq, (by omega), (best_skip hbb (show vF fold s D ds i = none from vF_none hc13b (one_none hp hc14e))), H, rfl, rfl, rfl, rfl, rfl, rfl, rfl, rfl, rfl⟩
    ·have hc14b := hc14
     have hc14e : p.isSome = true := by simpa using hc14b
     refine W.skip ?_
     refine W.seq (W.region ?_)
     iterate 2 refine RW.v ?_
     refine RW.idxF (hcd.le leB) (by kernel_rfl) (by kernel_rfl) rfl Tryd.underlying22 (by kernel_rfl) rfl rfl ⟨by omega, by omega⟩ (by kernel_rfl) ?_
     intro b15 q16 r17 hF18 hE19
     rw [strs_at (l := D) (j := i) (i := ((i : Nat) : Int)) (by omega) (by omega)] at hE19
     refine RW.loads 1 (by kernel_rfl) (by kernel_rfl) rfl rfl (H.old _ _ hF18) hE19 rfl (by kernel_rfl) ?_
     refine RW.cl ?_
     refine ((r_chars (hsmM _ hXd.2) H).mono ?_)
     clear H
     rintro cu20 _ ⟨F, _, le, rfl, hu21, H⟩
     replace leB := fun b y h => le b y (leB b y h)
     replace hu9 := hu9.le le
     replace hu11 := hu11.le le
     rw [chars_yes hXd.1] at hu21
     refine RW.len (by kernel_rfl) (by kernel_rfl) rfl rfl rfl rfl (hu21.slf.len (e := 3) (by kernel_rfl)) (by kernel_rfl) ?_
     refine RW.v ?_
     refine RW.nil ?_
     refine W.rg [(1, .string ⟨s.toArray⟩), (2, .bool fold), (7, u), (8, du), (9, .slice (some ⟨bd, 0, none⟩) D.length D.length), (10, .int .i64 b), (11, .int .i64 gp), (12, .int .i64 sq), (13, .int .i64 ((i : Nat) : Int)), (15, .int .i64 ((p.getD (0, 0)).1)), (16, .int .i64 ((p.getD (0, 0)).2)), (17, .int .i64 ((runes (D.getD i [])).length : Int))] fun TA => ?_
     refine W.seq (W.region ?_)
     iterate 3 refine RW.v ?_
     refine RW.both _ _ rfl rfl rfl (fun hc22 => ?_) (fun hc22 => ?_)
     ·have hc22b := hc22
      have hc22 := of_decide_eq_true hc22
      have hcneg := hc22
      iterate 3 refine RW.s ?_
      iterate 2 refine RW.v ?_
      iterate 8 refine RW.s ?_
      iterate 2 refine RW.v ?_
      iterate 18 refine RW.s ?_
      refine RW.v ?_
      refine RW.nil ?_
      refine W.c1 ?_
      refine W.region ?_
      iterate 6 refine RW.v ?_
      refine RW.nil ?_
      refine blkQ_normal ?_
      refine W.rg [(1, .string ⟨s.toArray⟩), (2, .bool fold), (7, u), (8, du), (9, .slice (some ⟨bd, 0, none⟩) D.length D.length), (10, .int .i64 ((i : Nat) : Int)), (11, .int .i64 ((p.getD (0, 0)).1)), (12, .int .i64 ((p.getD (0, 0)).2)), (13, .int .i64 ((i : Nat) : Int))] fun TA => ?_
      refine W.region ?_
      refine RW.v ?_
      refine RW.valE (v' := .int .i64 (((i : Nat) : Int) + 1)) (by kernel_rfl) (by kernel_rfl) rfl (congrArg (Value.int .i64) (wrap_in (by omega) (by omega))) (by kernel_rfl) ?_
      refine RW.v ?_
      refine RW.nil ?_
      replace H := H.back leB
      rw [hFB] at H
      exact ⟨rfl, mmi - 1, by omega, i + 1, (i : Int), (p.getD (0, 0)).1, (p.getD (0, 0)).2, (by omega), (best_first hbb hcneg (show vF fold s D ds i = some ((D.getD i []), (p.getD (0, 0)).1, (p.getD (0, 0)).2, ((runes (D.getD i [])).length : Int)) from vF_some hc13b (one_some hp hc14e))), H, rfl, rfl, rfl, rfl, rfl, rfl, rfl, rfl, rfl⟩
     ·have hc22b := hc22
      have hc22 := of_decide_eq_false hc22
      have hcneg := hc22
      obtain ⟨hb0, y, hB, hyg, hys⟩ := best_some hbb hcneg
      have hbl : b.toNat < D.length := by have := hB.1; omega
      have hXb := hDm _ (mem_of (l := D) (j := b.toNat) hbl)
      have hyn := (one_len (oV hB.2.1)).2
      iterate 3 refine RW.w ?_
      iterate 2 refine RW.v ?_
      refine RW.both _ _ rfl rfl rfl (fun hc23 => ?_) (fun hc23 => ?_)
      ·have hc23b := hc23
       have hc23 := of_decide_eq_true hc23
       iterate 8 refine RW.s ?_
       iterate 2 refine RW.v ?_
       iterate 18 refine RW.s ?_
       refine RW.v ?_
       refine RW.nil ?_
       refine W.c1 ?_
       refine W.region ?_
       iterate 6 refine RW.v ?_
       refine RW.nil ?_
       refine blkQ_normal ?_
       refine W.rg [(1, .string ⟨s.toArray⟩), (2, .bool fold), (7, u), (8, du), (9, .slice (some ⟨bd, 0, none⟩) D.length D.length), (10, .int .i64 ((i : Nat) : Int)), (11, .int .i64 ((p.getD (0, 0)).1)), (12, .int .i64 ((p.getD (0, 0)).2)), (13, .int .i64 ((i : Nat) : Int))] fun TA => ?_
       refine W.region ?_
       refine RW.v ?_
       refine RW.valE (v' := .int .i64 (((i : Nat) : Int) + 1)) (by kernel_rfl) (by kernel_rfl) rfl (congrArg (Value.int .i64) (wrap_in (by omega) (by omega))) (by kernel_rfl) ?_
       refine RW.v ?_
       refine RW.nil ?_
       replace H := H.back leB
       rw [hFB] at H
       exact ⟨rfl, mmi - 1, by omega, i + 1, (i : Int), (p.getD (0, 0)).1, (p.getD (0, 0)).2, (by omega), (best_less hbb hcneg (show vF fold s D ds i = some ((D.getD i []), (p.getD (0, 0)).1, (p.getD (0, 0)).2, ((runes (D.getD i [])).length : Int)) from vF_some hc13b (one_some hp hc14e)) (fun y2 hy2 e1 e2 => by have hn := (one_len (oV hy2)).2; dsimp only; omega)), H, rfl, rfl, rfl, rfl, rfl, rfl, rfl, rfl, rfl⟩
      ·have hc23b := hc23
       have hc23 := of_decide_eq_false hc23
       iterate 4 refine RW.w ?_
       refine RW.both _ _ rfl rfl rfl (fun hc24 => ?_) (fun hc24 => ?_)
       ·have hc24b := hc24
        have hc24 := eq_of_beq hc24
        iterate 4 refine RW.w ?_
        iterate 2 refine RW.v ?_
        refine RW.both _ _ rfl rfl rfl (fun hc25 => ?_) (fun hc25 => ?_)
        ·have hc25b := hc25
         have hc25 := of_decide_eq_true hc25
         iterate 18 refine RW.s ?_
         refine RW.v ?_
         refine RW.nil ?_
         refine W.c1 ?_
         refine W.region ?_
         iterate 6 refine RW.v ?_
         refine RW.nil ?_
         refine blkQ_normal ?_
         refine W.rg [(1, .string ⟨s.toArray⟩), (2, .bool fold), (7, u), (8, du), (9, .slice (some ⟨bd, 0, none⟩) D.length D.length), (10, .int .i64 ((i : Nat) : Int)), (11, .int .i64 ((p.getD (0, 0)).1)), (12, .int .i64 ((p.getD (0, 0)).2)), (13, .int .i64 ((i : Nat) : Int))] fun TA => ?_
         refine W.region ?_
         refine RW.v ?_
         refine RW.valE (v' := .int .i64 (((i : Nat) : Int) + 1)) (by kernel_rfl) (by kernel_rfl) rfl (congrArg (Value.int .i64) (wrap_in (by omega) (by omega))) (by kernel_rfl) ?_
         refine RW.v ?_
         refine RW.nil ?_
         replace H := H.back leB
         rw [hFB] at H
         exact ⟨rfl, mmi - 1, by omega, i + 1, (i : Int), (p.getD (0, 0)).1, (p.getD (0, 0)).2, (by omega), (best_less hbb hcneg (show vF fold s D ds i = some ((D.getD i []), (p.getD (0, 0)).1, (p.getD (0, 0)).2, ((runes (D.getD i [])).length : Int)) from vF_some hc13b (one_some hp hc14e)) (fun y2 hy2 e1 e2 => by have hn := (one_len (oV hy2)).2; dsimp only; omega)), H, rfl, rfl, rfl, rfl, rfl, rfl, rfl, rfl, rfl⟩
        ·have hc25b := hc25
         have hc25 := of_decide_eq_false hc25
         iterate 2 refine RW.w ?_
         refine RW.valE (v' := .bool true) (by rfl) (by kernel_rfl) rfl (congrArg Value.bool (beq_iff_eq.2 (by omega))) (by kernel_rfl) ?_
         iterate 6 refine RW.w ?_
         refine RW.both _ _ rfl rfl rfl (fun hc26 => ?_) (fun hc26 => ?_)
         ·have hc26b := hc26
          have hc26 := eq_of_beq hc26
          iterate 3 refine RW.w ?_
          refine RW.idxF (hcd.le leB) (by rfl) (by kernel_rfl) rfl Tryd.underlying22 (by kernel_rfl) rfl rfl ⟨by omega, by omega⟩ (by kernel_rfl) ?_
          intro b27 q28 r29 hF30 hE31
          rw [strs_at (l := D) (j := (b).toNat) (i := b) (by omega) (by omega)] at hE31
          refine RW.loads 1 (by rfl) (by kernel_rfl) rfl rfl (H.old _ _ hF30) hE31 rfl (by kernel_rfl) ?_
          refine RW.cl (hw := by rfl) ?_
          refine ((r_chars (hsmM _ hXb.2) H).mono ?_)
          clear H
          rintro cu32 _ ⟨F, _, le, rfl, hu33, H⟩
          replace leB := fun b y h => le b y (leB b y h)
          replace hu9 := hu9.le le
          replace hu11 := hu11.le le
          replace hu21 := hu21.le le
          rw [chars_yes hXb.1] at hu33
          refine RW.len (by rfl) (by kernel_rfl) rfl rfl rfl rfl (hu33.slf.len (e := 3) (by kernel_rfl)) (by kernel_rfl) ?_
          iterate 2 refine RW.w ?_
          refine RW.v ?_
          refine RW.nil ?_
          refine W.rg [(1, .string ⟨s.toArray⟩), (2, .bool fold), (7, u), (8, du), (9, .slice (some ⟨bd, 0, none⟩) D.length D.length), (10, .int .i64 b), (11, .int .i64 gp), (12, .int .i64 sq), (13, .int .i64 ((i : Nat) : Int)), (15, .int .i64 ((p.getD (0, 0)).1)), (16, .int .i64 ((p.getD (0, 0)).2)), (96, .bool (decide (((runes (D.getD i [])).length : Int) < ((runes (D.getD ((b).toNat) [])).length : Int))))] fun TA => ?_
          refine W.cond rfl (fun hc34 => ?_) (fun hc34 => ?_)
          ·have hc34b := hc34
           have hc34 := of_decide_eq_true hc34
           refine W.region ?_
           iterate 6 refine RW.v ?_
           refine RW.nil ?_
           refine blkQ_normal ?_
           refine W.rg [(1, .string ⟨s.toArray⟩), (2, .bool fold), (7, u), (8, du), (9, .slice (some ⟨bd, 0, none⟩) D.length D.length), (10, .int .i64 ((i : Nat) : Int)), (11, .int .i64 ((p.getD (0, 0)).1)), (12, .int .i64 ((p.getD (0, 0)).2)), (13, .int .i64 ((i : Nat) : Int))] fun TA => ?_
           refine W.region ?_
           refine RW.v ?_
           refine RW.valE (v' := .int .i64 (((i : Nat) : Int) + 1)) (by kernel_rfl) (by kernel_rfl) rfl (congrArg (Value.int .i64) (wrap_in (by omega) (by omega))) (by kernel_rfl) ?_
           refine RW.v ?_
           refine RW.nil ?_
           replace H := H.back leB
           rw [hFB] at H
           exact ⟨rfl, mmi - 1, by omega, i + 1, (i : Int), (p.getD (0, 0)).1, (p.getD (0, 0)).2, (by omega), (best_less hbb hcneg (show vF fold s D ds i = some ((D.getD i []), (p.getD (0, 0)).1, (p.getD (0, 0)).2, ((runes (D.getD i [])).length : Int)) from vF_some hc13b (one_some hp hc14e)) (fun y2 hy2 e1 e2 => by have hn := (one_len (oV hy2)).2; dsimp only; omega)), H, rfl, rfl, rfl, rfl, rfl, rfl, rfl, rfl, rfl⟩
          ·have hc34b := hc34
           have hc34 := of_decide_eq_false hc34
           refine W.skip ?_
           refine blkQ_normal ?_
           refine W.region ?_
           refine RW.v ?_
           refine RW.valE (v' := .int .i64 (((i : Nat) : Int) + 1)) (by kernel_rfl) (by kernel_rfl) rfl (congrArg (Value.int .i64) (wrap_in (by omega) (by omega))) (by kernel_rfl) ?_
           refine RW.v ?_
           refine RW.nil ?_
           replace H := H.back leB
           rw [hFB] at H
           exact ⟨rfl, mmi - 1, by omega, i + 1, b, gp, sq, (by omega), (best_keep hbb hcneg (show vF fold s D ds i = some ((D.getD i []), (p.getD (0, 0)).1, (p.getD (0, 0)).2, ((runes (D.getD i [])).length : Int)) from vF_some hc13b (one_some hp hc14e)) (fun y2 hy2 e1 e2 => by have hn := (one_len (oV hy2)).2; dsimp only; omega)), H, rfl, rfl, rfl, rfl, rfl, rfl, rfl, rfl, rfl⟩
         ·have hc26b := hc26
          have hc26 := ne_of_beq_false hc26
          iterate 8 refine RW.s ?_
          refine RW.w ?_
          refine RW.v ?_
          refine RW.nil ?_
          refine W.c0 ?_
          refine W.skip ?_
          refine blkQ_normal ?_
          refine W.region ?_
          refine RW.v ?_
          refine RW.valE (v' := .int .i64 (((i : Nat) : Int) + 1)) (by kernel_rfl) (by kernel_rfl) rfl (congrArg (Value.int .i64) (wrap_in (by omega) (by omega))) (by kernel_rfl) ?_
          refine RW.v ?_
          refine RW.nil ?_
          replace H := H.back leB
          rw [hFB] at H
          exact ⟨rfl, mmi - 1, by omega, i + 1, b, gp, sq, (by omega), (best_keep hbb hcneg (show vF fold s D ds i = some ((D.getD i []), (p.getD (0, 0)).1, (p.getD (0, 0)).2, ((runes (D.getD i [])).length : Int)) from vF_some hc13b (one_some hp hc14e)) (fun y2 hy2 e1 e2 => by have hn := (one_len (oV hy2)).2; dsimp only; omega)), H, rfl, rfl, rfl, rfl, rfl, rfl, rfl, rfl, rfl⟩
       ·have hc24b := hc24
        have hc24 := ne_of_beq_false hc24
        iterate 3 refine RW.s ?_
        refine RW.w ?_
        iterate 2 refine RW.v ?_
        iterate 2 refine RW.w ?_
        refine RW.valE (v' := .bool false) (by rfl) (by kernel_rfl) rfl (congrArg Value.bool (beq_eq_false_iff_ne.2 (by omega))) (by kernel_rfl) ?_
        refine RW.w ?_
        iterate 3 refine RW.s ?_
        iterate 2 refine RW.w ?_
        iterate 8 refine RW.s ?_
        refine RW.w ?_
        refine RW.v ?_
        refine RW.nil ?_
        refine W.c0 ?_
        refine W.skip ?_
        refine blkQ_normal ?_
        refine W.region ?_
        refine RW.v ?_
        refine RW.valE (v' := .int .i64 (((i : Nat) : Int) + 1)) (by kernel_rfl) (by kernel_rfl) rfl (congrArg (Value.int .i64) (wrap_in (by omega) (by omega))) (by kernel_rfl) ?_
        refine RW.v ?_
        refine RW.nil ?_
        replace H := H.back leB
        rw [hFB] at H
        exact ⟨rfl, mmi - 1, by omega, i + 1, b, gp, sq, (by omega), (best_keep hbb hcneg (show vF fold s D ds i = some ((D.getD i []), (p.getD (0, 0)).1, (p.getD (0, 0)).2, ((runes (D.getD i [])).length : Int)) from vF_some hc13b (one_some hp hc14e)) (fun y2 hy2 e1 e2 => by have hn := (one_len (oV hy2)).2; dsimp only; omega)), H, rfl, rfl, rfl, rfl, rfl, rfl, rfl, rfl, rfl⟩
  ·have hc2b := hc2
   have hc2 := of_decide_eq_false hc2
   refine W.exit _ ?_
   refine seqQ_exit ?_
   refine rndQ_exit ?_
   have hi0 : i = D.length := by omega
   rw [hi0] at hbb
   refine blkQ_here ?_
   refine W.seq ?_
   refine W.seq (W.region ?_)
   iterate 2 refine RW.v ?_
   refine RW.nil ?_
   refine W.rg [(1, .string ⟨s.toArray⟩), (2, .bool fold), (7, u), (8, du), (9, .slice (some ⟨bd, 0, none⟩) D.length D.length), (10, .int .i64 b), (101, .bool (decide (b < 0)))] fun TA => ?_
   refine W.cond rfl (fun hc35 => ?_) (fun hc35 => ?_)
   ·have hc35b := hc35
    have hc35 := of_decide_eq_true hc35
    have hcneg := hc35
    refine W.seq (W.region ?_)
    iterate 2 refine RW.v ?_
    refine RW.nil ?_
    replace H := (H.del 1)
    dsimp only [setL, delL] at H
    refine W.ret ?_
    refine seqQ_ret ?_
    refine blkQ_ret ?_
    refine rndQ_ret ?_
    refine blkQ_ret ?_
    refine endG (by rfl) (by exact resL_tmp rfl) ?_
    have ea : flexC fold l s = acc.map (·.1) := by unfold flexC; rw [if_pos hvs]; rw [remV_none (best_none hbb hcneg)] at hTk; rw [← hTk.done ltF_ord]
    rw [ea, List.length_map]
    obtain ⟨F', le, hv, H⟩ := H.freezeSl 0 rfl
    dsimp only [setL, delL] at H
    exact ⟨F', fun b y h => le b y (le0 b y h), hv, H⟩
   ·have hc35b := hc35
    have hc35 := of_decide_eq_false hc35
    have hcneg := hc35
    obtain ⟨hb0, y, hB, hyg, hys⟩ := best_some hbb hcneg
    have hbl : b.toNat < D.length := by have := hB.1; omega
    have hXb := hDm _ (mem_of (l := D) (j := b.toNat) hbl)
    have hyn := (one_len (oV hB.2.1)).2
    have hrd := remV_take ltF_ord hB (v' := vF fold s D (ds.set b.toNat true)) (vF_set (by omega)) (fun k _ hk => vF_ne hk)
    have hrl := hrd.1.len
    rw [List.length_cons] at hrl
    refine W.skip ?_
    refine W.seq (W.region ?_)
    iterate 2 refine RW.v ?_
    refine RW.idxE (s := 1) (by kernel_rfl) (by kernel_rfl) rfl Tryd.underlying90 (by kernel_rfl) rfl rfl ⟨by omega, by omega⟩ (by kernel_rfl) ?_
    intro q36 q36e
    have q36j : q36 = b.toNat := by rw [q36e]; omega
    rw [q36j]
    clear q36e q36j
    refine RW.stE H 1 rfl (vs := [.bool true]) (by show b.toNat + 1 ≤ (ds.map bV).length; rw [List.length_map]; omega) (by kernel_rfl) (by kernel_rfl) rfl rfl rfl rfl (by kernel_rfl) (by kernel_rfl) ?_
    clear H; intro _ H
    dsimp only [setL] at H
    rw [bV_set (show b.toNat < ds.length by omega)] at H
    refine RW.nil ?_
    refine W.rg [(1, .string ⟨s.toArray⟩), (2, .bool fold), (7, u), (8, du), (9, .slice (some ⟨bd, 0, none⟩) D.length D.length), (10, .int .i64 b)] fun TA => ?_
    refine W.region ?_
    iterate 3 refine RW.v ?_
    refine RW.idxF (hcd.le leB) (by kernel_rfl) (by kernel_rfl) rfl Tryd.underlying22 (by kernel_rfl) rfl rfl ⟨by omega, by omega⟩ (by kernel_rfl) ?_
    intro b37 q38 r39 hF40 hE41
    rw [strs_at (l := D) (j := (b).toNat) (i := b) (by omega) (by omega)] at hE41
    refine RW.loads 1 (by kernel_rfl) (by kernel_rfl) rfl rfl (H.old _ _ hF40) hE41 rfl (by kernel_rfl) ?_
    refine RW.mkL H (x := .row ⟨[.string ⟨(D.getD ((b).toNat) []).toArray⟩], 9, false⟩) (fm := fun b => .slice (some ⟨b, 0, none⟩) 1 1) (by kernel_rfl) (by kernel_rfl) (by kernel_rfl) (by kernel_rfl) ?_
    clear H; intro _ b42 _ H
    refine RW.appL H 1 0 (n := 1) (e2 := 9) (by kernel_rfl) (by kernel_rfl) rfl rfl rfl rfl rfl rfl rfl rfl (by kernel_rfl) (by kernel_rfl) (by kernel_rfl) (by decide) (by decide) rfl rfl (by omega) (by kernel_rfl) ?_
    clear H; intro _ v43 _ H
    dsimp only [setL, delL] at H
    refine RW.v ?_
    refine RW.nil ?_
    refine blkQ_normal ?_
    have hXj : (y.1 : List UInt8) = D.getD b.toNat [] := (one_len (oV hB.2.1)).1
    rw [← hXj] at H
    rw [show acc.length + 1 = (acc ++ [y]).length by rw [List.length_append]; rfl, show (acc.map (·.1)).map strV ++ [.string ⟨y.1.toArray⟩] = ((acc ++ [y]).map (·.1)).map strV by rw [List.map_append, List.map_append]; rfl] at H
    exact ⟨rfl, mm - 1, by omega, (ds.set b.toNat true), (acc ++ [y]), v43, (by omega), (by rw [List.length_append, List.length_singleton]; omega), (by rw [List.length_set]; exact hds), (hTk.next hrd.1 hrd.2), H, rfl, rfl, rfl, rfl, rfl⟩
end
end Go.Proofs.YtjcmdifpkafdkaaDoor
