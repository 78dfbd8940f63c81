/-
  What Delq leaves of a heap, in plain words; the heaps of ListsTaken. Conditions: none.
  lists.Equal's comparison of two ints in the second memory: what counts its pairs is one less. Conditions: the heap lies there as HeapAt says.
  lists.find with any comparison, one round, in the second memory: the memory that lies under the call may change from round to round. Conditions: the heap lies there as HeapAt says.
  lists.find with any comparison, Assq and Member on ints in the second memory. Conditions: the heap lies there as HeapAt says.
  lists.drop, a round of its first loop in the second memory. Conditions: the heap lies there as HeapAt says.
  lists.drop and Delq by identity in the second memory. Conditions: the heap lies there as HeapAt says.
  lists.Member and Remove on ints in the second memory. Conditions: the heap lies there as HeapAt says.
-/
import Derived.Test.YtehcckhdppdkcaaGreatDoorL4
import Derived.Test.YtehcckhdppdkcaaGreatDoorLkA
import Derived.Test.YtehcckhdppdkcaaGreatDoorS3
namespace Go.Proofs.YtehcckhdppdkcaaGreatDoor
set_option maxRecDepth 100000
/-- The conses of a list linked anew, the last one first. -/
def dropH (m : HM) : List Wd → HM × Wd
  | [] => (m, (1, 0))
  | k :: ks => (((dropH m ks).1.setCdr k (dropH m ks).2).1, k)
/-- The conses whose elements are kept. -/
def keptW (x : Wd) (c a : Nat → Wd) (n : Nat) : List Wd := ((List.range n).filter fun j => !decide (x = a j)).map c
theorem keptW_succ (x : Wd) (c a : Nat → Wd) (n : Nat) : keptW x c a (n + 1) = if x = a n then keptW x c a n else keptW x c a n ++ [c n] := by
  unfold keptW
  rw [List.range_succ, List.filter_append, List.map_append]
  by_cases h : x = a n <;> simp [h]
theorem keptW_length_le (x : Wd) (c a : Nat → Wd) (n : Nat) : (keptW x c a n).length ≤ n := by
  unfold keptW
  rw [List.length_map]
  exact Nat.le_trans (List.length_filter_le _ _) (by simp)
def cD (ks : List Wd) (j : Nat) : Wd := ks.getD j (1, 0)
theorem dropH_word (m : HM) (ks : List Wd) : (dropH m ks).2 = cD ks 0 := by cases ks <;> rfl
/-- All conses, no two with one number. -/
def Apart (m : HM) : List Wd → Prop
  | [] => True
  | k :: ks => (∃ a d, m.find k = some (.pair a d)) ∧ (∀ y, y ∈ ks → y.2.toNat ≠ k.2.toNat) ∧ Apart m ks
theorem dropH_is {m : HM} : ∀ {ks : List Wd}, Apart m ks → (dropH m ks).1.many = m.many ∧ (dropH m ks).1.limit = m.limit ∧ (dropH m ks).1.free = m.free ∧ (∀ y, (∀ k, k ∈ ks → k.2.toNat ≠ y.2.toNat) → (dropH m ks).1.find y = m.find y) ∧
    ∀ j, j < ks.length → ∃ a d, m.find (cD ks j) = some (.pair a d) ∧ (dropH m ks).1.find (cD ks j) = some (.pair a (cD ks (j + 1)))
  | [], _ => ⟨rfl, rfl, rfl, fun _ _ => rfl, fun j hj => absurd hj (by simp)⟩
  | k :: ks, h => by
    obtain ⟨⟨a, d, hk⟩, hne, hA⟩ := h
    obtain ⟨h1, h2, h3, h4, h5⟩ := dropH_is hA
    have hk' : (dropH m ks).1.find k = some (.pair a d) := by rw [h4 k fun y hy => hne y hy]; exact hk
    have e : (dropH m (k :: ks)).1 = (dropH m ks).1.put k.2.toNat (.pair a (dropH m ks).2) := by
      show ((dropH m ks).1.setCdr k (dropH m ks).2).1 = _
      rw [setCdr_is _ hk']
    rw [e]
    refine ⟨(many_put _ hk').trans h1, h2, h3, fun y hy => ?_, fun j hj => ?_⟩
    · rw [find_put_ne (fun e2 => hy k (by simp) e2.symm), h4 y fun z hz => hy z (by simp [hz])]
    · cases j with
      | zero =>
        refine ⟨a, d, hk, ?_⟩
        show ((dropH m ks).1.put k.2.toNat (.pair a (dropH m ks).2)).find k = some (.pair a (cD ks 0))
        rw [find_put_self hk', dropH_word]
      | succ j =>
        have hj' : j < ks.length := by simpa using hj
        obtain ⟨a2, d2, e1, e2⟩ := h5 j hj'
        refine ⟨a2, d2, e1, ?_⟩
        show ((dropH m ks).1.put k.2.toNat (.pair a (dropH m ks).2)).find (cD ks j) = some (.pair a2 (cD ks (j + 1)))
        have hm : cD ks j ∈ ks := by
          unfold cD
          rw [List.getD_eq_getElem?_getD, List.getElem?_eq_getElem hj']
          simp
        rw [find_put_ne (hne _ hm), e2]
theorem Apart.drop {m : HM} : ∀ {ks : List Wd} (j : Nat), Apart m ks → Apart m (ks.drop j)
  | _, 0, h => h
  | [], _ + 1, h => h
  | _ :: _, j + 1, h => Apart.drop (ks := _) j h.2.2
theorem drop_at {ks : List Wd} {j : Nat} (hj : j < ks.length) : ks.drop j = ks.getD j (0, 0) :: ks.drop (j + 1) := by
  rw [List.drop_eq_getElem_cons hj, List.getD_eq_getElem?_getD, List.getElem?_eq_getElem hj]
  rfl
theorem apart_kept {m : HM} {x : Wd} {c a : Nat → Wd} {n : Nat} (hp : Path m c a n) (hd : ∀ i j, i < j → j < n → (c i).2.toNat ≠ (c j).2.toNat) : Apart m (keptW x c a n) := by
  have key : ∀ (l : List Nat), (∀ j, j ∈ l → j < n) → l.Pairwise (· < ·) → Apart m (l.map c) := by
    intro l
    induction l with
    | nil => exact fun _ _ => trivial
    | cons i l ih =>
      intro h1 h2
      rw [List.pairwise_cons] at h2
      refine ⟨⟨_, _, hp i (h1 i (by simp))⟩, fun y hy => ?_, ih (fun j hj => h1 j (by simp [hj])) h2.2⟩
      obtain ⟨j, hj, rfl⟩ := List.mem_map.1 hy
      exact fun e => hd i j (h2.1 j hj) (h1 j (by simp [hj])) e.symm
  exact key _ (fun j hj => by simpa using (List.mem_filter.1 hj).1) (List.Pairwise.filter _ List.pairwise_lt_range)
/-- The elements of the conses that are kept. -/
theorem chain_dropped {m : HM} {x : Wd} {c : Nat → Wd} {l : List Wd} (hp : Chain m c l) (hd : ∀ i j, i < j → j < l.length → (c i).2.toNat ≠ (c j).2.toNat) :
    Chain (dropH m (keptW x c (fun j => l.getD j (0, 0)) l.length)).1 (cD (keptW x c (fun j => l.getD j (0, 0)) l.length)) (l.filter fun y => !decide (x = y)) := by
  obtain ⟨_, _, _, _, h5⟩ := dropH_is (apart_kept (x := x) hp.2 hd)
  have hl : l.filter (fun y => !decide (x = y)) = ((List.range l.length).filter fun j => !decide (x = l.getD j (0, 0))).map fun j => l.getD j (0, 0) := by
    have e : l = (List.range l.length).map fun j => l.getD j (0, 0) := (firstN_getD l).symm
    conv => lhs; rw [e]
    rw [List.filter_map]
    rfl
  have hlen : (l.filter fun y => !decide (x = y)).length = (keptW x c (fun j => l.getD j (0, 0)) l.length).length := by
    rw [hl]; unfold keptW; simp only [List.length_map]
  refine ⟨?_, fun j hj => ?_⟩
  · rw [hlen]; unfold cD; simp
  · rw [hlen] at hj
    obtain ⟨a, d, e1, e2⟩ := h5 j hj
    rw [e2]
    congr 2
    have hj2 : j < ((List.range l.length).filter fun j => !decide (x = l.getD j (0, 0))).length := by
      have := hj
      unfold keptW at this
      simpa using this
    have ek : cD (keptW x c (fun j => l.getD j (0, 0)) l.length) j = c (((List.range l.length).filter fun j => !decide (x = l.getD j (0, 0)))[j]) := by
      unfold cD keptW
      rw [List.getD_eq_getElem?_getD, List.getElem?_map, List.getElem?_eq_getElem hj2]
      rfl
    have hin : ((List.range l.length).filter fun j => !decide (x = l.getD j (0, 0)))[j] < l.length := by
      have := List.getElem_mem hj2
      rw [List.mem_filter] at this
      simpa using this.1
    rw [ek, hp.2 _ hin] at e1
    have e3 : l.getD (((List.range l.length).filter fun j => !decide (x = l.getD j (0, 0)))[j]) (0, 0) = a := by
      have := Option.some.inj e1
      injection this
    show a = List.getD _ j (0, 0)
    rw [hl, List.getD_eq_getElem?_getD, List.getElem?_map, List.getElem?_eq_getElem hj2]
    exact e3.symm
end Go.Proofs.YtehcckhdppdkcaaGreatDoor
namespace Go.Proofs.YtehcckhdppdkcaaGreatDoor
set_option maxRecDepth 100000
section
variable {G h : Nat} {m : HM} {σ σ0 : Mem}
theorem find_int (m : HM) (a : Int) : m.find (0, a) = none := by
  cases e : m.find (0, a) with
  | none => rfl
  | some o => have := (HM.find_mem e).2.2; cases o <;> cases this
theorem s_textInt (a : Int) (ha : σ.abs = heapAbs h m) : SCall G Tryz.prog 43 #[pp h, wdV (0, a)] σ (.tuple #[.string ByteArray.empty, .int .i64 6]) σ := by
  have e1 : m.textOf (0, a) = (ByteArray.empty, 6) := by unfold HM.textOf; rw [find_int]; rfl
  exact heap_read (l := [wdV (0, a)]) ha rfl rfl fun w p S hH => by have := textOf_heap S p m (0, a) w hH; rwa [e1] at this
theorem s_vecInt (a : Int) (ha : σ.abs = heapAbs h m) : SCall G Tryz.prog 85 #[pp h, wdV (0, a)] σ (.tuple #[.slice none 0 0, .int .i64 6]) σ :=
  heap_read (l := [wdV (0, a)]) ha rfl rfl fun w p S hH => vecOf_heap_no S p m (0, a) w hH fun l e => by rw [find_int] at e; cases e
theorem flat_wc (a b : Int) (d : Value) (p : Value) (hG : G ≤ σ0.next) (ha : σ0.abs = heapAbs h m) : WC G Tryz.prog 135 #[pp h, wdV (0, a), wdV (0, b), d, p] σ0 fun v σ' => v = .bool false ∧ Grow σ0 σ' := by
  refine WC.enter (fn := Tryz.f135) Tryz.func135 rfl ?_
  refine W.know 0 (x := pp h) rfl ?_
  refine W.seq ?_
  refine W.region ?_
  refine RW.makeG (x := .row ⟨[.int .i64 ((0, a) : Wd).1, .int .i64 ((0, a) : Wd).2], 37, false⟩) (fm := fun b => .pointer (some ⟨b, 0, none⟩)) (by kernel_rfl) (by kernel_rfl) (by kernel_rfl) (by kernel_rfl) ?_; intro σ1 _ g1 G1 n1
  refine RW.makeG (x := .row ⟨[.int .i64 ((0, b) : Wd).1, .int .i64 ((0, b) : Wd).2], 37, false⟩) (fm := fun b => .pointer (some ⟨b, 0, none⟩)) (by kernel_rfl) (by kernel_rfl) (by kernel_rfl) (by kernel_rfl) ?_; intro σ2 _ g2 G2 n2
  rw [n1] at g2 n2 ⊢
  have g1 := G2.old _ _ g1
  have GG := G1.trans G2
  have a2 := GG.abs.trans ha
  refine RW.val (by kernel_rfl) (by kernel_rfl) rfl (by kernel_rfl) ?_
  refine RW.nil ?_
  have T1 := s_textInt (G := G) a a2
  have T2 := s_textInt (G := G) b a2
  have V1 := s_vecInt (G := G) a a2
  have V2 := s_vecInt (G := G) b a2
  refine W.reset [(0, pp h), (6, pp σ0.next), (7, pp (σ0.next + 1))] ⟨rfl, rfl, rfl, trivial⟩ fun TA => ?_
  refine W.seq ?_
  refine W.seq ?_
  refine W.region ?_
  refine RW.val (by kernel_rfl) (by kernel_rfl) rfl (by kernel_rfl) ?_
  refine RW.load (by kernel_rfl) (by kernel_rfl) rfl rfl g1 rfl rfl (by kernel_rfl) ?_
  refine RW.val (by kernel_rfl) (by kernel_rfl) rfl (by kernel_rfl) ?_
  refine RW.load (by kernel_rfl) (by kernel_rfl) rfl rfl g2 rfl rfl (by kernel_rfl) ?_
  refine RW.val (by kernel_rfl) (by kernel_rfl) rfl (by kernel_rfl) ?_
  refine RW.nil ?_
  refine W.cond (b := false) rfl (fun h => by cases h) (fun _ => ?_)
  refine W.skip ?_
  refine W.seq ?_
  refine W.region ?_
  refine RW.val (by kernel_rfl) (by kernel_rfl) rfl (by kernel_rfl) ?_
  refine RW.loads 2 (by kernel_rfl) (by kernel_rfl) rfl rfl g1 rfl rfl (by kernel_rfl) ?_
  refine RW.call (by kernel_rfl) (by kernel_rfl) rfl rfl rfl (by kernel_rfl) (by kernel_rfl) ⟨_, _, T1, ?_⟩
  refine RW.val (by kernel_rfl) (by kernel_rfl) rfl (by kernel_rfl) ?_
  refine RW.val (by kernel_rfl) (by kernel_rfl) rfl (by kernel_rfl) ?_
  refine RW.val (by kernel_rfl) (by kernel_rfl) rfl (by kernel_rfl) ?_
  refine RW.val (by kernel_rfl) (by kernel_rfl) rfl (by kernel_rfl) ?_
  refine RW.val (by kernel_rfl) (by kernel_rfl) rfl (by kernel_rfl) ?_
  refine RW.nil ?_
  refine W.seq ?_
  refine W.region ?_
  refine RW.val (by kernel_rfl) (by kernel_rfl) rfl (by kernel_rfl) ?_
  refine RW.loads 2 (by kernel_rfl) (by kernel_rfl) rfl rfl g2 rfl rfl (by kernel_rfl) ?_
  refine RW.call (by kernel_rfl) (by kernel_rfl) rfl rfl rfl (by kernel_rfl) (by kernel_rfl) ⟨_, _, T2, ?_⟩
  refine RW.val (by kernel_rfl) (by kernel_rfl) rfl (by kernel_rfl) ?_
  refine RW.val (by kernel_rfl) (by kernel_rfl) rfl (by kernel_rfl) ?_
  refine RW.val (by kernel_rfl) (by kernel_rfl) rfl (by kernel_rfl) ?_
  refine RW.val (by kernel_rfl) (by kernel_rfl) rfl (by kernel_rfl) ?_
  refine RW.val (by kernel_rfl) (by kernel_rfl) rfl (by kernel_rfl) ?_
  refine RW.nil ?_
  refine W.reset [(0, pp h), (6, pp σ0.next), (7, pp (σ0.next + 1)), (12, .int .i64 6), (14, .int .i64 6)] ⟨rfl, rfl, rfl, rfl, rfl, trivial⟩ fun TB => ?_
  refine W.seq ?_
  refine W.seq ?_
  refine W.region ?_
  refine RW.val (by kernel_rfl) (by kernel_rfl) rfl (by kernel_rfl) ?_
  refine RW.val (by kernel_rfl) (by kernel_rfl) rfl (by kernel_rfl) ?_
  refine RW.val (by kernel_rfl) (by kernel_rfl) rfl (by kernel_rfl) ?_
  refine RW.skip (by rfl) (by kernel_rfl) ?_
  refine RW.skip (by rfl) (by kernel_rfl) ?_
  refine RW.val (by kernel_rfl) (by kernel_rfl) rfl (by kernel_rfl) ?_
  refine RW.nil ?_
  refine W.cond (b := false) rfl (fun h => by cases h) (fun _ => ?_)
  refine W.skip ?_
  refine W.seq ?_
  refine W.region ?_
  refine RW.val (by kernel_rfl) (by kernel_rfl) rfl (by kernel_rfl) ?_
  refine RW.loads 2 (by kernel_rfl) (by kernel_rfl) rfl rfl g1 rfl rfl (by kernel_rfl) ?_
  refine RW.call (by kernel_rfl) (by kernel_rfl) rfl rfl rfl (by kernel_rfl) (by kernel_rfl) ⟨_, _, V1, ?_⟩
  refine RW.val (by kernel_rfl) (by kernel_rfl) rfl (by kernel_rfl) ?_
  refine RW.val (by kernel_rfl) (by kernel_rfl) rfl (by kernel_rfl) ?_
  refine RW.val (by kernel_rfl) (by kernel_rfl) rfl (by kernel_rfl) ?_
  refine RW.val (by kernel_rfl) (by kernel_rfl) rfl (by kernel_rfl) ?_
  refine RW.val (by kernel_rfl) (by kernel_rfl) rfl (by kernel_rfl) ?_
  refine RW.nil ?_
  refine W.seq ?_
  refine W.region ?_
  refine RW.val (by kernel_rfl) (by kernel_rfl) rfl (by kernel_rfl) ?_
  refine RW.loads 2 (by kernel_rfl) (by kernel_rfl) rfl rfl g2 rfl rfl (by kernel_rfl) ?_
  refine RW.call (by kernel_rfl) (by kernel_rfl) rfl rfl rfl (by kernel_rfl) (by kernel_rfl) ⟨_, _, V2, ?_⟩
  refine RW.val (by kernel_rfl) (by kernel_rfl) rfl (by kernel_rfl) ?_
  refine RW.val (by kernel_rfl) (by kernel_rfl) rfl (by kernel_rfl) ?_
  refine RW.val (by kernel_rfl) (by kernel_rfl) rfl (by kernel_rfl) ?_
  refine RW.val (by kernel_rfl) (by kernel_rfl) rfl (by kernel_rfl) ?_
  refine RW.val (by kernel_rfl) (by kernel_rfl) rfl (by kernel_rfl) ?_
  refine RW.nil ?_
  refine W.reset [(12, .int .i64 6), (14, .int .i64 6)] ⟨rfl, rfl, trivial⟩ fun TC => ?_
  refine W.seq ?_
  refine W.seq ?_
  refine W.region ?_
  refine RW.val (by kernel_rfl) (by kernel_rfl) rfl (by kernel_rfl) ?_
  refine RW.val (by kernel_rfl) (by kernel_rfl) rfl (by kernel_rfl) ?_
  refine RW.val (by kernel_rfl) (by kernel_rfl) rfl (by kernel_rfl) ?_
  refine RW.skip (by rfl) (by kernel_rfl) ?_
  refine RW.skip (by rfl) (by kernel_rfl) ?_
  refine RW.val (by kernel_rfl) (by kernel_rfl) rfl (by kernel_rfl) ?_
  refine RW.val (by kernel_rfl) (by kernel_rfl) rfl (by kernel_rfl) ?_
  refine RW.skip (by rfl) (by kernel_rfl) ?_
  refine RW.skip (by rfl) (by kernel_rfl) ?_
  refine RW.skip (by rfl) (by kernel_rfl) ?_
  refine RW.skip (by rfl) (by kernel_rfl) ?_
  refine RW.skip (by rfl) (by kernel_rfl) ?_
  refine RW.val (by kernel_rfl) (by kernel_rfl) rfl (by kernel_rfl) ?_
  refine RW.nil ?_
  refine W.cond (b := true) rfl (fun _ => ?_) (fun h => by cases h)
  refine W.seq ?_
  refine W.region ?_
  refine RW.val (by kernel_rfl) (by kernel_rfl) rfl (by kernel_rfl) ?_
  refine RW.nil ?_
  refine W.ret ?_
  exact endG (R := fun v σ' => v = .bool false ∧ Grow σ0 σ') (vs := [_]) rfl (resL_tmp rfl) ⟨rfl, GG⟩
/-- What a call leaves that sets one row besides what it makes. -/
structure GrowE (σ σ' : Mem) (b : Nat) (y : Blk2) : Prop where
  at_ : σ'.get b = some y
  old : ∀ c z, c ≠ b → σ.get c = some z → σ'.get c = some z
  nx : σ.next ≤ σ'.next
  abs : σ'.abs = σ.abs
theorem GrowE.then {σ2 : Mem} {b : Nat} {y : Blk2} (g : GrowE σ0 σ b y) (k : Grow σ σ2) : GrowE σ0 σ2 b y := ⟨k.old _ _ g.at_, fun c z hc hz => k.old _ _ (g.old c z hc hz), by have := g.nx; have := k.nx; omega, k.abs.trans g.abs⟩
theorem GrowE.behind {σ2 : Mem} {b : Nat} {y z0 : Blk2} (k : Grow σ0 σ) (g : GrowE σ σ2 b y) (_hb : σ0.get b = some z0) : GrowE σ0 σ2 b y := ⟨g.at_, fun c z hc hz => g.old c z hc (k.old _ _ hz), by have := g.nx; have := k.nx; omega, g.abs.trans k.abs⟩
theorem GrowE.set {σ2 : Mem} {b c : Nat} {y z : Blk2} (g : GrowE σ0 σ b y) (s : Set1 σ σ2 c z) (hc : σ0.next ≤ c) (hb : b < σ0.next) : GrowE σ0 σ2 b y := ⟨s.old _ _ (by omega) g.at_, fun d w hd hw => s.old _ _ (by have := Mem.lt hw; omega) (g.old d w hd hw), by rw [s.nx]; exact g.nx, s.abs.trans g.abs⟩
abbrev irow (n : Int) : Blk2 := .row ⟨[.int .i64 n], 3, false⟩
theorem alike_wc (a b n : Int) {L : Nat} (hG : G ≤ σ0.next) (ha : σ0.abs = heapAbs h m) (hL : G ≤ L) (hl : σ0.get L = some (irow n)) (hn : 1 ≤ n) (hn2 : n ≤ 1000000) : WC G Tryz.prog 112 #[pp h, wdV (0, a), wdV (0, b), .int .i64 0, pp L] σ0 fun v σ' => v = .bool (decide (a = b)) ∧ GrowE σ0 σ' L (irow (n - 1)) := by
  have hlt := Mem.lt hl
  refine WC.enter (fn := Tryz.f112) Tryz.func112 rfl ?_
  refine W.know 0 (x := pp h) rfl ?_
  refine W.know 3 (x := .int .i64 0) rfl ?_
  refine W.know 4 (x := pp L) rfl ?_
  refine W.seq ?_
  refine W.region ?_
  refine RW.makeG (x := .row ⟨[.int .i64 ((0, a) : Wd).1, .int .i64 ((0, a) : Wd).2], 37, false⟩) (fm := fun b => .pointer (some ⟨b, 0, none⟩)) (by kernel_rfl) (by kernel_rfl) (by kernel_rfl) (by kernel_rfl) ?_; intro σ1 _ g1 G1 n1
  refine RW.makeG (x := .row ⟨[.int .i64 ((0, b) : Wd).1, .int .i64 ((0, b) : Wd).2], 37, false⟩) (fm := fun b => .pointer (some ⟨b, 0, none⟩)) (by kernel_rfl) (by kernel_rfl) (by kernel_rfl) (by kernel_rfl) ?_; intro σ2 _ g2 G2 n2
  rw [n1] at g2 n2 ⊢
  have g1 := G2.old _ _ g1
  have GG := G1.trans G2
  have a2 := GG.abs.trans ha
  have l2 := GG.old _ _ hl
  refine RW.val (by kernel_rfl) (by kernel_rfl) rfl (by kernel_rfl) ?_
  refine RW.nil ?_
  refine W.reset [(0, pp h), (3, .int .i64 0), (4, pp L), (6, pp σ0.next), (7, pp (σ0.next + 1))] ⟨rfl, rfl, rfl, rfl, rfl, trivial⟩ fun TA => ?_
  refine W.seq ?_
  refine W.seq ?_
  refine W.region ?_
  refine RW.val (by kernel_rfl) (by kernel_rfl) rfl (by kernel_rfl) ?_
  refine RW.val (by kernel_rfl) (by kernel_rfl) rfl (by kernel_rfl) ?_
  refine RW.nil ?_
  refine W.cond (b := false) rfl (fun h => by cases h) (fun _ => ?_)
  refine W.skip ?_
  refine W.seq ?_
  refine W.region ?_
  refine RW.val (by kernel_rfl) (by kernel_rfl) rfl (by kernel_rfl) ?_
  refine RW.nil ?_
  refine W.block ?_
  refine W.loop (fun k ta σ => k = 1 ∧ σ = σ2 ∧ ta 0 = pp h ∧ ta 3 = .int .i64 0 ∧ ta 4 = pp L ∧ ta 6 = pp σ0.next ∧ ta 7 = pp (σ0.next + 1) ∧ ta 11 = .int .i64 0) 1 ⟨rfl, rfl, rfl, rfl, rfl, rfl, rfl, rfl⟩ ?_
  rintro k ta σ ⟨rfl, hσ, e0, e3, e4, e6, e7, e11⟩
  obtain rfl := hσ.symm
  refine W.know 0 e0 (W.know 3 e3 (W.know 4 e4 (W.know 6 e6 (W.know 7 e7 (W.know 11 e11 (?_))))))
  refine W.seq ?_
  refine W.block ?_
  refine W.seq ?_
  refine W.block ?_
  refine W.seq ?_
  refine W.region ?_
  refine RW.val (by kernel_rfl) (by kernel_rfl) rfl (by kernel_rfl) ?_
  refine RW.val (by kernel_rfl) (by kernel_rfl) rfl (by kernel_rfl) ?_
  refine RW.load (by kernel_rfl) (by kernel_rfl) rfl rfl l2 rfl rfl (by kernel_rfl) ?_
  refine RW.valE (v' := .bool false) (by kernel_rfl) (by kernel_rfl) rfl (congrArg Value.bool (beq_eq_false_iff_ne.2 (by omega))) (by kernel_rfl) ?_
  refine RW.val (by kernel_rfl) (by kernel_rfl) rfl (by kernel_rfl) ?_
  refine RW.nil ?_
  refine W.cond (b := false) rfl (fun h => by cases h) (fun _ => ?_)
  refine W.seq ?_
  refine W.region ?_
  refine RW.val (by kernel_rfl) (by kernel_rfl) rfl (by kernel_rfl) ?_
  refine RW.val (by kernel_rfl) (by kernel_rfl) rfl (by kernel_rfl) ?_
  refine RW.val (by kernel_rfl) (by kernel_rfl) rfl (by kernel_rfl) ?_
  refine RW.nil ?_
  refine W.cond (b := false) rfl (fun h => by cases h) (fun _ => ?_)
  refine W.skip ?_
  refine W.seq ?_
  refine W.region ?_
  refine RW.val (by kernel_rfl) (by kernel_rfl) rfl (by kernel_rfl) ?_
  refine RW.val (by kernel_rfl) (by kernel_rfl) rfl (by kernel_rfl) ?_
  refine RW.load (by kernel_rfl) (by kernel_rfl) rfl rfl l2 rfl rfl (by kernel_rfl) ?_
  refine RW.valE (v' := .int .i64 (n - 1)) (by kernel_rfl) (by kernel_rfl) rfl (congrArg (Value.int .i64) (wrap_in (by omega) (by omega))) (by kernel_rfl) ?_
  refine RW.val (by kernel_rfl) (by kernel_rfl) rfl (by kernel_rfl) ?_
  refine RW.set1G (b := L) (v := .int .i64 (n - 1)) (by kernel_rfl) (by kernel_rfl) rfl rfl (hL) l2 rfl rfl rfl (by kernel_rfl) rfl (by kernel_rfl) ?_; intro σ3 _ s3
  refine RW.nil ?_
  have g1 := s3.old _ _ (by omega) g1
  have g2 := s3.old _ _ (by omega) g2
  have a3 := s3.abs.trans a2
  have n3 := s3.nx
  have E3 : GrowE σ0 σ3 L (irow (n - 1)) := ⟨s3.at_, fun c z hc hz => s3.old c z hc (GG.old _ _ hz), by have := GG.nx; omega, s3.abs.trans GG.abs⟩
  refine W.seq ?_
  refine W.block ?_
  refine W.seq ?_
  refine W.region ?_
  refine RW.loads 2 (by kernel_rfl) (by kernel_rfl) rfl rfl g1 rfl rfl (by kernel_rfl) ?_
  refine RW.loads 2 (by kernel_rfl) (by kernel_rfl) rfl rfl g2 rfl rfl (by kernel_rfl) ?_
  refine RW.vop (v := .bool (decide (a = b))) (by kernel_rfl) (by kernel_rfl) (vop_eqS (b := decide (a = b)) (r := decide (a = b)) rfl (.inl ⟨rfl, rfl⟩) rfl rfl rfl rfl (by kernel_rfl) (fun w => (eqWd _ _ _ _ w).trans (by simp [Bool.beq_eq_decide_eq]))) (by kernel_rfl) ?_
  refine RW.val (by kernel_rfl) (by kernel_rfl) rfl (by kernel_rfl) ?_
  refine RW.nil ?_
  by_cases hab : a = b
  · refine W.cond (b := true) (by rw [decide_eq_true hab]; rfl) (fun _ => ?_) (fun h => by cases h)
    refine W.seq ?_
    refine W.region ?_
    refine RW.val (by kernel_rfl) (by kernel_rfl) rfl (by kernel_rfl) ?_
    refine RW.nil ?_
    refine W.ret ?_
    rw [decide_eq_true hab]
    exact endG (R := fun v σ' => v = .bool true ∧ GrowE σ0 σ' L (irow (n - 1))) (vs := [_]) rfl (resL_tmp rfl) ⟨rfl, E3⟩
  · refine W.cond (b := false) (by rw [decide_eq_false hab]; rfl) (fun h => by cases h) (fun _ => ?_)
    refine W.seq ?_
    refine W.region ?_
    refine RW.val (by kernel_rfl) (by kernel_rfl) rfl (by kernel_rfl) ?_
    refine RW.loads 2 (by kernel_rfl) (by kernel_rfl) rfl rfl g1 rfl rfl (by kernel_rfl) ?_
    refine RW.call (by kernel_rfl) (by kernel_rfl) rfl rfl rfl (by kernel_rfl) (by kernel_rfl) ((isCons_no (G := G) (h := h) (m := m) (0, a) (by omega) a3 (.inl (show (0 : Int) ≠ 2 by decide))).mono ?_)
    rintro _ σ4 ⟨rfl, G4⟩
    have g1 := G4.old _ _ g1
    have g2 := G4.old _ _ g2
    have a4 := G4.abs.trans a3
    refine RW.val (by kernel_rfl) (by kernel_rfl) rfl (by kernel_rfl) ?_
    refine RW.val (by kernel_rfl) (by kernel_rfl) rfl (by kernel_rfl) ?_
    refine RW.skip (by rfl) (by kernel_rfl) ?_
    refine RW.skip (by rfl) (by kernel_rfl) ?_
    refine RW.skip (by rfl) (by kernel_rfl) ?_
    refine RW.skip (by rfl) (by kernel_rfl) ?_
    refine RW.val (by kernel_rfl) (by kernel_rfl) rfl (by kernel_rfl) ?_
    refine RW.val (by kernel_rfl) (by kernel_rfl) rfl (by kernel_rfl) ?_
    refine RW.nil ?_
    refine W.cond (b := true) rfl (fun _ => ?_) (fun h => by cases h)
    refine W.seq ?_
    refine W.region ?_
    refine RW.val (by kernel_rfl) (by kernel_rfl) rfl (by kernel_rfl) ?_
    refine RW.loads 2 (by kernel_rfl) (by kernel_rfl) rfl rfl g1 rfl rfl (by kernel_rfl) ?_
    refine RW.loads 2 (by kernel_rfl) (by kernel_rfl) rfl rfl g2 rfl rfl (by kernel_rfl) ?_
    refine RW.val (by kernel_rfl) (by kernel_rfl) rfl (by kernel_rfl) ?_
    refine RW.val (by kernel_rfl) (by kernel_rfl) rfl (by kernel_rfl) ?_
    refine RW.call (by kernel_rfl) (by kernel_rfl) rfl rfl rfl (by kernel_rfl) (by kernel_rfl) ((flat_wc (G := G) (h := h) (m := m) a b (.int .i64 0) (pp L) (by have := G4.nx; omega) a4).mono ?_)
    rintro _ σ5 ⟨rfl, G5⟩
    refine RW.val (by kernel_rfl) (by kernel_rfl) rfl (by kernel_rfl) ?_
    refine RW.nil ?_
    refine W.ret ?_
    rw [decide_eq_false hab]
    exact endG (R := fun v σ' => v = .bool false ∧ GrowE σ0 σ' L (irow (n - 1))) (vs := [_]) rfl (resL_tmp rfl) ⟨rfl, (E3.then G4).then G5⟩
/-- equal's deferred call: nothing is recovered. -/
theorem rec_call (p q : Nat) : ∃ σ', SDCall G Tryz.prog 111 (#[] ++ #[pp p, pp q]) σ0 σ' ∧ σ' = σ0 := by
  refine WD.enter (fn := Tryz.f111) Tryz.func111 rfl rfl ?_
  refine WD.seq ?_
  refine WD.recover (l := _) rfl rfl (by kernel_rfl) (by kernel_rfl) ?_
  refine RW.val (by kernel_rfl) (by kernel_rfl) rfl (by kernel_rfl) ?_
  refine RW.nil ?_
  refine WD.seq ?_
  refine WD.seq ?_
  refine WD.of ?_
  refine W.region ?_
  refine RW.val (by kernel_rfl) (by kernel_rfl) rfl (by kernel_rfl) ?_
  refine RW.val (by kernel_rfl) (by kernel_rfl) rfl (by kernel_rfl) ?_
  refine RW.nil ?_
  refine ⟨rfl, ?_⟩
  refine WD.cond (b := true) rfl (fun _ => ?_) (fun h => by cases h)
  refine WD.of ?_
  refine W.ret ?_
  exact ⟨rfl, rfl, rfl⟩
theorem equal_wc (a b n : Int) {L : Nat} (hG : G ≤ σ0.next) (ha : σ0.abs = heapAbs h m) (hlim : 0 < m.limit) (hL : G ≤ L) (hl : σ0.get L = some (irow n)) (hn : 1 ≤ n) (hn2 : n ≤ 1000000) : WC G Tryz.prog 82 #[pp h, wdV (0, a), wdV (0, b), pp L] σ0 fun v σ' => v = .tuple #[.bool (decide (a = b)), .int .i64 0] ∧ GrowE σ0 σ' L (irow (n - 1)) := by
  have hlt := Mem.lt hl
  refine WC.enterD (fn := Tryz.f82) Tryz.func82 rfl ?_
  refine W.know 0 (x := pp h) rfl ?_
  refine W.know 3 (x := pp L) rfl ?_
  refine W.seq ?_
  refine W.region ?_
  refine RW.makeG (x := .row ⟨[.int .i64 ((0, a) : Wd).1, .int .i64 ((0, a) : Wd).2], 37, false⟩) (fm := fun b => .pointer (some ⟨b, 0, none⟩)) (by kernel_rfl) (by kernel_rfl) (by kernel_rfl) (by kernel_rfl) ?_; intro σ1 _ g1 G1 n1
  refine RW.makeG (x := .row ⟨[.int .i64 ((0, b) : Wd).1, .int .i64 ((0, b) : Wd).2], 37, false⟩) (fm := fun b => .pointer (some ⟨b, 0, none⟩)) (by kernel_rfl) (by kernel_rfl) (by kernel_rfl) (by kernel_rfl) ?_; intro σ2 _ g2 G2 n2
  refine RW.makeG (x := .row ⟨[.bool false], 4, false⟩) (fm := fun b => .pointer (some ⟨b, 0, none⟩)) (by kernel_rfl) (by kernel_rfl) (by kernel_rfl) (by kernel_rfl) ?_; intro σ3 _ g3 G3 n3
  refine RW.makeG (x := .row ⟨[.int .i64 0], 24, false⟩) (fm := fun b => .pointer (some ⟨b, 0, none⟩)) (by kernel_rfl) (by kernel_rfl) (by kernel_rfl) (by kernel_rfl) ?_; intro σ4 _ g4 G4 n4
  refine RW.nil ?_
  rw [n1] at g2 n2 ⊢
  rw [n2] at g3 n3 ⊢
  rw [n3] at g4 n4 ⊢
  have GG := ((G1.trans G2).trans G3).trans G4
  have g1 := G4.old _ _ (G3.old _ _ (G2.old _ _ g1))
  have g2 := G4.old _ _ (G3.old _ _ g2)
  have g3 := G4.old _ _ g3
  have a4 := GG.abs.trans ha
  have l4 := GG.old _ _ hl
  clear G1 G2 G3 G4 n1 n2 n3
  refine W.reset [(0, pp h), (3, pp L), (5, pp σ0.next), (6, pp (σ0.next + 1)), (8, pp (σ0.next + 1 + 1)), (9, pp (σ0.next + 1 + 1 + 1))] ⟨rfl, rfl, rfl, rfl, rfl, rfl, trivial⟩ fun TA => ?_
  refine W.seq ?_
  refine W.seq ?_
  refine W.region ?_
  refine RW.val (by kernel_rfl) (by kernel_rfl) rfl (by kernel_rfl) ?_
  refine RW.call (by kernel_rfl) (by kernel_rfl) rfl rfl rfl (by kernel_rfl) (by kernel_rfl) ((made_wc (G := G) (h := h) a4 hlim).mono ?_)
  rintro _ σ' ⟨rfl, hσ⟩
  obtain rfl := hσ.symm
  refine RW.val (by kernel_rfl) (by kernel_rfl) rfl (by kernel_rfl) ?_
  refine RW.nil ?_
  refine W.cond (b := false) rfl (fun h => by cases h) (fun _ => ?_)
  refine W.skip ?_
  refine W.seq ?_
  refine W.deferred (f := 111) (fa := #[]) (as_ := #[]) (ca := #[pp (σ0.next + 1 + 1), pp (σ0.next + 1 + 1 + 1)]) [_] rfl rfl rfl rfl rfl (by kernel_rfl) ?_
  refine RW.val (by kernel_rfl) (by kernel_rfl) rfl (by kernel_rfl) ?_
  refine RW.nil ?_
  refine ⟨by kernel_rfl, by kernel_rfl, ?_⟩
  refine W.reset [(0, pp h), (3, pp L), (5, pp σ0.next), (6, pp (σ0.next + 1)), (8, pp (σ0.next + 1 + 1)), (9, pp (σ0.next + 1 + 1 + 1))] ⟨rfl, rfl, rfl, rfl, rfl, rfl, trivial⟩ fun TB => ?_
  refine W.seq ?_
  refine W.region ?_
  refine RW.val (by kernel_rfl) (by kernel_rfl) rfl (by kernel_rfl) ?_
  refine RW.loads 2 (by kernel_rfl) (by kernel_rfl) rfl rfl g1 rfl rfl (by kernel_rfl) ?_
  refine RW.loads 2 (by kernel_rfl) (by kernel_rfl) rfl rfl g2 rfl rfl (by kernel_rfl) ?_
  refine RW.val (by kernel_rfl) (by kernel_rfl) rfl (by kernel_rfl) ?_
  refine RW.call (by kernel_rfl) (by kernel_rfl) rfl rfl rfl (by kernel_rfl) (by kernel_rfl) ((alike_wc (G := G) (h := h) (m := m) a b n (by omega) a4 hL l4 hn hn2).mono ?_)
  rintro _ σ5 ⟨rfl, E5⟩
  have g3 := E5.old _ _ (by omega) g3
  have g4 := E5.old _ _ (by omega) g4
  have n5 := E5.nx
  refine RW.set1G (b := σ0.next + 1 + 1) (v := .bool (decide (a = b))) (by kernel_rfl) (by kernel_rfl) rfl rfl (by omega) g3 rfl rfl rfl (by kernel_rfl) rfl (by kernel_rfl) ?_; intro σ6 _ s6
  refine RW.set1G (b := σ0.next + 1 + 1 + 1) (v := .int .i64 0) (by kernel_rfl) (by kernel_rfl) rfl rfl (by omega) (s6.old _ _ (by omega) g4) rfl rfl rfl (by kernel_rfl) rfl (by kernel_rfl) ?_; intro σ7 _ s7
  refine RW.nil ?_
  have g3 := s7.old _ _ (by omega) s6.at_
  have g4 := s7.at_
  have EE := ((GrowE.behind GG E5 hl).set s6 (by omega) hlt).set s7 (by omega) hlt
  refine W.ret ?_
  obtain ⟨σ8, hd, rfl⟩ := rec_call (G := G) (σ0 := σ7) (σ0.next + 1 + 1) (σ0.next + 1 + 1 + 1)
  exact ⟨rfl, σ8, Shut.one (by kernel_rfl) hd (.nil _), [.bool (decide (a = b)), .int .i64 0], resL_cell (n := 1) rfl g3 ((uT_eq _ _).trans Tryz.underlying4) (by kernel_rfl) rfl (by kernel_rfl) (resE rfl g4 rfl), rfl, EE⟩
theorem counted1_wc (a b n : Int) {L : Nat} (hG : G ≤ σ0.next) (ha : σ0.abs = heapAbs h m) (hlim : 0 < m.limit) (hL : G ≤ L) (hl : σ0.get L = some (irow n)) (hn : 1 ≤ n) (hn2 : n ≤ 1000000) : WC G Tryz.prog 81 #[pp h, wdV (0, a), wdV (0, b), pp L] σ0 fun v σ' => v = .tuple #[.bool (decide (a = b)), .int .i64 0] ∧ GrowE σ0 σ' L (irow (n - 1)) := by
  refine WC.enter (fn := Tryz.f81) Tryz.func81 rfl ?_
  refine W.know 0 (x := pp h) rfl ?_
  refine W.know 3 (x := pp L) rfl ?_
  refine W.seq ?_
  refine W.region ?_
  refine RW.makeG (x := .row ⟨[.int .i64 ((0, a) : Wd).1, .int .i64 ((0, a) : Wd).2], 37, false⟩) (fm := fun b => .pointer (some ⟨b, 0, none⟩)) (by kernel_rfl) (by kernel_rfl) (by kernel_rfl) (by kernel_rfl) ?_; intro σ1 _ g1 G1 n1
  refine RW.makeG (x := .row ⟨[.int .i64 ((0, b) : Wd).1, .int .i64 ((0, b) : Wd).2], 37, false⟩) (fm := fun b => .pointer (some ⟨b, 0, none⟩)) (by kernel_rfl) (by kernel_rfl) (by kernel_rfl) (by kernel_rfl) ?_; intro σ2 _ g2 G2 n2
  refine RW.val (by kernel_rfl) (by kernel_rfl) rfl (by kernel_rfl) ?_
  refine RW.val (by kernel_rfl) (by kernel_rfl) rfl (by kernel_rfl) ?_
  refine RW.nil ?_
  rw [n1] at g2 n2 ⊢
  have GG := G1.trans G2
  have g1 := G2.old _ _ g1
  have a2 := GG.abs.trans ha
  have l2 := GG.old _ _ hl
  refine W.seq ?_
  refine W.region ?_
  refine RW.val (by kernel_rfl) (by kernel_rfl) rfl (by kernel_rfl) ?_
  refine RW.loads 2 (by kernel_rfl) (by kernel_rfl) rfl rfl g1 rfl rfl (by kernel_rfl) ?_
  refine RW.loads 2 (by kernel_rfl) (by kernel_rfl) rfl rfl g2 rfl rfl (by kernel_rfl) ?_
  refine RW.call (by kernel_rfl) (by kernel_rfl) rfl rfl rfl (by kernel_rfl) (by kernel_rfl) ((equal_wc (G := G) (h := h) (m := m) a b n (by omega) a2 hlim hL l2 hn hn2).mono ?_)
  rintro _ σ5 ⟨rfl, E5⟩
  refine RW.val (by kernel_rfl) (by kernel_rfl) rfl (by kernel_rfl) ?_
  refine RW.val (by kernel_rfl) (by kernel_rfl) rfl (by kernel_rfl) ?_
  refine RW.val (by kernel_rfl) (by kernel_rfl) rfl (by kernel_rfl) ?_
  refine RW.val (by kernel_rfl) (by kernel_rfl) rfl (by kernel_rfl) ?_
  refine RW.nil ?_
  refine W.ret ?_
  exact endG rfl (resL_tmp (resL_tmp rfl)) ⟨rfl, GrowE.behind GG E5 hl⟩
theorem counted_wc (_hG : G ≤ σ0.next) : WC G Tryz.prog 50 #[] σ0 fun v σ' => v = .func (.func 81) #[] #[pp σ0.next] ∧ Grow σ0 σ' ∧ σ'.next = σ0.next + 1 ∧ σ'.get σ0.next = some (irow 200000) := by
  refine WC.enter (fn := Tryz.f50) Tryz.func50 rfl ?_
  refine W.seq ?_
  refine W.region ?_
  refine RW.val (by kernel_rfl) (by kernel_rfl) rfl (by kernel_rfl) ?_
  refine RW.nil ?_
  refine W.seq ?_
  refine W.region ?_
  refine RW.makeG (x := .row ⟨[.int .i64 0], 3, false⟩) (fm := fun b => .pointer (some ⟨b, 0, none⟩)) (by kernel_rfl) (by kernel_rfl) (by kernel_rfl) (by kernel_rfl) ?_; intro σ1 _ g1 G1 n1
  refine RW.set1G (b := σ0.next) (v := .int .i64 200000) (by kernel_rfl) (by kernel_rfl) rfl rfl (_hG) g1 rfl rfl rfl (by kernel_rfl) rfl (by kernel_rfl) ?_; intro σ2 _ s2
  refine RW.nil ?_
  refine W.seq ?_
  refine W.region ?_
  refine RW.valE (v' := .func (.func 81) #[] #[pp σ0.next]) (by kernel_rfl) (by kernel_rfl) rfl (by kernel_rfl) (by kernel_rfl) ?_
  refine RW.val (by kernel_rfl) (by kernel_rfl) rfl (by kernel_rfl) ?_
  refine RW.nil ?_
  refine W.ret ?_
  exact endG rfl (resL_tmp rfl) ⟨rfl, G1.set s2 (Nat.le_refl _), s2.nx.trans n1, s2.at_⟩
end
end Go.Proofs.YtehcckhdppdkcaaGreatDoor
namespace Go.Proofs.YtehcckhdppdkcaaGreatDoor
set_option maxRecDepth 100000
/-- What a call has laid behind the place s, over the rows of another memory. -/
structure LayB (h : Nat) (m : HM) (B : Mem) (s : Nat) (σ : Mem) (N : Nat) (L : List (Nat × Blk2)) : Prop where
  old : ∀ b y, B.get b = some y → σ.get b = some y
  is : B.next = s
  nx : s + N ≤ σ.next
  abs : σ.abs = heapAbs h m
  at_ : At σ s L
/-- What a comparison changes: rows under the place s, as said by two memories. -/
structure StepB (s : Nat) (B B' : Mem) (σ σ' : Mem) : Prop where
  keep : ∀ c z, s ≤ c → σ.get c = some z → σ'.get c = some z
  base : ∀ b y, B'.get b = some y → σ'.get b = some y
  is : B'.next = s
  nx : σ.next ≤ σ'.next
  abs : σ'.abs = σ.abs
theorem At.keepFrom {σ σ' : Mem} {s : Nat} (k : ∀ b y, s ≤ b → σ.get b = some y → σ'.get b = some y) : ∀ {L : List (Nat × Blk2)}, At σ s L → At σ' s L
  | [], h => h
  | (_, _) :: _, h => ⟨k _ _ (Nat.le_add_right _ _) h.1, At.keepFrom k h.2⟩
theorem At.keepTo {σ σ' : Mem} {s N : Nat} (k : ∀ b y, b < s + N → σ.get b = some y → σ'.get b = some y) : ∀ {L : List (Nat × Blk2)}, L.all (fun p => Nat.blt p.1 N) = true → At σ s L → At σ' s L
  | [], _, h => h
  | (o, _) :: _, hL, h => by
    simp only [List.all_cons, Bool.and_eq_true] at hL
    exact ⟨k _ _ (by have := Nat.le_of_ble_eq_true hL.1; omega) h.1, At.keepTo k hL.2 h.2⟩
section
variable {h : Nat} {m : HM} {B B' σ σ' : Mem} {s N : Nat} {L : List (Nat × Blk2)}
theorem LayB.grow (H : LayB h m B s σ N L) (g : Grow σ σ') : LayB h m B s σ' N L := ⟨fun b y hy => g.old b y (H.old b y hy), H.is, by have := H.nx; have := g.nx; omega, g.abs.trans H.abs, H.at_.keep g.old⟩
theorem LayB.set (H : LayB h m B s σ N L) {k : Nat} {y : Blk2} (t : Set1 σ σ' (s + k) y) : LayB h m B s σ' N (setAt L k y) := ⟨fun b z hz => t.old b z (by have := Mem.lt hz; have := H.is; omega) (H.old b z hz), H.is, by rw [t.nx]; exact H.nx, t.abs.trans H.abs, H.at_.set t⟩
theorem LayB.off (H : LayB h m B s σ N L) {b : Nat} {y : Blk2} (t : Set1 σ σ' b y) (hb : s + N ≤ b) (hL : L.all (fun p => Nat.blt p.1 N) = true) : LayB h m B s σ' N L := ⟨fun b z hz => t.old b z (by have := Mem.lt hz; have := H.is; omega) (H.old b z hz), H.is, by rw [t.nx]; exact H.nx, t.abs.trans H.abs, At.keepTo (fun c z hc hz => t.old c z (by omega) hz) hL H.at_⟩
theorem LayB.get (H : LayB h m B s σ N L) {k : Nat} {y : Blk2} (e : lookAt L k = some y) : σ.get (s + k) = some y := H.at_.get e
theorem LayB.add (H : LayB h m B s σ N L) {y : Blk2} (g : Grow σ σ') (e : σ.next = s + N) (ha : σ'.get σ.next = some y) (hn : σ'.next = σ.next + 1) : LayB h m B s σ' (N + 1) ((N, y) :: L) := ⟨(H.grow g).old, H.is, by omega, (H.grow g).abs, by rw [e] at ha; exact ha, (H.grow g).at_⟩
theorem LayB.step (H : LayB h m B s σ N L) (t : StepB s B B' σ σ') : LayB h m B' s σ' N L := ⟨t.base, t.is, by have := H.nx; have := t.nx; omega, t.abs.trans H.abs, H.at_.keepFrom t.keep⟩
end
noncomputable def findLB (h s : Nat) (x cur : Wd) (k : Nat) (rest : Wd) (lp : Blk2) (fv : Value) (pr : Bool) : List (Nat × Blk2) :=
  [(13, lp), (12, .defs true), (11, .row ⟨[pp (s + 8)], 94, false⟩), (10, wrow cur), (9, .row ⟨[pp h], 23, false⟩), (8, wrow rest), (7, .row ⟨[.int .i64 (k : Int)], 3, false⟩), (6, .row ⟨[.int .i64 0], 24, false⟩), (5, wrow (0, 0)), (4, .row ⟨[.bool pr], 4, false⟩), (3, .row ⟨[fv], 35, false⟩), (1, wrow x), (0, .row ⟨[pp h], 23, false⟩)]
/-- find has left its loop with a word and a number. -/
structure FStopB (h : Nat) (m : HM) (B : Mem) (s : Nat) (σ : Mem) (w : Wd) (e : Int) : Prop where
  lay : LayB h m B s σ 14 [(5, wrow w), (6, .row ⟨[.int .i64 e], 24, false⟩), (12, .defs true)]
  lp : ∃ nt' ta' ps' as' bo' df', σ.get (s + 13) = some (.loop .done (some .ret) nt' ta' ps' as' bo' df')
/-- A comparison's contract, from one memory that lies under it to another. -/
def SameB (G h : Nat) (m : HM) (f : FuncId) (ca : Array Value) (x el : Wd) (s : Nat) (B B' : Mem) : Prop :=
  ∀ σ, G ≤ σ.next → σ.abs = heapAbs h m → (∀ b y, B.get b = some y → σ.get b = some y) → WC G Tryz.prog f (List.toArray ((#[] : Array Value).toList ++ [pp h, wdV x, wdV el] ++ ca.toList)) σ fun v σ' => v = .tuple #[.bool (decide (x = el)), .int .i64 0] ∧ StepB s B B' σ σ'
section
variable {G h : Nat} {m : HM} {σ B B' : Mem} {s : Nat}
set_option maxHeartbeats 4000000 in
theorem findB_yield {x cur y rest el at_ : Wd} {pr : Bool} {k : Nat} {f : FuncId} {ca : Array Value} {TA : Nat → Value} (hpf : plainFn Tryz.prog f = true) (hG : G ≤ s) (H : LayB h m B s σ 14 (findLB h s x cur k rest (findLp (findTA s TA) (s + 12)) (.func (.func f) #[] ca) pr)) (hk : k < 65536)
    (hpr : (pr = true ∧ at_ = y ∧ ∃ d, m.find y = some (.pair el d)) ∨ (pr = false ∧ at_ = cur ∧ el = y)) (hs : SameB G h m f ca x el s B B') :
    Yield G Tryz.prog (s + 13) [wdV cur, wdV y] σ fun r σ' => (r = true → x ≠ el ∧ LayB h m B' s σ' 14 (findLB h s x cur (k + 1) rest (findLp (findTA s TA) (s + 12)) (.func (.func f) #[] ca) pr)) ∧
      (r = false → x = el ∧ FStopB h m B' s σ' at_ 0) := by
  have hnx := H.nx
  refine Yield.of (H.get (k := 13) rfl) rfl (by decide) ?_
  refine W.seq ?_
  refine W.region ?_
  refine RW.varS (d := 14) (r0 := ⟨[.int .i64 0, .int .i64 0], 37, false⟩) (vs := #[.int .i64 cur.1, .int .i64 cur.2]) (by kernel_rfl) (by kernel_rfl) (by kernel_rfl) rfl (by kernel_rfl) rfl (by kernel_rfl) rfl rfl rfl rfl (by kernel_rfl) rfl (by omega) ?_
  intro σ1 _ g1 o1 n1 a1
  have H1 := H.grow (⟨o1, by omega, a1⟩ : Grow σ σ1)
  refine RW.nil ?_
  refine W.region ?_
  refine RW.varS (d := 15) (r0 := ⟨[.int .i64 0, .int .i64 0], 37, false⟩) (vs := #[.int .i64 y.1, .int .i64 y.2]) (by kernel_rfl) (by kernel_rfl) (by kernel_rfl) rfl (by kernel_rfl) rfl (by kernel_rfl) rfl rfl rfl rfl (by kernel_rfl) rfl (by omega) ?_
  intro σ2 _ g2 o2 n2 a2
  have H2 := H1.grow (⟨o2, by omega, a2⟩ : Grow σ1 σ2)
  have g1 := o2 _ _ g1
  rw [n1] at g2
  refine RW.nil ?_
  refine ⟨rfl, H2.get (k := 13) rfl, fun σ3 s3 => ?_⟩
  have H3 := H2.set s3
  replace g1 := s3.old _ _ (by omega) g1
  replace g2 := s3.old _ _ (by omega) g2
  have n3 : σ3.next = σ.next + 2 := by rw [s3.nx]; omega
  clear H1 H2 s3 o1 o2 n2 a1 a2 H
  refine W.reset [(5, pp (s + 0)), (6, pp (s + 1)), (8, pp (s + 3)), (9, pp (s + 4)), (10, pp (s + 5)), (11, pp (s + 6)), (12, pp (s + 7)), (13, pp (s + 8)), (14, pp σ.next), (15, pp (σ.next + 1))] ⟨rfl, rfl, rfl, rfl, rfl, rfl, rfl, rfl, rfl, by show pp σ1.next = pp (σ.next + 1); rw [n1], trivial⟩ fun TB => ?_
  refine W.block ?_
  refine W.seq ?_
  refine W.seq ?_
  refine W.region ?_
  refine RW.load (by kernel_rfl) (by kernel_rfl) rfl rfl (H3.get (k := 7) rfl) rfl rfl (by kernel_rfl) ?_
  refine RW.valE (by kernel_rfl) (by kernel_rfl) rfl (congrArg (Value.int .i64) (wrap_in (by omega) (by omega))) (by kernel_rfl) ?_
  refine RW.set1G (b := s + 7) (v := .int .i64 ((k + 1 : Nat) : Int)) (by kernel_rfl) (by kernel_rfl) rfl rfl (by omega) (H3.get (k := 7) rfl) rfl rfl rfl (by kernel_rfl) rfl (by kernel_rfl) ?_; intro σ4 _ s4
  have H4 := H3.set s4
  replace g1 := s4.old _ _ (by omega) g1
  replace g2 := s4.old _ _ (by omega) g2
  have n4 := s4.nx
  refine RW.nil ?_
  refine W.seq ?_
  refine W.region ?_
  refine RW.load (by kernel_rfl) (by kernel_rfl) rfl rfl (H4.get (k := 7) rfl) rfl rfl (by kernel_rfl) ?_
  refine RW.valE (v' := .bool false) (by kernel_rfl) (by kernel_rfl) rfl (congrArg Value.bool (decide_eq_false (by omega))) (by kernel_rfl) ?_
  refine RW.nil ?_
  refine W.cond (b := false) rfl (fun h => by cases h) (fun _ => ?_)
  refine W.skip ?_
  refine W.seq ?_
  refine W.region ?_
  refine RW.loads 2 (by kernel_rfl) (by kernel_rfl) rfl rfl g1 rfl rfl (by kernel_rfl) ?_
  refine RW.varS (d := 16) (r0 := ⟨[.int .i64 0, .int .i64 0], 37, false⟩) (vs := #[.int .i64 cur.1, .int .i64 cur.2]) (by kernel_rfl) (by kernel_rfl) (by kernel_rfl) rfl (by kernel_rfl) rfl (by kernel_rfl) rfl rfl rfl rfl (by kernel_rfl) rfl (by omega) ?_
  intro σ5 _ g5 o5 n5 a5
  have HM := H4.grow (⟨o5, by omega, a5⟩ : Grow σ4 σ5)
  replace g1 := o5 _ _ g1
  replace g2 := o5 _ _ g2
  have n5' : σ4.next = σ.next + 2 := by omega
  rw [n5'] at g5
  refine RW.nil ?_
  clear H3 H4 s4
  refine W.seq ?_
  refine W.seq ?_
  refine W.region ?_
  refine RW.load (by kernel_rfl) (by kernel_rfl) rfl rfl (HM.get (k := 4) rfl) rfl rfl (by kernel_rfl) ?_
  refine RW.nil ?_
  refine W.reset [(5, pp (s + 0)), (6, pp (s + 1)), (8, pp (s + 3)), (9, pp (s + 4)), (10, pp (s + 5)), (11, pp (s + 6)), (12, pp (s + 7)), (13, pp (s + 8)), (14, pp σ.next), (15, pp (σ.next + 1)), (16, pp (σ.next + 2)), (35, .bool pr)] ⟨rfl, rfl, rfl, rfl, rfl, rfl, rfl, rfl, rfl, rfl, by show pp σ4.next = _; rw [n5'], rfl, trivial⟩ fun TC => ?_
  rcases hpr with ⟨rfl, rfl, d, hd⟩ | ⟨rfl, rfl, rfl⟩
  · refine W.cond (b := true) rfl (fun _ => ?_) (fun h => by cases h)
    refine W.seq ?_
    refine W.seq ?_
    refine W.region ?_
    refine RW.load (by kernel_rfl) (by kernel_rfl) rfl rfl (HM.get (k := 0) rfl) rfl rfl (by kernel_rfl) ?_
    refine RW.loads 2 (by kernel_rfl) (by kernel_rfl) rfl rfl g2 rfl rfl (by kernel_rfl) ?_
    refine RW.call (by kernel_rfl) (by kernel_rfl) rfl rfl rfl (by kernel_rfl) (by kernel_rfl) ((isCons_yes (G := G) (h := h) at_ el d (by omega) HM.abs hd).mono ?_)
    rintro _ σa ⟨rfl, Ga⟩
    replace HM := HM.grow Ga
    replace g2 := Ga.old _ _ g2
    replace g5 := Ga.old _ _ g5
    have na := Ga.nx
    refine RW.val (by kernel_rfl) (by kernel_rfl) rfl (by kernel_rfl) ?_
    refine RW.nil ?_
    refine W.cond (b := false) rfl (fun h => by cases h) (fun _ => ?_)
    refine W.skip ?_
    refine W.seq ?_
    refine W.region ?_
    refine RW.loads 2 (by kernel_rfl) (by kernel_rfl) rfl rfl g2 rfl rfl (by kernel_rfl) ?_
    refine RW.setG (b := σ.next + 2) (vs := #[.int .i64 at_.1, .int .i64 at_.2]) (by kernel_rfl) (by kernel_rfl) rfl rfl (by omega) g5 rfl rfl (by kernel_rfl) rfl (by kernel_rfl) ?_; intro σb _ sb
    refine RW.nil ?_
    replace HM := HM.off sb (by omega) (by kernel_rfl)
    replace g2 := sb.old _ _ (by omega) g2
    replace g5 := sb.at_
    have nb := sb.nx
    have CC := s_car (G := G) at_ HM.abs
    rw [car_of hd] at CC
    refine W.region ?_
    refine RW.load (by kernel_rfl) (by kernel_rfl) rfl rfl (HM.get (k := 0) rfl) rfl rfl (by kernel_rfl) ?_
    refine RW.loads 2 (by kernel_rfl) (by kernel_rfl) rfl rfl g2 rfl rfl (by kernel_rfl) ?_
    refine RW.call (by kernel_rfl) (by kernel_rfl) rfl rfl rfl (by kernel_rfl) (by kernel_rfl) ⟨_, _, CC, ?_⟩
    refine RW.val (by kernel_rfl) (by kernel_rfl) rfl (by kernel_rfl) ?_
    refine RW.val (by kernel_rfl) (by kernel_rfl) rfl (by kernel_rfl) ?_
    refine RW.val (by kernel_rfl) (by kernel_rfl) rfl (by kernel_rfl) ?_
    refine RW.setG (b := σ.next + 1) (vs := #[.int .i64 el.1, .int .i64 el.2]) (by kernel_rfl) (by kernel_rfl) rfl rfl (by omega) g2 rfl rfl (by kernel_rfl) rfl (by kernel_rfl) ?_; intro σc _ sc
    refine RW.nil ?_
    replace HM := HM.off sc (by omega) (by kernel_rfl)
    replace g5 := sc.old _ _ (by omega) g5
    replace g2 := sc.at_
    have nc := sc.nx
    refine W.seq ?_
    refine W.region ?_
    refine RW.load (by kernel_rfl) (by kernel_rfl) rfl rfl (HM.get (k := 3) rfl) rfl rfl (by kernel_rfl) ?_
    refine RW.load (by kernel_rfl) (by kernel_rfl) rfl rfl (HM.get (k := 0) rfl) rfl rfl (by kernel_rfl) ?_
    refine RW.loads 2 (by kernel_rfl) (by kernel_rfl) rfl rfl (HM.get (k := 1) rfl) rfl rfl (by kernel_rfl) ?_
    refine RW.loads 2 (by kernel_rfl) (by kernel_rfl) rfl rfl g2 rfl rfl (by kernel_rfl) ?_
    refine RW.call (by kernel_rfl) (by kernel_rfl) rfl rfl rfl hpf (by kernel_rfl) ((hs _ (by have := HM.nx; omega) HM.abs HM.old).mono ?_)
    rintro _ σ6 ⟨rfl, E6⟩
    have H6 := HM.step E6
    have n6 := E6.nx
    have g6 := E6.keep _ _ (by omega) g5
    refine RW.val (by kernel_rfl) (by kernel_rfl) rfl (by kernel_rfl) ?_
    refine RW.val (by kernel_rfl) (by kernel_rfl) rfl (by kernel_rfl) ?_
    refine RW.val (by kernel_rfl) (by kernel_rfl) rfl (by kernel_rfl) ?_
    refine RW.val (by kernel_rfl) (by kernel_rfl) rfl (by kernel_rfl) ?_
    refine RW.val (by kernel_rfl) (by kernel_rfl) rfl (by kernel_rfl) ?_
    refine RW.nil ?_
    refine W.block ?_
    refine W.seq ?_
    refine W.region ?_
    refine RW.val (by kernel_rfl) (by kernel_rfl) rfl (by kernel_rfl) ?_
    refine RW.valE (v' := .bool false) (by kernel_rfl) (by kernel_rfl) rfl (congrArg Value.bool (bne_eq_false_iff_eq.2 rfl)) (by kernel_rfl) ?_
    refine RW.val (by kernel_rfl) (by kernel_rfl) rfl (by kernel_rfl) ?_
    refine RW.nil ?_
    refine W.cond (b := false) rfl (fun h => by cases h) (fun _ => ?_)
    refine W.seq ?_
    refine W.region ?_
    refine RW.val (by kernel_rfl) (by kernel_rfl) rfl (by kernel_rfl) ?_
    refine RW.val (by kernel_rfl) (by kernel_rfl) rfl (by kernel_rfl) ?_
    refine RW.nil ?_
    by_cases hxy : x = el
    · refine W.cond (b := true) (by rw [decide_eq_true hxy]; rfl) (fun _ => ?_) (fun h => by cases h)
      refine W.seq ?_
      refine W.region ?_
      refine RW.loads 2 (by kernel_rfl) (by kernel_rfl) rfl rfl g6 rfl rfl (by kernel_rfl) ?_
      refine RW.setG (b := s + 5) (vs := #[.int .i64 at_.1, .int .i64 at_.2]) (by kernel_rfl) (by kernel_rfl) rfl rfl (by omega) (H6.get (k := 5) rfl) rfl rfl (by kernel_rfl) rfl (by kernel_rfl) ?_; intro σ7 _ s7
      have H7 := H6.set s7
      refine RW.set1G (b := s + 6) (v := .int .i64 0) (by kernel_rfl) (by kernel_rfl) rfl rfl (by omega) (H7.get (k := 6) rfl) rfl rfl rfl (by kernel_rfl) rfl (by kernel_rfl) ?_; intro σ8 _ s8
      have H8 := H7.set s8
      refine RW.nil ?_
      refine W.ret ?_
      refine ⟨H8.get (k := 13) rfl, _, _, _, rfl, fun σ9 s9 => ⟨fun h => (by cases h), fun _ => ⟨hxy, ?_⟩⟩⟩
      have H9 := H8.set s9
      exact ⟨⟨H9.old, H9.is, H9.nx, H9.abs, H9.get (k := 5) rfl, H9.get (k := 6) rfl, H9.get (k := 12) rfl, trivial⟩, _, _, _, _, _, _, s9.at_⟩
    · refine W.cond (b := false) (by rw [decide_eq_false hxy]; rfl) (fun h => by cases h) (fun _ => ?_)
      refine W.skip ?_
      refine ⟨H6.get (k := 13) rfl, _, _, _, rfl, fun σ9 s9 => ⟨fun _ => ⟨hxy, ?_⟩, fun h => (by cases h)⟩⟩
      exact H6.set s9
  · refine W.cond (b := false) rfl (fun h => by cases h) (fun _ => ?_)
    refine W.skip ?_
    refine W.seq ?_
    refine W.region ?_
    refine RW.load (by kernel_rfl) (by kernel_rfl) rfl rfl (HM.get (k := 3) rfl) rfl rfl (by kernel_rfl) ?_
    refine RW.load (by kernel_rfl) (by kernel_rfl) rfl rfl (HM.get (k := 0) rfl) rfl rfl (by kernel_rfl) ?_
    refine RW.loads 2 (by kernel_rfl) (by kernel_rfl) rfl rfl (HM.get (k := 1) rfl) rfl rfl (by kernel_rfl) ?_
    refine RW.loads 2 (by kernel_rfl) (by kernel_rfl) rfl rfl g2 rfl rfl (by kernel_rfl) ?_
    refine RW.call (by kernel_rfl) (by kernel_rfl) rfl rfl rfl hpf (by kernel_rfl) ((hs _ (by have := HM.nx; omega) HM.abs HM.old).mono ?_)
    rintro _ σ6 ⟨rfl, E6⟩
    have H6 := HM.step E6
    have n6 := E6.nx
    have g6 := E6.keep _ _ (by omega) g5
    refine RW.val (by kernel_rfl) (by kernel_rfl) rfl (by kernel_rfl) ?_
    refine RW.val (by kernel_rfl) (by kernel_rfl) rfl (by kernel_rfl) ?_
    refine RW.val (by kernel_rfl) (by kernel_rfl) rfl (by kernel_rfl) ?_
    refine RW.val (by kernel_rfl) (by kernel_rfl) rfl (by kernel_rfl) ?_
    refine RW.val (by kernel_rfl) (by kernel_rfl) rfl (by kernel_rfl) ?_
    refine RW.nil ?_
    refine W.block ?_
    refine W.seq ?_
    refine W.region ?_
    refine RW.val (by kernel_rfl) (by kernel_rfl) rfl (by kernel_rfl) ?_
    refine RW.valE (v' := .bool false) (by kernel_rfl) (by kernel_rfl) rfl (congrArg Value.bool (bne_eq_false_iff_eq.2 rfl)) (by kernel_rfl) ?_
    refine RW.val (by kernel_rfl) (by kernel_rfl) rfl (by kernel_rfl) ?_
    refine RW.nil ?_
    refine W.cond (b := false) rfl (fun h => by cases h) (fun _ => ?_)
    refine W.seq ?_
    refine W.region ?_
    refine RW.val (by kernel_rfl) (by kernel_rfl) rfl (by kernel_rfl) ?_
    refine RW.val (by kernel_rfl) (by kernel_rfl) rfl (by kernel_rfl) ?_
    refine RW.nil ?_
    by_cases hxy : x = el
    · refine W.cond (b := true) (by rw [decide_eq_true hxy]; rfl) (fun _ => ?_) (fun h => by cases h)
      refine W.seq ?_
      refine W.region ?_
      refine RW.loads 2 (by kernel_rfl) (by kernel_rfl) rfl rfl g6 rfl rfl (by kernel_rfl) ?_
      refine RW.setG (b := s + 5) (vs := #[.int .i64 at_.1, .int .i64 at_.2]) (by kernel_rfl) (by kernel_rfl) rfl rfl (by omega) (H6.get (k := 5) rfl) rfl rfl (by kernel_rfl) rfl (by kernel_rfl) ?_; intro σ7 _ s7
      have H7 := H6.set s7
      refine RW.set1G (b := s + 6) (v := .int .i64 0) (by kernel_rfl) (by kernel_rfl) rfl rfl (by omega) (H7.get (k := 6) rfl) rfl rfl rfl (by kernel_rfl) rfl (by kernel_rfl) ?_; intro σ8 _ s8
      have H8 := H7.set s8
      refine RW.nil ?_
      refine W.ret ?_
      refine ⟨H8.get (k := 13) rfl, _, _, _, rfl, fun σ9 s9 => ⟨fun h => (by cases h), fun _ => ⟨hxy, ?_⟩⟩⟩
      have H9 := H8.set s9
      exact ⟨⟨H9.old, H9.is, H9.nx, H9.abs, H9.get (k := 5) rfl, H9.get (k := 6) rfl, H9.get (k := 12) rfl, trivial⟩, _, _, _, _, _, _, s9.at_⟩
    · refine W.cond (b := false) (by rw [decide_eq_false hxy]; rfl) (fun h => by cases h) (fun _ => ?_)
      refine W.skip ?_
      refine ⟨H6.get (k := 13) rfl, _, _, _, rfl, fun σ9 s9 => ⟨fun _ => ⟨hxy, ?_⟩, fun h => (by cases h)⟩⟩
      exact H6.set s9
end
end Go.Proofs.YtehcckhdppdkcaaGreatDoor
namespace Go.Proofs.YtehcckhdppdkcaaGreatDoor
set_option maxRecDepth 100000
/-- What find answers on a list that ends with Nil. -/
def FindB (x : Wd) (n : Nat) (el at_ : Nat → Wd) (B : Nat → Mem) (σ0 : Mem) (v : Value) (σ' : Mem) : Prop :=
  (∃ k, k ≤ n ∧ ∀ b y, (B k).get b = some y → σ'.get b = some y) ∧ σ0.next ≤ σ'.next ∧ σ'.abs = σ0.abs ∧
    ((∃ i, i < n ∧ x = el i ∧ (∀ j, j < i → x ≠ el j) ∧ v = .tuple #[wdV (at_ i), .int .i64 0]) ∨ ((∀ j, j < n → x ≠ el j) ∧ v = .tuple #[wdV (1, 0), .int .i64 0]))
section
variable {G h : Nat} {m : HM} {σ σ0 : Mem}
set_option maxHeartbeats 4000000 in
theorem findB_wc (x : Wd) (pr : Bool) {f : FuncId} {ca : Array Value} (hpf : plainFn Tryz.prog f = true) (B : Nat → Mem) (hB : ∀ k, (B k).next = σ0.next) (hB0 : ∀ b y, (B 0).get b = some y → σ0.get b = some y) (hG : G ≤ σ0.next) (ha : σ0.abs = heapAbs h m) (hlim : 0 < m.limit) {c a el at_ : Nat → Wd} {n : Nat} (hp : Path m c a n) (hn : n ≤ 65536) (hc : c n = (1, 0))
    (hpr : ∀ k, k < n → (pr = true ∧ at_ k = a k ∧ ∃ d, m.find (a k) = some (.pair (el k) d)) ∨ (pr = false ∧ at_ k = c k ∧ el k = a k)) (hs : ∀ k, k < n → SameB G h m f ca x (el k) σ0.next (B k) (B (k + 1))) :
    WC G Tryz.prog 60 #[pp h, wdV x, wdV (c 0), .func (.func f) #[] ca, .bool pr] σ0 (FindB x n el at_ B σ0) := by
  refine WC.enterD (fn := Tryz.f60) Tryz.func60 rfl ?_
  refine W.seq ?_
  refine W.region ?_
  have H0 : LayB h m (B 0) σ0.next σ0 0 [] := ⟨hB0, hB 0, Nat.le_refl _, ha, trivial⟩
  refine RW.makeG (x := .row ⟨[pp h], 23, false⟩) (fm := fun b => .pointer (some ⟨b, 0, none⟩)) (by kernel_rfl) (by kernel_rfl) (by kernel_rfl) (by kernel_rfl) ?_; intro σ1 _ g1 G1 n1
  have H1 := H0.add G1 rfl g1 n1
  have e1 : σ1.next = σ0.next + 1 := by omega
  refine RW.makeG (x := .row ⟨[.int .i64 x.1, .int .i64 x.2], 37, false⟩) (fm := fun b => .pointer (some ⟨b, 0, none⟩)) (by kernel_rfl) (by kernel_rfl) (by kernel_rfl) (by kernel_rfl) ?_; intro σ2 _ g2 G2 n2
  rw [e1] at g2
  have H2 := H1.add G2 e1 (by rw [e1]; exact g2) n2
  have e2 : σ2.next = σ0.next + 2 := by omega
  refine RW.makeG (x := .row ⟨[.int .i64 (c 0).1, .int .i64 (c 0).2], 37, false⟩) (fm := fun b => .pointer (some ⟨b, 0, none⟩)) (by kernel_rfl) (by kernel_rfl) (by kernel_rfl) (by kernel_rfl) ?_; intro σ3 _ g3 G3 n3
  have H3 := H2.add G3 e2 g3 n3
  have e3 : σ3.next = σ0.next + 3 := by omega
  refine RW.makeG (x := .row ⟨[.func (.func f) #[] ca], 35, false⟩) (fm := fun b => .pointer (some ⟨b, 0, none⟩)) (by kernel_rfl) (by kernel_rfl) (by kernel_rfl) (by kernel_rfl) ?_; intro σ4 _ g4 G4 n4
  have H4 := H3.add G4 e3 g4 n4
  have e4 : σ4.next = σ0.next + 4 := by omega
  refine RW.makeG (x := .row ⟨[.bool pr], 4, false⟩) (fm := fun b => .pointer (some ⟨b, 0, none⟩)) (by kernel_rfl) (by kernel_rfl) (by kernel_rfl) (by kernel_rfl) ?_; intro σ5 _ g5 G5 n5
  have H5 := H4.add G5 e4 g5 n5
  have e5 : σ5.next = σ0.next + 5 := by omega
  refine RW.makeG (x := .row ⟨[.int .i64 0, .int .i64 0], 37, false⟩) (fm := fun b => .pointer (some ⟨b, 0, none⟩)) (by kernel_rfl) (by kernel_rfl) (by kernel_rfl) (by kernel_rfl) ?_; intro σ6 _ g6 G6 n6
  have H6 := H5.add G6 e5 g6 n6
  have e6 : σ6.next = σ0.next + 6 := by omega
  refine RW.makeG (x := .row ⟨[.int .i64 0], 24, false⟩) (fm := fun b => .pointer (some ⟨b, 0, none⟩)) (by kernel_rfl) (by kernel_rfl) (by kernel_rfl) (by kernel_rfl) ?_; intro σ7 _ g7 G7 n7
  have H7 := H6.add G7 e6 g7 n7
  have e7 : σ7.next = σ0.next + 7 := by omega
  rw [e1, e2, e3, e4, e5, e6]
  refine RW.nil ?_
  refine W.reset [(5, pp (σ0.next + 0)), (6, pp (σ0.next + 1)), (7, pp (σ0.next + 2)), (8, pp (σ0.next + 3)), (9, pp (σ0.next + 4)), (10, pp (σ0.next + 5)), (11, pp (σ0.next + 6))] ⟨rfl, rfl, rfl, rfl, rfl, rfl, rfl, trivial⟩ fun TA => ?_
  clear H0 H1 H2 H3 H4 H5 H6 g1 g2 g3 g4 g5 g6 g7 G1 G2 G3 G4 G5 G6 G7
  refine W.seq ?_
  refine W.seq ?_
  refine W.region ?_
  refine RW.load (by kernel_rfl) (by kernel_rfl) rfl rfl (H7.get (k := 0) rfl) rfl rfl (by kernel_rfl) ?_
  refine RW.call (by kernel_rfl) (by kernel_rfl) rfl rfl rfl (by kernel_rfl) (by kernel_rfl) ((made_wc (G := G) (h := h) H7.abs hlim).mono ?_)
  rintro _ σ' ⟨rfl, hσ⟩
  obtain rfl := hσ.symm
  refine RW.val (by kernel_rfl) (by kernel_rfl) rfl (by kernel_rfl) ?_
  refine RW.nil ?_
  refine W.cond (b := false) rfl (fun h => by cases h) (fun _ => ?_)
  refine W.skip ?_
  refine W.seq ?_
  have q2 := H7.get (k := 2) rfl
  have H8 := H7.add (y := .row ⟨[.int .i64 0], 3, false⟩) (σ' := σ7.push (.row ⟨[.int .i64 0], 3, false⟩)) ⟨fun _ _ h => get_push_old h, Nat.le_succ _, rfl⟩ e7 get_push rfl
  have e8 : (σ7.push (.row ⟨[.int .i64 0], 3, false⟩)).next = σ0.next + 8 := by show σ7.next + 1 = _; omega
  have H9 := H8.add (y := .row ⟨[.int .i64 0, .int .i64 0], 37, false⟩) (σ' := (σ7.push (.row ⟨[.int .i64 0], 3, false⟩)).push (.row ⟨[.int .i64 0, .int .i64 0], 37, false⟩)) ⟨fun _ _ h => get_push_old h, Nat.le_succ _, rfl⟩ e8 get_push rfl
  have H10 := H9.set (set1_put (x := .row ⟨[.int .i64 0], 3, false⟩) (H9.get (k := 7) rfl))
  have H11 := H10.set (set1_put (x := wrow (c 0)) (H10.get (k := 8) rfl))
  refine W.drawn (by kernel_rfl) (by kernel_rfl) (by omega) ?_
  refine RW.loads 2 (by kernel_rfl) (by kernel_rfl) rfl rfl (H7.get (k := 2) rfl) rfl rfl (by kernel_rfl) ?_
  refine RW.make (x := .row ⟨[.int .i64 0], 3, false⟩) (fm := fun b => .pointer (some ⟨b, 0, none⟩)) (by kernel_rfl) (by kernel_rfl) (by kernel_rfl) (by kernel_rfl) ?_
  refine RW.make (x := .row ⟨[.int .i64 0, .int .i64 0], 37, false⟩) (fm := fun b => .pointer (some ⟨b, 0, none⟩)) (by kernel_rfl) (by kernel_rfl) (by kernel_rfl) (by kernel_rfl) ?_
  rw [e8, e7]
  refine RW.store (b := σ0.next + 7) (v := .int .i64 0) (by kernel_rfl) (by kernel_rfl) rfl rfl (by omega) (H9.get (k := 7) rfl) rfl rfl rfl (by kernel_rfl) (by show 0 < 1; omega) (by kernel_rfl) ?_
  refine RW.stores (b := σ0.next + 8) (p := 0) (vs := #[.int .i64 (c 0).1, .int .i64 (c 0).2]) (by kernel_rfl) (by kernel_rfl) rfl rfl (by omega) (H10.get (k := 8) rfl) rfl rfl (by kernel_rfl) (by show 0 + 2 ≤ 2; omega) (by kernel_rfl) ?_
  refine RW.nil ?_
  refine ⟨⟨by kernel_rfl, ?_⟩, ?_⟩
  · repeat' (first | exact True.intro | refine dyn_row q2 (H11.get (k := 2) rfl) ?_ | exact Or.inl (by kernel_rfl) | exact fun h => Bool.noConfusion h | exact fun _ => H9.get (k := 2) rfl | exact fun _ => H10.get (k := 2) rfl | refine And.intro ?_ ?_)
  show W G Tryz.prog none 68 _ _ [] ((((σ7.push (.row ⟨[.int .i64 0], 3, false⟩)).push (.row ⟨[.int .i64 0, .int .i64 0], 37, false⟩)).put (σ0.next + 7) (.row ⟨[.int .i64 0], 3, false⟩)).put (σ0.next + 8) (wrow (c 0))) _
  have e9 : ((((σ7.push (.row ⟨[.int .i64 0], 3, false⟩)).push (.row ⟨[.int .i64 0, .int .i64 0], 37, false⟩)).put (σ0.next + 7) (.row ⟨[.int .i64 0], 3, false⟩)).put (σ0.next + 8) (wrow (c 0))).next = σ0.next + 9 := by show σ7.next + 1 + 1 = _; omega
  clear H8 H9 H10 q2 e8
  generalize (((σ7.push (.row ⟨[.int .i64 0], 3, false⟩)).push (.row ⟨[.int .i64 0, .int .i64 0], 37, false⟩)).put (σ0.next + 7) (.row ⟨[.int .i64 0], 3, false⟩)).put (σ0.next + 8) (wrow (c 0)) = σ9 at H11 e9 ⊢
  refine W.reset [(5, pp (σ0.next + 0)), (6, pp (σ0.next + 1)), (7, pp (σ0.next + 2)), (8, pp (σ0.next + 3)), (9, pp (σ0.next + 4)), (10, pp (σ0.next + 5)), (11, pp (σ0.next + 6)), (12, pp (σ0.next + 7)), (13, pp (σ0.next + 8))] ⟨rfl, rfl, rfl, rfl, rfl, rfl, rfl, rfl, rfl, trivial⟩ fun TB => ?_
  refine W.seq ?_
  refine W.seq ?_
  refine W.region ?_
  refine RW.load (by kernel_rfl) (by kernel_rfl) rfl rfl (H11.get (k := 0) rfl) rfl rfl (by kernel_rfl) ?_
  refine RW.loads 2 (by kernel_rfl) (by kernel_rfl) rfl rfl (H11.get (k := 2) rfl) rfl rfl (by kernel_rfl) ?_
  refine RW.call (by kernel_rfl) (by kernel_rfl) rfl rfl rfl (by kernel_rfl) (by kernel_rfl) ((conses_wc (c 0) (σ0.next + 8) (by omega)).mono ?_)
  rintro _ σ10 ⟨rfl, G10, n10, c3, c4, c5⟩
  refine RW.nil ?_
  rw [e9] at n10 c3 c4 c5
  rw [e9]
  refine W.block ?_
  have H12 := H11.grow G10
  have hn10 : σ10.next = σ0.next + 12 := n10
  refine W.reset [(5, pp (σ0.next + 0)), (6, pp (σ0.next + 1)), (8, pp (σ0.next + 3)), (9, pp (σ0.next + 4)), (10, pp (σ0.next + 5)), (11, pp (σ0.next + 6)), (12, pp (σ0.next + 7)), (13, pp (σ0.next + 8)), (26, .func (.func 87) #[] #[pp (σ0.next + 9), pp (σ0.next + 10), pp (σ0.next + 11)])] ⟨rfl, rfl, rfl, rfl, rfl, rfl, rfl, rfl, rfl, trivial⟩ fun TC => ?_
  refine W.range (fa := #[]) (ca := #[pp (σ0.next + 9), pp (σ0.next + 10), pp (σ0.next + 11)]) rfl (fun i h => by cases h) (fun v h => by cases h) (by kernel_rfl) ?_
  rw [hn10]
  obtain ⟨TD, hTD⟩ : ∃ t, t = updL TC [(26, .func (.func 87) #[] #[pp (σ0.next + 9), pp (σ0.next + 10), pp (σ0.next + 11)])] := ⟨_, rfl⟩
  obtain ⟨σ11, h11⟩ : ∃ s, s = (σ10.push (.defs true)).push (findLp (findTA σ0.next TD) (σ0.next + 12)) := ⟨_, rfl⟩
  have G11 : Grow σ10 σ11 := by
    rw [h11]
    exact ⟨fun b y hy => get_push_old (get_push_old hy), by show σ10.next ≤ σ10.next + 1 + 1; omega, rfl⟩
  have hn11 : σ11.next = σ0.next + 14 := by rw [h11]; show σ10.next + 1 + 1 = _; omega
  have d11 : σ11.get (σ0.next + 12) = some (.defs true) := by rw [h11, ← hn10]; exact get_push_old get_push
  have l11 : σ11.get (σ0.next + 13) = some (findLp (findTA σ0.next TD) (σ0.next + 12)) := by
    rw [h11, show σ0.next + 13 = (σ10.push (.defs true)).next by show _ = σ10.next + 1; omega]
    exact get_push
  have H13 := H12.grow G11
  have S0 : LayB h m (B 0) σ0.next σ11 14 (findLB h σ0.next x (c 0) 0 (c 0) (findLp (findTA σ0.next TD) (σ0.next + 12)) (.func (.func f) #[] ca) pr) :=
    ⟨H13.old, hB 0, by omega, H13.abs, l11, d11, G11.old _ _ c5, G11.old _ _ c4, G11.old _ _ c3, H13.get (k := 8) rfl, H13.get (k := 7) rfl, H13.get (k := 6) rfl, H13.get (k := 5) rfl, H13.get (k := 4) rfl, H13.get (k := 3) rfl, H13.get (k := 1) rfl, H13.get (k := 0) rfl, trivial⟩
  rw [show updL TC [(5, pp (σ0.next + 0)), (6, pp (σ0.next + 1)), (8, pp (σ0.next + 3)), (9, pp (σ0.next + 4)), (10, pp (σ0.next + 5)), (11, pp (σ0.next + 6)), (12, pp (σ0.next + 7)), (13, pp (σ0.next + 8)), (26, .func (.func 87) #[] #[pp (σ0.next + 9), pp (σ0.next + 10), pp (σ0.next + 11)])] = findTA σ0.next TD by rw [hTD]; rfl]
  show WC G Tryz.prog 87 #[.func (.yield (σ0.next + 13)) #[] #[], pp (σ0.next + 9), pp (σ0.next + 10), pp (σ0.next + 11)] ((σ10.push (.defs true)).push (findLp (findTA σ0.next TD) (σ0.next + 12))) _
  rw [← h11]
  clear h11 H7 H11 H12 H13 c3 c4 c5 d11 l11 G10 G11
  generalize hLP : findLp (findTA σ0.next TD) (σ0.next + 12) = LP at S0
  refine (consesLoop (h := h) (m := m) (c := c) (a := a) (n := n) (b3 := σ0.next + 9) (b4 := σ0.next + 10) (b5 := σ0.next + 11) (b7 := σ0.next + 8) (L := σ0.next + 13) hp (by omega) (by omega) (by omega) (I := fun k σ => k ≤ n ∧ (∀ j, j < k → x ≠ el j) ∧ ∃ rest, LayB h m (B k) σ0.next σ 14 (findLB h σ0.next x (c k) k rest LP (.func (.func f) #[] ca) pr)) (J := fun k σ => k < n ∧ (∀ j, j < k + 1 → x ≠ el j) ∧ ∃ rest, LayB h m (B (k + 1)) σ0.next σ 14 (findLB h σ0.next x (c k) (k + 1) rest LP (.func (.func f) #[] ca) pr))
    (R := fun σ => ((∀ j, j < n → x ≠ el j) ∧ LayB h m (B n) σ0.next σ 14 (findLB h σ0.next x (c n) n (c n) LP (.func (.func f) #[] ca) pr)) ∨ (∃ i, i < n ∧ x = el i ∧ (∀ j, j < i → x ≠ el j) ∧ FStopB h m (B (i + 1)) σ0.next σ (at_ i) 0)) ?_ ?_ ?_ ?_ ?_ ?_ ⟨by omega, fun j hj => absurd hj (by omega), c 0, S0⟩).mono ?_
  · rintro k σ ⟨_, _, rest, S⟩
    exact ⟨by have := S.nx; omega, S.abs, S.get (k := 9) rfl, S.get (k := 10) rfl, S.get (k := 11) rfl⟩
  · rintro k σ σ' ⟨hk, hno, rest, S⟩ g
    exact ⟨hk, hno, rest, S.grow g⟩
  · rintro k σ hkn ⟨hk, hno, rest, S⟩
    subst hLP
    refine (findB_yield (y := a k) (at_ := at_ k) (el := el k) hpf hG S (by omega) (hpr k hkn) (hs k hkn)).mono fun r σ' hr => ⟨fun e => ?_, fun e => ?_⟩
    · obtain ⟨h2, h3⟩ := hr.1 e
      refine ⟨hkn, fun j hj => ?_, rest, h3⟩
      rcases Nat.lt_or_ge j k with h4 | h4
      · exact hno j h4
      · obtain rfl : j = k := by omega
        exact h2
    · obtain ⟨h2, h3⟩ := hr.2 e
      exact .inr ⟨k, hkn, h2, hno, h3⟩
  · rintro k σ ⟨_, _, rest, S⟩
    exact ⟨S.abs, S.get (k := 9) rfl, S.get (k := 10) rfl⟩
  · rintro k σ σ' ⟨hk, hno, rest, S⟩ s
    exact ⟨by omega, hno, rest, S.set s⟩
  · rintro σ ⟨hk, hno, rest, S⟩
    exact ⟨.inl (by rw [hc]; decide), rest, S.get (k := 8) rfl, fun σ1 σ2 g s => .inl ⟨hno, (S.grow g).set s⟩⟩
  · rintro _ σ12 (⟨hno, H⟩ | ⟨i, hin, hx, hno, HL, nt', ta', ps', as', bo', df', hl⟩)
    · have hnx := H.nx
      subst hLP
      refine ⟨_, _, _, _, _, _, _, _, .normal, H.get (k := 13) rfl, rfl, rfl, ?_⟩
      have sL := set1_put (x := .loop .exhausted none 68 (findTA σ0.next TD) (rangePs findR) (rangeAs findR) (rangeBo findR) (σ0.next + 12)) (H.get (k := 13) rfl)
      generalize σ12.put (σ0.next + 13) (.loop .exhausted none 68 (findTA σ0.next TD) (rangePs findR) (rangeAs findR) (rangeBo findR) (σ0.next + 12)) = σ13 at sL
      have H3 := H.set sL
      have n13 := sL.nx
      clear sL
      refine W.seq ?_
      refine W.seq ?_
      refine W.region ?_
      refine RW.loads 2 (by kernel_rfl) (by kernel_rfl) rfl rfl (H3.get (k := 8) rfl) rfl rfl (by kernel_rfl) ?_
      refine RW.call (by kernel_rfl) (by kernel_rfl) rfl rfl rfl (by kernel_rfl) (by kernel_rfl) ((null_wc (c n) (by omega)).mono ?_)
      rintro _ σ14 ⟨rfl, G14⟩
      have H4 := H3.grow G14
      have n14 := G14.nx
      · rw [decide_eq_true hc]
        refine RW.val (by kernel_rfl) (by kernel_rfl) rfl (by kernel_rfl) ?_
        refine RW.nil ?_
        refine W.cond (b := false) rfl (fun h => by cases h) (fun _ => ?_)
        refine W.skip ?_
        refine W.seq ?_
        refine W.region ?_
        refine RW.call (by kernel_rfl) (by kernel_rfl) rfl rfl rfl (by kernel_rfl) (by kernel_rfl) ⟨_, _, s_none, ?_⟩
        refine RW.setG (b := σ0.next + 5) (vs := #[.int .i64 1, .int .i64 0]) (by kernel_rfl) (by kernel_rfl) rfl rfl (by omega) (H4.get (k := 5) rfl) rfl rfl (by kernel_rfl) rfl (by kernel_rfl) ?_; intro σ15 _ s15
        have H5 := H4.set s15
        refine RW.set1G (b := σ0.next + 6) (v := .int .i64 0) (by kernel_rfl) (by kernel_rfl) rfl rfl (by omega) (H5.get (k := 6) rfl) rfl rfl rfl (by kernel_rfl) rfl (by kernel_rfl) ?_; intro σ16 _ s16
        have H6 := H5.set s16
        refine RW.nil ?_
        refine W.ret ?_
        have p12 := H6.get (k := 12) rfl
        have H7 := H6.set (set1_put (x := .defs false) p12)
        exact endGD rfl p12 (by omega) (resW rfl (H7.get (k := 5) rfl) (resE rfl (H7.get (k := 6) rfl) rfl)) ⟨⟨n, Nat.le_refl _, H7.old⟩, by have := H7.nx; omega, H7.abs.trans ha.symm, .inr ⟨hno, rfl⟩⟩
    · refine ⟨_, _, _, _, _, _, _, _, .ret, hl, rfl, rfl, ?_⟩
      have sL := set1_put (x := .loop .exhausted (some .ret) nt' ta' ps' as' bo' df') hl
      generalize σ12.put (σ0.next + 13) (.loop .exhausted (some .ret) nt' ta' ps' as' bo' df') = σ13 at sL
      have H3 := HL.set sL
      have p12 := H3.get (k := 12) rfl
      have H4 := H3.set (set1_put (x := .defs false) p12)
      exact endGD rfl p12 (by omega) (resW rfl (H4.get (k := 5) rfl) (resE rfl (H4.get (k := 6) rfl) rfl)) ⟨⟨i + 1, hin, H4.old⟩, by have := H4.nx; omega, H4.abs.trans ha.symm, .inl ⟨i, hin, hx, hno, rfl⟩⟩
theorem assq_wc (x : Wd) (hG : G ≤ σ0.next) (ha : σ0.abs = heapAbs h m) (hlim : 0 < m.limit) {c a el : Nat → Wd} {n : Nat} (hp : Path m c a n) (hn : n ≤ 65536) (hc : c n = (1, 0)) (hpr : ∀ k, k < n → ∃ d, m.find (a k) = some (.pair (el k) d)) :
    WC G Tryz.prog 36 #[pp h, wdV x, wdV (c 0)] σ0 fun v σ' => Grow σ0 σ' ∧ ((∃ i, i < n ∧ x = el i ∧ (∀ j, j < i → x ≠ el j) ∧ v = .tuple #[wdV (a i), .int .i64 0]) ∨ ((∀ j, j < n → x ≠ el j) ∧ v = .tuple #[wdV (1, 0), .int .i64 0])) := by
  refine WC.enter (fn := Tryz.f36) Tryz.func36 rfl ?_
  refine W.know 0 (x := pp h) rfl ?_
  refine W.seq ?_
  refine W.region ?_
  refine RW.makeG (x := .row ⟨[.int .i64 x.1, .int .i64 x.2], 37, false⟩) (fm := fun b => .pointer (some ⟨b, 0, none⟩)) (by kernel_rfl) (by kernel_rfl) (by kernel_rfl) (by kernel_rfl) ?_; intro σ1 _ g1 G1 n1
  refine RW.makeG (x := .row ⟨[.int .i64 (c 0).1, .int .i64 (c 0).2], 37, false⟩) (fm := fun b => .pointer (some ⟨b, 0, none⟩)) (by kernel_rfl) (by kernel_rfl) (by kernel_rfl) (by kernel_rfl) ?_; intro σ2 _ g2 G2 n2
  refine RW.makeG (x := .row ⟨[.int .i64 0, .int .i64 0], 37, false⟩) (fm := fun b => .pointer (some ⟨b, 0, none⟩)) (by kernel_rfl) (by kernel_rfl) (by kernel_rfl) (by kernel_rfl) ?_; intro σ3 _ g3 G3 n3
  rw [n1] at g2 n2 ⊢
  rw [n2] at g3 n3 ⊢
  refine RW.val (by kernel_rfl) (by kernel_rfl) rfl (by kernel_rfl) ?_
  refine RW.nil ?_
  have GG := (G1.trans G2).trans G3
  have g1 := G3.old _ _ (G2.old _ _ g1)
  have g2 := G3.old _ _ g2
  refine W.seq ?_
  refine W.region ?_
  refine RW.val (by kernel_rfl) (by kernel_rfl) rfl (by kernel_rfl) ?_
  refine RW.loads 2 (by kernel_rfl) (by kernel_rfl) rfl rfl g1 rfl rfl (by kernel_rfl) ?_
  refine RW.loads 2 (by kernel_rfl) (by kernel_rfl) rfl rfl g2 rfl rfl (by kernel_rfl) ?_
  refine RW.call (by kernel_rfl) (by kernel_rfl) rfl rfl rfl (by kernel_rfl) (by kernel_rfl) ((findB_wc (G := G) (h := h) (m := m) (f := 61) (ca := #[]) (at_ := a) (el := el) x true (by kernel_rfl) (fun _ => σ3) (fun _ => rfl) (fun _ _ h => h) (by omega) (GG.abs.trans ha) hlim hp hn hc (fun k hk => .inl ⟨rfl, rfl, hpr k hk⟩) (fun k hk σ hg hab hold => (eq_wc (pp h) x (el k) hg).mono fun v σ' hv => ⟨hv.1, fun c z _ hz => hv.2.old c z hz, fun b y hy => hv.2.old b y (hold b y hy), rfl, hv.2.nx, hv.2.abs⟩)).mono ?_)
  rintro v σ4 ⟨⟨_, _, ho⟩, n4, a4, hv⟩
  have G4 : Grow σ3 σ4 := ⟨ho, n4, a4⟩
  have g3 := G4.old _ _ g3
  obtain ⟨w, hw, hv2⟩ : ∃ w, v = .tuple #[wdV w, .int .i64 0] ∧ ((∃ i, i < n ∧ x = el i ∧ (∀ j, j < i → x ≠ el j) ∧ w = a i) ∨ ((∀ j, j < n → x ≠ el j) ∧ w = (1, 0))) := by
    rcases hv with ⟨i, h1, h2, h3, h4⟩ | ⟨h1, h2⟩
    · exact ⟨_, h4, .inl ⟨i, h1, h2, h3, rfl⟩⟩
    · exact ⟨_, h2, .inr ⟨h1, rfl⟩⟩
  subst hw
  refine RW.val (by kernel_rfl) (by kernel_rfl) rfl (by kernel_rfl) ?_
  refine RW.val (by kernel_rfl) (by kernel_rfl) rfl (by kernel_rfl) ?_
  refine RW.setG (b := σ0.next + 1 + 1) (vs := #[.int .i64 w.1, .int .i64 w.2]) (by kernel_rfl) (by kernel_rfl) rfl rfl (by omega) g3 rfl rfl (by kernel_rfl) rfl (by kernel_rfl) ?_; intro σ5 _ s5
  refine RW.val (by kernel_rfl) (by kernel_rfl) rfl (by kernel_rfl) ?_
  refine RW.nil ?_
  refine W.ret ?_
  refine endG rfl (resW rfl s5.at_ (resL_tmp rfl)) ⟨(GG.trans G4).set s5 (by omega), ?_⟩
  rcases hv2 with ⟨i, h1, h2, h3, rfl⟩ | ⟨h1, rfl⟩
  · exact .inl ⟨i, h1, h2, h3, rfl⟩
  · exact .inr ⟨h1, rfl⟩
/-- A memory in which one row is said otherwise. -/
theorem put_old {b : Nat} {x z : Blk2} (h0 : σ.get b = some z) {σ' : Mem} (hat : σ'.get b = some x) (ho : ∀ c y, c ≠ b → σ.get c = some y → σ'.get c = some y) : ∀ c y, (σ.put b x).get c = some y → σ'.get c = some y := fun c y hy => by
  rw [Mem.put_get _ (Mem.lt h0)] at hy
  by_cases hc : c = b
  · rw [if_pos hc] at hy
    cases hy
    rw [hc]; exact hat
  · rw [if_neg hc] at hy
    exact ho c y hc hy
/-- The closure of counted on ints, in find's terms. -/
theorem sameB_counted (a b : Int) {L n k : Nat} (hlim : 0 < m.limit) (hL : G ≤ L) {z : Blk2} (hl : σ0.get L = some z) (hk : k < n) (hn2 : n ≤ 1000000) :
    SameB G h m 81 #[pp L] (0, a) (0, b) σ0.next (σ0.put L (irow ((n : Int) - (k : Int)))) (σ0.put L (irow ((n : Int) - ((k + 1 : Nat) : Int)))) := fun σ hg hab hold => by
  have hlt := Mem.lt hl
  have e := hold L _ (get_put hl)
  refine (counted1_wc (G := G) (h := h) (m := m) a b ((n : Int) - (k : Int)) hg hab hlim hL e (by omega) (by omega)).mono fun v σ' hv => ⟨?_, fun c z hc hz => hv.2.old c z (by omega) hz, ?_, rfl, hv.2.nx, hv.2.abs⟩
  · rw [hv.1]; congr 3; simp
  · refine put_old hl ?_ fun c y hc hy => hv.2.old c y hc (hold c y (get_put_ne hy hc))
    rw [hv.2.at_, show (n : Int) - (k : Int) - 1 = (n : Int) - ((k + 1 : Nat) : Int) by omega]
end
end Go.Proofs.YtehcckhdppdkcaaGreatDoor
namespace Go.Proofs.YtehcckhdppdkcaaGreatDoor
set_option maxRecDepth 100000
theorem Lay.app {h : Nat} {m : HM} {σ0 σ σ' : Mem} {N : Nat} {L : List (Nat × Blk2)} (H : Lay h m σ0 σ N L) (k : ∀ b y, b < σ0.next + N → σ.get b = some y → σ'.get b = some y) (hn : σ.next ≤ σ'.next) (ha : σ'.abs = σ.abs) (hL : L.all (fun p => Nat.blt p.1 N) = true) : Lay h m σ0 σ' N L := ⟨fun b y hy => k b y (by have := Mem.lt hy; omega) (H.old b y hy), by have := H.nx; omega, ha.trans H.abs, At.keepTo (fun b y hb hy => k b y hb hy) hL H.at_⟩
theorem grow_set {G : Nat} {σ σ' : Mem} {e : TypeId} {s n b : Nat} {v : Value} {xs : List Value} {x : Blk2} (g : GRow G σ e s v n xs) (t : Set1 σ σ' b x) (hb : blkOf v ≠ some b) : GRow G σ' e s v n xs := g.keep fun c hc => by
  obtain ⟨r, h1, _⟩ := g.is hc
  rw [h1, t.old _ _ (by rintro rfl; exact hb hc) h1]
noncomputable abbrev drop1 : Code := rangeIn (restN 4 (bodyOf Tryz.f65))
noncomputable abbrev drop1Lp (TA : Nat → Value) (D : Nat) : Blk2 := rdy 66 TA (rangePs drop1) (rangeAs drop1) (rangeBo drop1) D
/-- The registers that the bodies of drop's loops read. -/
def drop1TA (q s : Nat) (TA : Nat → Value) : Nat → Value := updL TA [(4, pp q), (5, pp (q + 1)), (6, pp (q + 2)), (7, pp (q + 3)), (8, pp (q + 4)), (9, pp (q + 5)), (12, pp (s + 0)), (13, pp (s + 1))]
def dropL (h s : Nat) (cur rest : Wd) (sl : Value) (lp : Blk2) : List (Nat × Blk2) :=
  [(6, lp), (5, .defs true), (4, .row ⟨[pp (s + 1)], 94, false⟩), (3, wrow cur), (2, .row ⟨[pp h], 23, false⟩), (1, wrow rest), (0, .row ⟨[sl], 29, false⟩)]
section
variable {G h : Nat} {m : HM} {σ σ0 : Mem}
set_option maxHeartbeats 2000000 in
theorem drop1_yield {x cur y rest : Wd} {q : Nat} {sl : Value} {l : List Wd} {TA : Nat → Value} (hG : G ≤ σ0.next) (r0 : σ0.get q = some (.row ⟨[pp h], 23, false⟩)) (r1 : σ0.get (q + 1) = some (wrow x)) (r3 : σ0.get (q + 3) = some (.row ⟨[.func (.func 61) #[] #[]], 35, false⟩))
    (H : Lay h m σ0 σ 7 (dropL h σ0.next cur rest sl (drop1Lp (drop1TA q σ0.next TA) (σ0.next + 5)))) (g : GRow G σ 37 2 sl l.length (wdC l)) (fr : ∀ b, blkOf sl = some b → σ0.next + 7 ≤ b) (hl : l.length ≤ 65536) :
    Yield G Tryz.prog (σ0.next + 6) [wdV cur, wdV y] σ fun r σ' => r = true ∧ ∃ sl', Lay h m σ0 σ' 7 (dropL h σ0.next cur rest sl' (drop1Lp (drop1TA q σ0.next TA) (σ0.next + 5))) ∧ GRow G σ' 37 2 sl' (if x = y then l else l ++ [cur]).length (wdC (if x = y then l else l ++ [cur])) ∧ ∀ b, blkOf sl' = some b → σ0.next + 7 ≤ b := by
  have hnx := H.nx
  refine Yield.of (H.get (k := 6) rfl) rfl (by decide) ?_
  refine W.seq ?_
  refine W.region ?_
  refine RW.varS (d := 14) (r0 := ⟨[.int .i64 0, .int .i64 0], 37, false⟩) (vs := #[.int .i64 cur.1, .int .i64 cur.2]) (by kernel_rfl) (by kernel_rfl) (by kernel_rfl) rfl (by kernel_rfl) rfl (by kernel_rfl) rfl rfl rfl rfl (by kernel_rfl) rfl (by omega) ?_
  intro σ1 _ g1 o1 n1 a1
  have H1 := H.grow (⟨o1, by omega, a1⟩ : Grow σ σ1)
  refine RW.nil ?_
  refine W.region ?_
  refine RW.varS (d := 15) (r0 := ⟨[.int .i64 0, .int .i64 0], 37, false⟩) (vs := #[.int .i64 y.1, .int .i64 y.2]) (by kernel_rfl) (by kernel_rfl) (by kernel_rfl) rfl (by kernel_rfl) rfl (by kernel_rfl) rfl rfl rfl rfl (by kernel_rfl) rfl (by omega) ?_
  intro σ2 _ g2 o2 n2 a2
  have H2 := H1.grow (⟨o2, by omega, a2⟩ : Grow σ1 σ2)
  have g1 := o2 _ _ g1
  rw [n1] at g2
  replace g := grow_old (grow_old g o1) o2
  refine RW.nil ?_
  refine ⟨rfl, H2.get (k := 6) rfl, fun σ3 s3 => ?_⟩
  have H3 := H2.set s3
  replace g1 := s3.old _ _ (by omega) g1
  replace g2 := s3.old _ _ (by omega) g2
  replace g := grow_set g s3 (fun e => by have := fr _ e; omega)
  have n3 : σ3.next = σ.next + 2 := by rw [s3.nx]; omega
  clear H1 H2 s3 o1 o2 n2 a1 a2 H
  refine W.reset [(4, pp q), (5, pp (q + 1)), (7, pp (q + 3)), (12, pp (σ0.next + 0)), (14, pp σ.next), (15, pp (σ.next + 1))] ⟨rfl, rfl, rfl, rfl, rfl, by show pp σ1.next = pp (σ.next + 1); rw [n1], trivial⟩ fun TB => ?_
  refine W.block ?_
  refine W.seq ?_
  refine W.region ?_
  refine RW.load (by kernel_rfl) (by kernel_rfl) rfl rfl (H3.old _ _ r3) rfl rfl (by kernel_rfl) ?_
  refine RW.load (by kernel_rfl) (by kernel_rfl) rfl rfl (H3.old _ _ r0) rfl rfl (by kernel_rfl) ?_
  refine RW.loads 2 (by kernel_rfl) (by kernel_rfl) rfl rfl (H3.old _ _ r1) rfl rfl (by kernel_rfl) ?_
  refine RW.loads 2 (by kernel_rfl) (by kernel_rfl) rfl rfl g2 rfl rfl (by kernel_rfl) ?_
  refine RW.call (by kernel_rfl) (by kernel_rfl) rfl rfl rfl (by kernel_rfl) (by kernel_rfl) ((eq_wc (pp h) x y (by omega)).mono ?_)
  rintro _ σ4 ⟨rfl, G4⟩
  have H4 := H3.grow G4
  have n4 := G4.nx
  replace g1 := G4.old _ _ g1
  replace g := grow_old g G4.old
  refine RW.val (by kernel_rfl) (by kernel_rfl) rfl (by kernel_rfl) ?_
  refine RW.val (by kernel_rfl) (by kernel_rfl) rfl (by kernel_rfl) ?_
  refine RW.val (by kernel_rfl) (by kernel_rfl) rfl (by kernel_rfl) ?_
  refine RW.val (by kernel_rfl) (by kernel_rfl) rfl (by kernel_rfl) ?_
  refine RW.val (by kernel_rfl) (by kernel_rfl) rfl (by kernel_rfl) ?_
  refine RW.nil ?_
  refine W.seq ?_
  refine W.seq ?_
  refine W.region ?_
  refine RW.val (by kernel_rfl) (by kernel_rfl) rfl (by kernel_rfl) ?_
  refine RW.valE (v' := .bool false) (by kernel_rfl) (by kernel_rfl) rfl (congrArg Value.bool (bne_eq_false_iff_eq.2 rfl)) (by kernel_rfl) ?_
  refine RW.nil ?_
  refine W.cond (b := false) rfl (fun h => by cases h) (fun _ => ?_)
  refine W.skip ?_
  refine W.seq ?_
  refine W.region ?_
  refine RW.val (by kernel_rfl) (by kernel_rfl) rfl (by kernel_rfl) ?_
  refine RW.val (by kernel_rfl) (by kernel_rfl) rfl (by kernel_rfl) ?_
  refine RW.nil ?_
  by_cases hxy : x = y
  · refine W.cond (b := false) (by rw [decide_eq_true hxy]; rfl) (fun h => by cases h) (fun _ => ?_)
    refine W.skip ?_
    refine ⟨H4.get (k := 6) rfl, _, _, _, rfl, fun σ9 s9 => ⟨rfl, sl, H4.set s9, ?_, fr⟩⟩
    rw [if_pos hxy]
    exact grow_set g s9 (fun e => by have := fr _ e; omega)
  · refine W.cond (b := true) (by rw [decide_eq_false hxy]; rfl) (fun _ => ?_) (fun h => by cases h)
    refine W.region ?_
    refine RW.load (by kernel_rfl) (by kernel_rfl) rfl rfl (H4.get (k := 0) rfl) rfl rfl (by kernel_rfl) ?_
    refine RW.loads 2 (by kernel_rfl) (by kernel_rfl) rfl rfl g1 rfl rfl (by kernel_rfl) ?_
    refine RW.make (x := .row ⟨wdC [cur], 37, false⟩) (fm := fun b => .slice (some ⟨b, 0, none⟩) 1 1) (by kernel_rfl) (by kernel_rfl) (by kernel_rfl) (by kernel_rfl) ?_
    obtain ⟨v', cmd, k1, k2, k3, k4, k5, k6⟩ := grow_push (P := Tryz.prog) (t := 29) (u := 29) (e2 := 37) (r := ⟨wdC [cur], 37, false⟩) (n := 1) g (by omega) (by kernel_rfl) (by kernel_rfl) (by kernel_rfl) (by decide) (by decide) rfl rfl (by omega)
    refine RW.append (by kernel_rfl) (by kernel_rfl) rfl rfl rfl rfl k1 (by kernel_rfl) ?_
    generalize MCmd.app (σ4.push (.row ⟨wdC [cur], 37, false⟩)) cmd = σ5 at k2 k3 k4 k5 ⊢
    have H5 := H4.app (σ' := σ5) (fun b y hb hy => k5 b y hy fun e => by have := fr b e; omega) k3 k4 rfl
    refine RW.set1G (b := σ0.next + 0) (v := v') (by kernel_rfl) (by kernel_rfl) rfl rfl (by omega) (H5.get (k := 0) rfl) rfl (by cases k2 <;> rfl) (by cases k2 <;> rfl) (by kernel_rfl) rfl (by kernel_rfl) ?_; intro σ6 _ s6
    have H6 := H5.set s6
    have fr' : ∀ b, blkOf v' = some b → σ0.next + 7 ≤ b := fun b hb => by
      rcases k6 b hb with h2 | h2
      · exact fr b h2
      · omega
    refine RW.nil ?_
    refine ⟨H6.get (k := 6) rfl, _, _, _, rfl, fun σ9 s9 => ⟨rfl, v', H6.set s9, ?_, fr'⟩⟩
    rw [if_neg hxy, List.length_append, show wdC (l ++ [cur]) = wdC l ++ wdC [cur] by simp [wdC]]
    exact grow_set (grow_set k2 s6 (fun e => by have := fr' _ e; omega)) s9 (fun e => by have := fr' _ e; omega)
end
end Go.Proofs.YtehcckhdppdkcaaGreatDoor
namespace Go.Proofs.YtehcckhdppdkcaaGreatDoor
set_option maxRecDepth 100000
noncomputable abbrev drop2 : Code := rangeIn (restN 6 (bodyOf Tryz.f65))
noncomputable abbrev drop2Lp (TA : Nat → Value) (D : Nat) : Blk2 := rdy 66 TA (rangePs drop2) (rangeAs drop2) (rangeBo drop2) D
def drop2TA (q s : Nat) (TA : Nat → Value) : Nat → Value := updL TA [(4, pp q), (8, pp (q + 4)), (9, pp (q + 5)), (18, pp (s + 0))]
def drop2L (out : Wd) (sl : Value) (lp : Blk2) : List (Nat × Blk2) := [(3, lp), (2, .defs true), (1, .row ⟨[sl], 29, false⟩), (0, wrow out)]
theorem Lay.heap {h : Nat} {m m' : HM} {σ0 σ : Mem} {N : Nat} {L : List (Nat × Blk2)} (H : Lay h m σ0 σ N L) : Lay h m' σ0 (σ.with (heapAbs h m')) N L := ⟨H.old, H.nx, rfl, At.keep (σ := σ) (σ' := σ.with (heapAbs h m')) (fun _ _ h => h) H.at_⟩
section
variable {G h : Nat} {m : HM} {σ σ0 : Mem}
set_option maxHeartbeats 2000000 in
theorem drop2_yield {out y : Wd} {q : Nat} {j : Int} {sl : Value} {TA : Nat → Value} (hG : G ≤ σ0.next) (r0 : σ0.get q = some (.row ⟨[pp h], 23, false⟩))
    (H : Lay h m σ0 σ 4 (drop2L out sl (drop2Lp (drop2TA q σ0.next TA) (σ0.next + 2)))) :
    Yield G Tryz.prog (σ0.next + 3) [.int .i64 j, wdV y] σ fun r σ' => r = true ∧ Lay h (m.setCdr y out).1 σ0 σ' 4 (drop2L y sl (drop2Lp (drop2TA q σ0.next TA) (σ0.next + 2))) := by
  have hnx := H.nx
  refine Yield.of (H.get (k := 3) rfl) rfl (by decide) ?_
  refine W.region ?_
  refine RW.varS (d := 20) (r0 := ⟨[.int .i64 0, .int .i64 0], 37, false⟩) (vs := #[.int .i64 y.1, .int .i64 y.2]) (by kernel_rfl) (by kernel_rfl) (by kernel_rfl) rfl (by kernel_rfl) rfl (by kernel_rfl) rfl rfl rfl rfl (by kernel_rfl) rfl (by omega) ?_
  intro σ1 _ g1 o1 n1 a1
  have H1 := H.grow (⟨o1, by omega, a1⟩ : Grow σ σ1)
  refine RW.nil ?_
  refine ⟨rfl, H1.get (k := 3) rfl, fun σ3 s3 => ?_⟩
  have H3 := H1.set s3
  replace g1 := s3.old _ _ (by omega) g1
  have n3 := s3.nx
  clear H1 s3 o1 a1 H
  refine W.reset [(4, pp q), (18, pp (σ0.next + 0)), (20, pp σ.next)] ⟨rfl, rfl, rfl, trivial⟩ fun TB => ?_
  refine W.block ?_
  refine W.seq ?_
  refine W.region ?_
  refine RW.load (by kernel_rfl) (by kernel_rfl) rfl rfl (H3.old _ _ r0) rfl rfl (by kernel_rfl) ?_
  refine RW.loads 2 (by kernel_rfl) (by kernel_rfl) rfl rfl g1 rfl rfl (by kernel_rfl) ?_
  refine RW.loads 2 (by kernel_rfl) (by kernel_rfl) rfl rfl (H3.get (k := 0) rfl) rfl rfl (by kernel_rfl) ?_
  refine RW.call (by kernel_rfl) (by kernel_rfl) rfl rfl rfl (by kernel_rfl) (by kernel_rfl) ⟨_, _, (s_setCdr (G := G) y out H3.abs), ?_⟩
  refine RW.nil ?_
  have H4 : Lay h (m.setCdr y out).1 σ0 (σ3.with (heapAbs h (m.setCdr y out).1)) 4 _ := H3.heap
  have g4 : (σ3.with (heapAbs h (m.setCdr y out).1)).get σ.next = _ := g1
  have n4 : (σ3.with (heapAbs h (m.setCdr y out).1)).next = σ3.next := rfl
  generalize σ3.with (heapAbs h (m.setCdr y out).1) = σ4 at H4 g4 n4 ⊢
  refine W.region ?_
  refine RW.loads 2 (by kernel_rfl) (by kernel_rfl) rfl rfl g4 rfl rfl (by kernel_rfl) ?_
  refine RW.setG (b := σ0.next + 0) (vs := #[.int .i64 y.1, .int .i64 y.2]) (by kernel_rfl) (by kernel_rfl) rfl rfl (by omega) (H4.get (k := 0) rfl) rfl rfl (by kernel_rfl) rfl (by kernel_rfl) ?_; intro σ5 _ s5
  have H5 := H4.set s5
  refine RW.nil ?_
  exact ⟨H5.get (k := 3) rfl, _, _, _, rfl, fun σ9 s9 => ⟨rfl, H5.set s9⟩⟩
set_option maxHeartbeats 4000000 in
theorem drop_wc (x : Wd) (hG : G ≤ σ0.next) (ha : σ0.abs = heapAbs h m) (hlim : 0 < m.limit) {c a : Nat → Wd} {n : Nat} (hp : Path m c a n) (hn : n ≤ 65536) (hc : c n = (1, 0)) :
    WC G Tryz.prog 65 #[pp h, wdV x, wdV (c 0), .func (.func 61) #[] #[]] σ0 fun v σ' => v = .tuple #[wdV (dropH m (keptW x c a n)).2, .int .i64 0] ∧ GrowA σ0 σ' ∧ σ'.abs = heapAbs h (dropH m (keptW x c a n)).1 := by
  obtain ⟨q, hq⟩ : ∃ q, q = σ0.next := ⟨_, rfl⟩
  refine WC.enterD (fn := Tryz.f65) Tryz.func65 rfl ?_
  refine W.seq ?_
  refine W.region ?_
  have H0 : Lay h m σ0 σ0 0 [] := ⟨fun _ _ h => h, Nat.le_refl _, ha, trivial⟩
  refine RW.makeG (x := .row ⟨[pp h], 23, false⟩) (fm := fun b => .pointer (some ⟨b, 0, none⟩)) (by kernel_rfl) (by kernel_rfl) (by kernel_rfl) (by kernel_rfl) ?_; intro σ1 _ g1 G1 n1
  have H1 := H0.add G1 rfl g1 n1
  have e1 : σ1.next = σ0.next + 1 := by omega
  refine RW.makeG (x := .row ⟨[.int .i64 x.1, .int .i64 x.2], 37, false⟩) (fm := fun b => .pointer (some ⟨b, 0, none⟩)) (by kernel_rfl) (by kernel_rfl) (by kernel_rfl) (by kernel_rfl) ?_; intro σ2 _ g2 G2 n2
  have H2 := H1.add G2 e1 g2 n2
  have e2 : σ2.next = σ0.next + 2 := by omega
  refine RW.makeG (x := .row ⟨[.int .i64 (c 0).1, .int .i64 (c 0).2], 37, false⟩) (fm := fun b => .pointer (some ⟨b, 0, none⟩)) (by kernel_rfl) (by kernel_rfl) (by kernel_rfl) (by kernel_rfl) ?_; intro σ3 _ g3 G3 n3
  have H3 := H2.add G3 e2 g3 n3
  have e3 : σ3.next = σ0.next + 3 := by omega
  refine RW.makeG (x := .row ⟨[.func (.func 61) #[] #[]], 35, false⟩) (fm := fun b => .pointer (some ⟨b, 0, none⟩)) (by kernel_rfl) (by kernel_rfl) (by kernel_rfl) (by kernel_rfl) ?_; intro σ4 _ g4 G4 n4
  have H4 := H3.add G4 e3 g4 n4
  have e4 : σ4.next = σ0.next + 4 := by omega
  refine RW.makeG (x := .row ⟨[.int .i64 0, .int .i64 0], 37, false⟩) (fm := fun b => .pointer (some ⟨b, 0, none⟩)) (by kernel_rfl) (by kernel_rfl) (by kernel_rfl) (by kernel_rfl) ?_; intro σ5 _ g5 G5 n5
  have H5 := H4.add G5 e4 g5 n5
  have e5 : σ5.next = σ0.next + 5 := by omega
  refine RW.makeG (x := .row ⟨[.int .i64 0], 24, false⟩) (fm := fun b => .pointer (some ⟨b, 0, none⟩)) (by kernel_rfl) (by kernel_rfl) (by kernel_rfl) (by kernel_rfl) ?_; intro σ6 _ g6 G6 n6
  have H6 := H5.add G6 e5 g6 n6
  rw [e1, e2, e3, e4, e5, ← hq]
  refine RW.nil ?_
  refine W.reset [(4, pp q), (5, pp (q + 1)), (6, pp (q + 2)), (7, pp (q + 3)), (8, pp (q + 4)), (9, pp (q + 5))] ⟨rfl, rfl, rfl, rfl, rfl, rfl, trivial⟩ fun TA => ?_
  clear H0 H1 H2 H3 H4 H5 g1 g2 g3 g4 g5 g6 G1 G2 G3 G4 G5 G6
  refine W.seq ?_
  refine W.seq ?_
  refine W.region ?_
  refine RW.load (by kernel_rfl) (by kernel_rfl) rfl rfl (hq ▸ H6.get (k := 0) rfl) rfl rfl (by kernel_rfl) ?_
  refine RW.loads 2 (by kernel_rfl) (by kernel_rfl) rfl rfl (hq ▸ H6.get (k := 2) rfl) rfl rfl (by kernel_rfl) ?_
  refine RW.call (by kernel_rfl) (by kernel_rfl) rfl rfl rfl (by kernel_rfl) (by kernel_rfl) ((slice_wc (n := n) (by omega) H6.abs hlim hp (.inr ⟨hn, .inl (by rw [hc]; decide)⟩)).mono ?_)
  intro _ σ7 HS
  obtain ⟨G7, sl0, rfl, _, _⟩ := sliceR_ok hn hc HS
  have H7 := H6.grow G7
  have hn7 := H7.nx
  refine RW.val (by kernel_rfl) (by kernel_rfl) rfl (by kernel_rfl) ?_
  refine RW.val (by kernel_rfl) (by kernel_rfl) rfl (by kernel_rfl) ?_
  refine RW.val (by kernel_rfl) (by kernel_rfl) rfl (by kernel_rfl) ?_
  refine RW.val (by kernel_rfl) (by kernel_rfl) rfl (by kernel_rfl) ?_
  refine RW.val (by kernel_rfl) (by kernel_rfl) rfl (by kernel_rfl) ?_
  refine RW.nil ?_
  refine W.seq ?_
  refine W.region ?_
  refine RW.val (by kernel_rfl) (by kernel_rfl) rfl (by kernel_rfl) ?_
  refine RW.valE (v' := .bool false) (by kernel_rfl) (by kernel_rfl) rfl (congrArg Value.bool (bne_eq_false_iff_eq.2 rfl)) (by kernel_rfl) ?_
  refine RW.nil ?_
  refine W.cond (b := false) rfl (fun h => by cases h) (fun _ => ?_)
  refine W.skip ?_
  refine W.reset [(4, pp q), (5, pp (q + 1)), (6, pp (q + 2)), (7, pp (q + 3)), (8, pp (q + 4)), (9, pp (q + 5))] ⟨rfl, rfl, rfl, rfl, rfl, rfl, trivial⟩ fun TB => ?_
  have r0 : σ7.get q = _ := hq ▸ H7.get (k := 0) rfl
  have r1 : σ7.get (q + 1) = _ := hq ▸ H7.get (k := 1) rfl
  have r2 : σ7.get (q + 2) = _ := hq ▸ H7.get (k := 2) rfl
  have r3 : σ7.get (q + 3) = _ := hq ▸ H7.get (k := 3) rfl
  have r4 : σ7.get (q + 4) = _ := hq ▸ H7.get (k := 4) rfl
  have r5 : σ7.get (q + 5) = _ := hq ▸ H7.get (k := 5) rfl
  have o7 := H7.old
  have a7 := H7.abs
  clear H6 H7 HS G7
  have K0 : Lay h m σ7 σ7 0 [] := ⟨fun _ _ h => h, Nat.le_refl _, a7, trivial⟩
  refine W.seq ?_
  refine W.region ?_
  refine RW.makeG (x := .row ⟨[.slice none 0 0], 29, false⟩) (fm := fun b => .pointer (some ⟨b, 0, none⟩)) (by kernel_rfl) (by kernel_rfl) (by kernel_rfl) (by kernel_rfl) ?_; intro σ8 _ g8 G8 n8
  refine RW.nil ?_
  have K1 := K0.add G8 rfl g8 n8
  have e8 : σ8.next = σ7.next + 1 := by omega
  refine W.seq ?_
  refine W.region ?_
  refine RW.loads 2 (by kernel_rfl) (by kernel_rfl) rfl rfl (K1.old _ _ r2) rfl rfl (by kernel_rfl) ?_
  refine RW.varS (d := 13) (r0 := ⟨[.int .i64 0, .int .i64 0], 37, false⟩) (vs := #[.int .i64 (c 0).1, .int .i64 (c 0).2]) (by kernel_rfl) (by kernel_rfl) (by kernel_rfl) rfl (by kernel_rfl) rfl (by kernel_rfl) rfl rfl rfl rfl (by kernel_rfl) rfl (by omega) ?_
  intro σ9 _ g9 o9 n9 a9
  have K2 := K1.add (⟨o9, by omega, a9⟩ : Grow σ8 σ9) e8 g9 n9
  have e9 : σ9.next = σ7.next + 2 := by omega
  refine RW.nil ?_
  refine W.reset [(4, pp q), (5, pp (q + 1)), (6, pp (q + 2)), (7, pp (q + 3)), (8, pp (q + 4)), (9, pp (q + 5)), (12, pp (σ7.next + 0)), (13, pp (σ7.next + 1))] ⟨rfl, rfl, rfl, rfl, rfl, rfl, rfl, by show pp σ8.next = _; rw [e8], trivial⟩ fun TC => ?_
  refine W.seq ?_
  refine W.seq ?_
  refine W.region ?_
  refine RW.load (by kernel_rfl) (by kernel_rfl) rfl rfl (K2.old _ _ r0) rfl rfl (by kernel_rfl) ?_
  refine RW.loads 2 (by kernel_rfl) (by kernel_rfl) rfl rfl (K2.old _ _ r2) rfl rfl (by kernel_rfl) ?_
  refine RW.call (by kernel_rfl) (by kernel_rfl) rfl rfl rfl (by kernel_rfl) (by kernel_rfl) ((conses_wc (c 0) (σ7.next + 1) (by omega)).mono ?_)
  rintro _ σ10 ⟨rfl, G10, n10, c3, c4, c5⟩
  refine RW.nil ?_
  rw [e9] at n10 c3 c4 c5
  rw [e9]
  refine W.block ?_
  have K3 := K2.grow G10
  have hn10 : σ10.next = σ7.next + 5 := n10
  refine W.reset [(4, pp q), (5, pp (q + 1)), (6, pp (q + 2)), (7, pp (q + 3)), (8, pp (q + 4)), (9, pp (q + 5)), (12, pp (σ7.next + 0)), (13, pp (σ7.next + 1)), (34, .func (.func 87) #[] #[pp (σ7.next + 2), pp (σ7.next + 2 + 1), pp (σ7.next + 2 + 2)])] ⟨rfl, rfl, rfl, rfl, rfl, rfl, rfl, rfl, rfl, trivial⟩ fun TD => ?_
  refine W.range (fa := #[]) (ca := #[pp (σ7.next + 2), pp (σ7.next + 3), pp (σ7.next + 4)]) rfl (fun i h => by cases h) (fun v h => by cases h) (by kernel_rfl) ?_
  rw [hn10]
  obtain ⟨TE, hTE⟩ : ∃ t, t = updL TD [(34, .func (.func 87) #[] #[pp (σ7.next + 2), pp (σ7.next + 3), pp (σ7.next + 4)])] := ⟨_, rfl⟩
  rw [show updL TD [(4, pp q), (5, pp (q + 1)), (6, pp (q + 2)), (7, pp (q + 3)), (8, pp (q + 4)), (9, pp (q + 5)), (12, pp (σ7.next + 0)), (13, pp (σ7.next + 1)), (34, .func (.func 87) #[] #[pp (σ7.next + 2), pp (σ7.next + 2 + 1), pp (σ7.next + 2 + 2)])] = drop1TA q σ7.next TE by rw [hTE]; rfl]
  obtain ⟨σ11, h11⟩ : ∃ s, s = (σ10.push (.defs true)).push (drop1Lp (drop1TA q σ7.next TE) (σ7.next + 5)) := ⟨_, rfl⟩
  have G11 : Grow σ10 σ11 := by
    rw [h11]
    exact ⟨fun b y hy => get_push_old (get_push_old hy), by show σ10.next ≤ σ10.next + 1 + 1; omega, rfl⟩
  have hn11 : σ11.next = σ7.next + 7 := by rw [h11]; show σ10.next + 1 + 1 = _; omega
  have d11 : σ11.get (σ7.next + 5) = some (.defs true) := by rw [h11, ← hn10]; exact get_push_old get_push
  have l11 : σ11.get (σ7.next + 6) = some (drop1Lp (drop1TA q σ7.next TE) (σ7.next + 5)) := by
    rw [h11, show σ7.next + 6 = (σ10.push (.defs true)).next by show _ = σ10.next + 1; omega]
    exact get_push
  have K4 := K3.grow G11
  have S0 : Lay h m σ7 σ11 7 (dropL h σ7.next (c 0) (c 0) (.slice none 0 0) (drop1Lp (drop1TA q σ7.next TE) (σ7.next + 5))) :=
    ⟨K4.old, by omega, K4.abs, l11, d11, G11.old _ _ c5, G11.old _ _ c4, G11.old _ _ c3, K4.get (k := 1) rfl, K4.get (k := 0) rfl, trivial⟩
  show WC G Tryz.prog 87 #[.func (.yield (σ7.next + 6)) #[] #[], pp (σ7.next + 2), pp (σ7.next + 3), pp (σ7.next + 4)] ((σ10.push (.defs true)).push (drop1Lp (drop1TA q σ7.next TE) (σ7.next + 5))) _
  rw [← h11]
  clear h11 K0 K1 K2 K3 K4 c3 c4 c5 d11 l11 G10 G11 g8 g9 G8 o9 a9
  generalize hLP : drop1Lp (drop1TA q σ7.next TE) (σ7.next + 5) = LP at S0
  refine (consesLoop (h := h) (m := m) (c := c) (a := a) (n := n) (b3 := σ7.next + 2) (b4 := σ7.next + 3) (b5 := σ7.next + 4) (b7 := σ7.next + 1) (L := σ7.next + 6) hp (by omega) (by omega) (by omega)
    (I := fun k σ => k ≤ n ∧ ∃ rest sl, Lay h m σ7 σ 7 (dropL h σ7.next (c k) rest sl LP) ∧ GRow G σ 37 2 sl (keptW x c a k).length (wdC (keptW x c a k)) ∧ ∀ b, blkOf sl = some b → σ7.next + 7 ≤ b)
    (J := fun k σ => k < n ∧ ∃ rest sl, Lay h m σ7 σ 7 (dropL h σ7.next (c k) rest sl LP) ∧ GRow G σ 37 2 sl (keptW x c a (k + 1)).length (wdC (keptW x c a (k + 1))) ∧ ∀ b, blkOf sl = some b → σ7.next + 7 ≤ b)
    (R := fun σ => ∃ sl, Lay h m σ7 σ 7 (dropL h σ7.next (c n) (c n) sl LP) ∧ GRow G σ 37 2 sl (keptW x c a n).length (wdC (keptW x c a n)) ∧ ∀ b, blkOf sl = some b → σ7.next + 7 ≤ b) ?_ ?_ ?_ ?_ ?_ ?_ ⟨by omega, c 0, _, S0, .nil, (fun b hb => by cases hb)⟩).mono ?_
  · rintro k σ ⟨_, rest, sl, S, _, _⟩
    exact ⟨by have := S.nx; omega, S.abs, S.get (k := 2) rfl, S.get (k := 3) rfl, S.get (k := 4) rfl⟩
  · rintro k σ σ' ⟨hk, rest, sl, S, g, fr⟩ gg
    exact ⟨hk, rest, sl, S.grow gg, grow_old g gg.old, fr⟩
  · rintro k σ hkn ⟨hk, rest, sl, S, g, fr⟩
    subst hLP
    have hle := keptW_length_le x c a k
    refine (drop1_yield (y := a k) (x := x) (by omega) r0 r1 r3 S g fr (by omega)).mono fun r σ' hr => ⟨fun _ => ?_, fun e => ?_⟩
    · obtain ⟨_, sl', h1, h2, h3⟩ := hr
      rw [← keptW_succ] at h2
      exact ⟨hkn, rest, sl', h1, h2, h3⟩
    · rw [hr.1] at e; cases e
  · rintro k σ ⟨_, rest, sl, S, _, _⟩
    exact ⟨S.abs, S.get (k := 2) rfl, S.get (k := 3) rfl⟩
  · rintro k σ σ' ⟨hk, rest, sl, S, g, fr⟩ s
    exact ⟨by omega, rest, sl, S.set s, grow_set g s (fun e => by have := fr _ e; omega), fr⟩
  · rintro σ ⟨hk, rest, sl, S, g, fr⟩
    exact ⟨.inl (by rw [hc]; decide), rest, S.get (k := 1) rfl, fun σ1 σ2 gg s => ⟨sl, (S.grow gg).set s, grow_set (grow_old g gg.old) s (fun e => by have := fr _ e; omega), fr⟩⟩
  · rintro _ σ12 ⟨sl, S, g, fr⟩
    have hnx := S.nx
    subst hLP
    refine ⟨_, _, _, _, _, _, _, _, .normal, S.get (k := 6) rfl, rfl, rfl, ?_⟩
    have sL := set1_put (x := .loop .exhausted none 66 (drop1TA q σ7.next TE) (rangePs drop1) (rangeAs drop1) (rangeBo drop1) (σ7.next + 5)) (S.get (k := 6) rfl)
    generalize σ12.put (σ7.next + 6) (.loop .exhausted none 66 (drop1TA q σ7.next TE) (rangePs drop1) (rangeAs drop1) (rangeBo drop1) (σ7.next + 5)) = σ13 at sL
    have S1 := S.set sL
    replace g := grow_set g sL (fun e => by have := fr _ e; omega)
    have n13 := sL.nx
    clear sL S
    have hle := keptW_length_le x c a n
    obtain ⟨ks, hks⟩ : ∃ l, l = keptW x c a n := ⟨_, rfl⟩
    rw [← hks] at g hle ⊢
    refine W.reset [(4, pp q), (5, pp (q + 1)), (6, pp (q + 2)), (7, pp (q + 3)), (8, pp (q + 4)), (9, pp (q + 5)), (12, pp (σ7.next + 0))] ⟨rfl, rfl, rfl, rfl, rfl, rfl, rfl, trivial⟩ fun TF => ?_
    have K0 : Lay h m σ13 σ13 0 [] := ⟨fun _ _ h => h, Nat.le_refl _, S1.abs, trivial⟩
    refine W.seq ?_
    refine W.region ?_
    refine RW.call (by kernel_rfl) (by kernel_rfl) rfl rfl rfl (by kernel_rfl) (by kernel_rfl) ⟨_, _, s_none, ?_⟩
    refine RW.varS (d := 18) (r0 := ⟨[.int .i64 0, .int .i64 0], 37, false⟩) (vs := #[.int .i64 ((1, 0) : Wd).1, .int .i64 ((1, 0) : Wd).2]) (by kernel_rfl) (by kernel_rfl) (by kernel_rfl) rfl (by kernel_rfl) rfl (by kernel_rfl) rfl rfl rfl rfl (by kernel_rfl) rfl (by omega) ?_
    intro σ14 _ g14 o14 n14 a14
    have K1 := K0.add (⟨o14, by omega, a14⟩ : Grow σ13 σ14) rfl g14 n14
    refine RW.nil ?_
    refine W.seq ?_
    refine W.seq ?_
    refine W.region ?_
    refine RW.load (by kernel_rfl) (by kernel_rfl) rfl rfl (K1.old _ _ (S1.get (k := 0) rfl)) rfl rfl (by kernel_rfl) ?_
    refine RW.call (by kernel_rfl) (by kernel_rfl) rfl rfl rfl (by kernel_rfl) (by kernel_rfl) ((backward_wc sl g.one (by omega)).mono ?_)
    rintro _ σ15 ⟨rfl, G15, n15, b15⟩
    refine RW.nil ?_
    have e14 : σ14.next = σ13.next + 1 := by omega
    rw [e14] at b15 n15 ⊢
    have K2 := K1.grow G15
    have hn15 : σ15.next = σ13.next + 2 := by omega
    refine W.block ?_
    refine W.reset [(4, pp q), (8, pp (q + 4)), (9, pp (q + 5)), (18, pp (σ13.next + 0)), (57, .func (.func 115) #[] #[pp (σ13.next + 1)])] ⟨rfl, rfl, rfl, rfl, rfl, trivial⟩ fun TG => ?_
    refine W.range (fa := #[]) (ca := #[pp (σ13.next + 1)]) rfl (fun i h => by cases h) (fun v h => by cases h) (by kernel_rfl) ?_
    rw [hn15]
    obtain ⟨TH, hTH⟩ : ∃ t, t = updL TG [(57, .func (.func 115) #[] #[pp (σ13.next + 1)])] := ⟨_, rfl⟩
    rw [show updL TG [(4, pp q), (8, pp (q + 4)), (9, pp (q + 5)), (18, pp (σ13.next + 0)), (57, .func (.func 115) #[] #[pp (σ13.next + 1)])] = drop2TA q σ13.next TH by rw [hTH]; rfl]
    obtain ⟨σ16, h16⟩ : ∃ s, s = (σ15.push (.defs true)).push (drop2Lp (drop2TA q σ13.next TH) (σ13.next + 2)) := ⟨_, rfl⟩
    have G16 : Grow σ15 σ16 := by
      rw [h16]
      exact ⟨fun b y hy => get_push_old (get_push_old hy), by show σ15.next ≤ σ15.next + 1 + 1; omega, rfl⟩
    have hn16 : σ16.next = σ13.next + 4 := by rw [h16]; show σ15.next + 1 + 1 = _; omega
    have d16 : σ16.get (σ13.next + 2) = some (.defs true) := by rw [h16, ← hn15]; exact get_push_old get_push
    have l16 : σ16.get (σ13.next + 3) = some (drop2Lp (drop2TA q σ13.next TH) (σ13.next + 2)) := by
      rw [h16, show σ13.next + 3 = (σ15.push (.defs true)).next by show _ = σ15.next + 1; omega]
      exact get_push
    have K3 := K2.grow G16
    have Z0 : Lay h m σ13 σ16 4 (drop2L (1, 0) sl (drop2Lp (drop2TA q σ13.next TH) (σ13.next + 2))) := ⟨K3.old, by omega, K3.abs, l16, d16, G16.old _ _ b15, K3.get (k := 0) rfl, trivial⟩
    show WC G Tryz.prog 115 #[.func (.yield (σ13.next + 3)) #[] #[], pp (σ13.next + 1)] ((σ15.push (.defs true)).push (drop2Lp (drop2TA q σ13.next TH) (σ13.next + 2))) _
    rw [← h16]
    clear h16 K0 K1 K2 K3 g14 o14 a14 G15 b15 G16 d16 l16
    have r0' := S1.old _ _ r0
    have r4p := S1.old _ _ r4
    have r5p := S1.old _ _ r5
    have d5 := S1.get (k := 5) rfl
    have o13 := S1.old
    clear S1
    refine (backLoop (l := ks) (s := sl) (b1 := σ13.next + 1) (L := σ13.next + 3) (by omega) (g.len (by kernel_rfl)) (by omega) (I := fun k σ => k ≤ ks.length ∧ Lay h (dropH m (ks.drop (ks.length - k))).1 σ13 σ 4 (drop2L (dropH m (ks.drop (ks.length - k))).2 sl (drop2Lp (drop2TA q σ13.next TH) (σ13.next + 2))))
      (R := fun σ => Lay h (dropH m ks).1 σ13 σ 4 (drop2L (dropH m ks).2 sl (drop2Lp (drop2TA q σ13.next TH) (σ13.next + 2)))) ?_ ?_ ?_ ⟨Nat.zero_le _, by rw [Nat.sub_zero, List.drop_length]; exact Z0⟩).mono ?_
    · rintro k σ ⟨_, Z⟩
      exact ⟨Z.get (k := 1) rfl, fun _ => (grow_old g Z.old).sl⟩
    · rintro k j σ hkj ⟨_, Z⟩
      refine (drop2_yield (j := (j : Int)) (y := ks.getD j (0, 0)) (by omega) r0' Z).mono fun r σ' hr => ⟨hr.1, by omega, ?_⟩
      have e1 : ks.length - (k + 1) = j := by omega
      have e2 : ks.length - k = j + 1 := by omega
      rw [e1, drop_at (by omega)]
      have := hr.2
      rw [e2] at this
      exact this
    · rintro σ ⟨_, Z⟩
      rw [Nat.sub_self, List.drop_zero] at Z
      exact Z
    · rintro _ σ17 Z
      have hz := Z.nx
      refine ⟨_, _, _, _, _, _, _, _, .normal, Z.get (k := 3) rfl, rfl, rfl, ?_⟩
      have sM := set1_put (x := .loop .exhausted none 66 (drop2TA q σ13.next TH) (rangePs drop2) (rangeAs drop2) (rangeBo drop2) (σ13.next + 2)) (Z.get (k := 3) rfl)
      generalize σ17.put (σ13.next + 3) (.loop .exhausted none 66 (drop2TA q σ13.next TH) (rangePs drop2) (rangeAs drop2) (rangeBo drop2) (σ13.next + 2)) = σ18 at sM
      have Z1 := Z.set sM
      have n18 := sM.nx
      clear sM Z
      obtain ⟨w, hw⟩ : ∃ w, w = (dropH m ks).2 := ⟨_, rfl⟩
      rw [← hw] at Z1 ⊢
      refine W.seq ?_
      refine W.region ?_
      refine RW.loads 2 (by kernel_rfl) (by kernel_rfl) rfl rfl (Z1.get (k := 0) rfl) rfl rfl (by kernel_rfl) ?_
      refine RW.setG (b := q + 4) (vs := #[.int .i64 w.1, .int .i64 w.2]) (by kernel_rfl) (by kernel_rfl) rfl rfl (by omega) (Z1.old _ _ r4p) rfl rfl (by kernel_rfl) rfl (by kernel_rfl) ?_; intro σ19 _ s19
      refine RW.set1G (b := q + 5) (v := .int .i64 0) (by kernel_rfl) (by kernel_rfl) rfl rfl (by omega) (s19.old _ _ (by omega) (Z1.old _ _ r5p)) rfl rfl rfl (by kernel_rfl) rfl (by kernel_rfl) ?_; intro σ20 _ s20
      refine RW.nil ?_
      refine W.ret ?_
      have p1 := s20.old _ _ (by omega) (s19.old _ _ (by omega) (Z1.get (k := 2) rfl))
      have z1 := set1_put (x := .defs false) p1
      have p2 := z1.old _ _ (by omega) (s20.old _ _ (by omega) (s19.old _ _ (by omega) (Z1.old _ _ d5)))
      have z2 := set1_put (x := .defs false) p2
      have f4 := z2.old _ _ (by omega) (z1.old _ _ (by omega) (s20.old _ _ (by omega) s19.at_))
      have f5 := z2.old _ _ (by omega) (z1.old _ _ (by omega) s20.at_)
      refine ⟨rfl, _, .mark p1 (by omega) (.mark p2 (by omega) (.nil _)), _, resW rfl f4 (resE rfl f5 rfl), rfl, ⟨fun b y hy => ?_, ?_⟩, ?_⟩
      · have hlt := Mem.lt hy
        exact z2.old _ _ (by omega) (z1.old _ _ (by omega) (s20.old _ _ (by omega) (s19.old _ _ (by omega) (Z1.old _ _ (o13 _ _ (o7 _ _ hy))))))
      · rw [z2.nx, z1.nx, s20.nx, s19.nx]; omega
      · rw [z2.abs, z1.abs, s20.abs, s19.abs]; exact Z1.abs
theorem delq_wc (x : Wd) (hG : G ≤ σ0.next) (ha : σ0.abs = heapAbs h m) (hlim : 0 < m.limit) {c a : Nat → Wd} {n : Nat} (hp : Path m c a n) (hn : n ≤ 65536) (hc : c n = (1, 0)) :
    WC G Tryz.prog 38 #[pp h, wdV x, wdV (c 0)] σ0 fun v σ' => v = .tuple #[wdV (dropH m (keptW x c a n)).2, .int .i64 0] ∧ GrowA σ0 σ' ∧ σ'.abs = heapAbs h (dropH m (keptW x c a n)).1 := by
  refine WC.enter (fn := Tryz.f38) Tryz.func38 rfl ?_
  refine W.know 0 (x := pp h) rfl ?_
  refine W.seq ?_
  refine W.region ?_
  refine RW.makeG (x := .row ⟨[.int .i64 x.1, .int .i64 x.2], 37, false⟩) (fm := fun b => .pointer (some ⟨b, 0, none⟩)) (by kernel_rfl) (by kernel_rfl) (by kernel_rfl) (by kernel_rfl) ?_; intro σ1 _ g1 G1 n1
  refine RW.makeG (x := .row ⟨[.int .i64 (c 0).1, .int .i64 (c 0).2], 37, false⟩) (fm := fun b => .pointer (some ⟨b, 0, none⟩)) (by kernel_rfl) (by kernel_rfl) (by kernel_rfl) (by kernel_rfl) ?_; intro σ2 _ g2 G2 n2
  refine RW.makeG (x := .row ⟨[.int .i64 0, .int .i64 0], 37, false⟩) (fm := fun b => .pointer (some ⟨b, 0, none⟩)) (by kernel_rfl) (by kernel_rfl) (by kernel_rfl) (by kernel_rfl) ?_; intro σ3 _ g3 G3 n3
  rw [n1] at g2 n2 ⊢
  rw [n2] at g3 n3 ⊢
  refine RW.val (by kernel_rfl) (by kernel_rfl) rfl (by kernel_rfl) ?_
  refine RW.nil ?_
  have GG := (G1.trans G2).trans G3
  have g1 := G3.old _ _ (G2.old _ _ g1)
  have g2 := G3.old _ _ g2
  refine W.seq ?_
  refine W.region ?_
  refine RW.val (by kernel_rfl) (by kernel_rfl) rfl (by kernel_rfl) ?_
  refine RW.loads 2 (by kernel_rfl) (by kernel_rfl) rfl rfl g1 rfl rfl (by kernel_rfl) ?_
  refine RW.loads 2 (by kernel_rfl) (by kernel_rfl) rfl rfl g2 rfl rfl (by kernel_rfl) ?_
  refine RW.call (by kernel_rfl) (by kernel_rfl) rfl rfl rfl (by kernel_rfl) (by kernel_rfl) ((drop_wc (G := G) (h := h) (m := m) x (by omega) (GG.abs.trans ha) hlim hp hn hc).mono ?_)
  rintro v σ4 ⟨rfl, G4, a4⟩
  have g3 := G4.old _ _ g3
  have n4 := G4.nx
  refine RW.val (by kernel_rfl) (by kernel_rfl) rfl (by kernel_rfl) ?_
  refine RW.val (by kernel_rfl) (by kernel_rfl) rfl (by kernel_rfl) ?_
  refine RW.setG (b := σ0.next + 1 + 1) (vs := #[.int .i64 (dropH m (keptW x c a n)).2.1, .int .i64 (dropH m (keptW x c a n)).2.2]) (by kernel_rfl) (by kernel_rfl) rfl rfl (by omega) g3 rfl rfl (by kernel_rfl) rfl (by kernel_rfl) ?_; intro σ5 _ s5
  refine RW.val (by kernel_rfl) (by kernel_rfl) rfl (by kernel_rfl) ?_
  refine RW.nil ?_
  refine W.ret ?_
  exact endG rfl (resW rfl s5.at_ (resL_tmp rfl)) ⟨rfl, (GG.a.trans G4).set s5 (by omega), s5.abs.trans a4⟩
end
end Go.Proofs.YtehcckhdppdkcaaGreatDoor
namespace Go.Proofs.YtehcckhdppdkcaaGreatDoor
set_option maxRecDepth 100000
section
variable {G h : Nat} {m : HM} {σ σ0 : Mem}
set_option maxHeartbeats 2000000 in
theorem member_wc (xi : Int) (hG : G ≤ σ0.next) (ha : σ0.abs = heapAbs h m) (hlim : 0 < m.limit) {c a : Nat → Wd} {n : Nat} (hp : Path m c a n) (hn : n ≤ 65536) (hc : c n = (1, 0)) (hint : ∀ j, j < n → ∃ b, a j = (0, b)) :
    WC G Tryz.prog 35 #[pp h, wdV (0, xi), wdV (c 0)] σ0 fun v σ' => Grow σ0 σ' ∧ ((∃ i, i < n ∧ (0, xi) = a i ∧ (∀ j, j < i → (0, xi) ≠ a j) ∧ v = .tuple #[wdV (c i), .int .i64 0]) ∨ ((∀ j, j < n → (0, xi) ≠ a j) ∧ v = .tuple #[wdV (1, 0), .int .i64 0])) := by
  refine WC.enter (fn := Tryz.f35) Tryz.func35 rfl ?_
  refine W.know 0 (x := pp h) rfl ?_
  refine W.seq ?_
  refine W.region ?_
  refine RW.makeG (x := .row ⟨[.int .i64 ((0, xi) : Wd).1, .int .i64 ((0, xi) : Wd).2], 37, false⟩) (fm := fun b => .pointer (some ⟨b, 0, none⟩)) (by kernel_rfl) (by kernel_rfl) (by kernel_rfl) (by kernel_rfl) ?_; intro σ1 _ g1 G1 n1
  refine RW.makeG (x := .row ⟨[.int .i64 (c 0).1, .int .i64 (c 0).2], 37, false⟩) (fm := fun b => .pointer (some ⟨b, 0, none⟩)) (by kernel_rfl) (by kernel_rfl) (by kernel_rfl) (by kernel_rfl) ?_; intro σ2 _ g2 G2 n2
  refine RW.makeG (x := .row ⟨[.int .i64 0, .int .i64 0], 37, false⟩) (fm := fun b => .pointer (some ⟨b, 0, none⟩)) (by kernel_rfl) (by kernel_rfl) (by kernel_rfl) (by kernel_rfl) ?_; intro σ3 _ g3 G3 n3
  rw [n1] at g2 n2 ⊢
  rw [n2] at g3 n3 ⊢
  refine RW.val (by kernel_rfl) (by kernel_rfl) rfl (by kernel_rfl) ?_
  refine RW.nil ?_
  have GG := (G1.trans G2).trans G3
  have g1 := G3.old _ _ (G2.old _ _ g1)
  have g2 := G3.old _ _ g2
  have hn3 := GG.nx
  obtain ⟨_, σ4, hS1, rfl, G4, n4, l4⟩ := counted_wc (G := G) (σ0 := σ3) (by omega)
  obtain ⟨v, σ5, hS2, ⟨k, _, ho⟩, n5, a5, hv⟩ := findB_wc (G := G) (h := h) (m := m) (σ0 := σ4) (f := 81) (ca := #[pp σ3.next]) (c := c) (a := a) (at_ := c) (el := a) (n := n) ((0, xi) : Wd) false (by kernel_rfl) (fun k => σ4.put σ3.next (irow (((200000 : Nat) : Int) - (k : Int)))) (fun _ => rfl) (put_old l4 (by rw [l4]; simp) (fun _ _ _ h => h)) (by omega) (G4.abs.trans (GG.abs.trans ha)) hlim hp hn hc (fun k hk => .inr ⟨rfl, rfl, rfl⟩) (fun k hk => by
    obtain ⟨b, hb⟩ := hint k hk
    rw [hb]
    exact sameB_counted xi b hlim (by omega) l4 (by omega) (by decide))
  have K4 : ∀ b y, σ3.get b = some y → σ5.get b = some y := fun b y hy => ho b y (get_put_ne (G4.old _ _ hy) (by have := Mem.lt hy; omega))
  obtain ⟨w, hw, hv2⟩ : ∃ w, v = .tuple #[wdV w, .int .i64 0] ∧ ((∃ i, i < n ∧ (0, xi) = a i ∧ (∀ j, j < i → (0, xi) ≠ a j) ∧ w = c i) ∨ ((∀ j, j < n → (0, xi) ≠ a j) ∧ w = (1, 0))) := by
    rcases hv with ⟨i, h1, h2, h3, h4⟩ | ⟨h1, h2⟩
    · exact ⟨_, h4, .inl ⟨i, h1, h2, h3, rfl⟩⟩
    · exact ⟨_, h2, .inr ⟨h1, rfl⟩⟩
  subst hw
  have y1 := G4.old _ _ g1
  have y2 := G4.old _ _ g2
  have z1 := K4 _ _ g1
  have z2 := K4 _ _ g2
  have z3 := K4 _ _ g3
  have sp := set1_put (x := wrow w) z3
  have u1 := sp.old _ _ (by omega) z1
  have u2 := sp.old _ _ (by omega) z2
  refine W.seq ?_
  refine W.drawn (by kernel_rfl) (by kernel_rfl) (by omega) ?_
  refine RW.val (by kernel_rfl) (by kernel_rfl) rfl (by kernel_rfl) ?_
  refine RW.loads 2 (by kernel_rfl) (by kernel_rfl) rfl rfl g1 rfl rfl (by kernel_rfl) ?_
  refine RW.loads 2 (by kernel_rfl) (by kernel_rfl) rfl rfl g2 rfl rfl (by kernel_rfl) ?_
  refine RW.call (by kernel_rfl) (by kernel_rfl) rfl rfl rfl (by kernel_rfl) (by kernel_rfl) ⟨_, _, hS1, ?_⟩
  refine RW.call (by kernel_rfl) (by kernel_rfl) rfl rfl rfl (by kernel_rfl) (by kernel_rfl) ⟨_, _, hS2, ?_⟩
  refine RW.val (by kernel_rfl) (by kernel_rfl) rfl (by kernel_rfl) ?_
  refine RW.val (by kernel_rfl) (by kernel_rfl) rfl (by kernel_rfl) ?_
  refine RW.stores (b := σ0.next + 1 + 1) (p := 0) (vs := #[.int .i64 w.1, .int .i64 w.2]) (by kernel_rfl) (by kernel_rfl) rfl rfl (by omega) z3 rfl rfl (by kernel_rfl) (by show 0 + 2 ≤ 2; omega) (by kernel_rfl) ?_
  refine RW.val (by kernel_rfl) (by kernel_rfl) rfl (by kernel_rfl) ?_
  refine RW.nil ?_
  refine ⟨⟨by kernel_rfl, ?_⟩, ?_⟩
  · repeat' (first | exact True.intro | refine dyn_row g1 u1 ?_ | refine dyn_row g2 u2 ?_ | exact fun _ => g1 | exact fun _ => g2 | exact fun _ => y1 | exact fun _ => y2 | exact fun _ => z1 | exact fun _ => z2 | exact fun _ => u1 | exact fun _ => u2 | exact fun h => Bool.noConfusion h | refine And.intro ?_ ?_ | exact Or.inl (by kernel_rfl))
  refine W.ret ?_
  have G5 : Grow σ0 σ5 := ⟨fun b y hy => K4 b y (GG.old b y hy), by omega, a5.trans (G4.abs.trans GG.abs)⟩
  refine endG (R := fun v σ' => Grow σ0 σ' ∧ ((∃ i, i < n ∧ (0, xi) = a i ∧ (∀ j, j < i → (0, xi) ≠ a j) ∧ v = .tuple #[wdV (c i), .int .i64 0]) ∨ ((∀ j, j < n → (0, xi) ≠ a j) ∧ v = .tuple #[wdV (1, 0), .int .i64 0]))) (vs := [_, _]) rfl (resW rfl sp.at_ (resL_tmp rfl)) ⟨G5.set sp (by omega), ?_⟩
  rcases hv2 with ⟨i, h1, h2, h3, rfl⟩ | ⟨h1, rfl⟩
  · exact .inl ⟨i, h1, h2, h3, rfl⟩
  · exact .inr ⟨h1, rfl⟩
/-- What of the first words is not x. -/
def remW (x : Wd) (a : Nat → Wd) (k : Nat) : List Wd := (firstN a k).filter fun y => !decide (x = y)
theorem remW_succ (x : Wd) (a : Nat → Wd) (k : Nat) : remW x a (k + 1) = if x = a k then remW x a k else remW x a k ++ [a k] := by
  unfold remW
  rw [firstN_succ, List.filter_append]
  by_cases h : x = a k <;> simp [h]
theorem remW_le (x : Wd) (a : Nat → Wd) (k : Nat) : (remW x a k).length ≤ k := by
  have := List.length_filter_le (fun y => !decide (x = y)) (firstN a k)
  rwa [firstN_length] at this
set_option maxHeartbeats 4000000 in
theorem remove_wc (xi : Int) (hG : G ≤ σ0.next) (ha : σ0.abs = heapAbs h m) (hf : m.free = []) (hlo : 0 < m.limit) (hlim : m.limit ≤ 65536) {c a : Nat → Wd} {n : Nat} (hr : m.many + n ≤ m.limit) (hp : Path m c a n) (hn : n ≤ 65536) (hc : c n = (1, 0)) (hint : ∀ j, j < n → ∃ b, a j = (0, b)) :
    WC G Tryz.prog 37 #[pp h, wdV (0, xi), wdV (c 0)] σ0 (BuildR h m (remW (0, xi) a n) (1, 0) σ0) := by
  refine WC.enter (fn := Tryz.f37) Tryz.func37 rfl ?_
  refine W.know 0 (x := pp h) rfl ?_
  refine W.seq ?_
  refine W.region ?_
  refine RW.makeG (x := .row ⟨[.int .i64 ((0, xi) : Wd).1, .int .i64 ((0, xi) : Wd).2], 37, false⟩) (fm := fun b => .pointer (some ⟨b, 0, none⟩)) (by kernel_rfl) (by kernel_rfl) (by kernel_rfl) (by kernel_rfl) ?_; intro σ1 _ g1 G1 n1
  refine RW.makeG (x := .row ⟨[.int .i64 (c 0).1, .int .i64 (c 0).2], 37, false⟩) (fm := fun b => .pointer (some ⟨b, 0, none⟩)) (by kernel_rfl) (by kernel_rfl) (by kernel_rfl) (by kernel_rfl) ?_; intro σ2 _ g2 G2 n2
  refine RW.makeG (x := .row ⟨[.int .i64 0, .int .i64 0], 37, false⟩) (fm := fun b => .pointer (some ⟨b, 0, none⟩)) (by kernel_rfl) (by kernel_rfl) (by kernel_rfl) (by kernel_rfl) ?_; intro σ3 _ g3 G3 n3
  rw [n1] at g2 n2 ⊢
  rw [n2] at g3 n3 ⊢
  refine RW.val (by kernel_rfl) (by kernel_rfl) rfl (by kernel_rfl) ?_
  refine RW.nil ?_
  have GG := (G1.trans G2).trans G3
  have g1 := G3.old _ _ (G2.old _ _ g1)
  have g2 := G3.old _ _ g2
  refine W.seq ?_
  refine W.region ?_
  refine RW.val (by kernel_rfl) (by kernel_rfl) rfl (by kernel_rfl) ?_
  refine RW.loads 2 (by kernel_rfl) (by kernel_rfl) rfl rfl g2 rfl rfl (by kernel_rfl) ?_
  refine RW.call (by kernel_rfl) (by kernel_rfl) rfl rfl rfl (by kernel_rfl) (by kernel_rfl) ((slice_wc (n := n) (by omega) (GG.abs.trans ha) hlo hp (.inr ⟨hn, .inl (by rw [hc]; decide)⟩)).mono ?_)
  intro _ σ4 H
  obtain ⟨G4, sl, rfl, gr, _⟩ := sliceR_ok hn hc H
  have GG4 := GG.trans G4
  replace g1 := G4.old _ _ g1
  replace g3 := G4.old _ _ g3
  have hn4 := GG4.nx
  have hn4b := G4.nx
  refine RW.val (by kernel_rfl) (by kernel_rfl) rfl (by kernel_rfl) ?_
  refine RW.val (by kernel_rfl) (by kernel_rfl) rfl (by kernel_rfl) ?_
  refine RW.val (by kernel_rfl) (by kernel_rfl) rfl (by kernel_rfl) ?_
  refine RW.val (by kernel_rfl) (by kernel_rfl) rfl (by kernel_rfl) ?_
  refine RW.val (by kernel_rfl) (by kernel_rfl) rfl (by kernel_rfl) ?_
  refine RW.nil ?_
  refine W.reset [(0, pp h), (4, pp σ0.next), (6, pp (σ0.next + 1 + 1)), (8, sl), (9, .int .i64 0)] ⟨rfl, rfl, rfl, rfl, rfl, trivial⟩ fun TA => ?_
  refine W.seq ?_
  refine W.seq ?_
  refine W.region ?_
  refine RW.val (by kernel_rfl) (by kernel_rfl) rfl (by kernel_rfl) ?_
  refine RW.val (by kernel_rfl) (by kernel_rfl) rfl (by kernel_rfl) ?_
  refine RW.nil ?_
  refine W.cond (b := false) rfl (fun h => by cases h) (fun _ => ?_)
  refine W.skip ?_
  refine W.seq ?_
  refine W.region ?_
  refine RW.val (by kernel_rfl) (by kernel_rfl) rfl (by kernel_rfl) ?_
  refine RW.nil ?_
  refine W.seq ?_
  refine W.region ?_
  refine RW.call (by kernel_rfl) (by kernel_rfl) rfl rfl rfl (by kernel_rfl) (by kernel_rfl) ((counted_wc (G := G) (by omega)).mono ?_)
  rintro _ σ5 ⟨rfl, G5, n5, l5⟩
  refine RW.val (by kernel_rfl) (by kernel_rfl) rfl (by kernel_rfl) ?_
  refine RW.nil ?_
  have GG5 := GG4.trans G5
  replace g1 := G5.old _ _ g1
  replace g3 := G5.old _ _ g3
  obtain ⟨L, hL⟩ : ∃ L, L = σ4.next := ⟨_, rfl⟩
  have frs : ∀ b, blkOf sl = some b → b ≠ L := fun b hb => by have := gr.lt hb; omega
  replace gr := grow_old gr G5.old
  rw [← hL] at l5 n5 ⊢
  have hn5 := GG5.nx
  have a5 := GG5.abs.trans ha
  refine W.seq ?_
  refine W.seq ?_
  refine W.region ?_
  refine RW.val (by kernel_rfl) (by kernel_rfl) rfl (by kernel_rfl) ?_
  refine RW.len (by kernel_rfl) (by kernel_rfl) rfl rfl rfl rfl (gr.len (by kernel_rfl)) (by kernel_rfl) ?_
  refine RW.val (by kernel_rfl) (by kernel_rfl) rfl (by kernel_rfl) ?_
  refine RW.nil ?_
  refine W.block ?_
  refine W.loop (fun mm ta σ => ∃ (i : Nat) (v : Value), mm + i = n ∧ (∀ b y, b ≠ L → σ5.get b = some y → σ.get b = some y) ∧ σ5.next ≤ σ.next ∧ σ.abs = heapAbs h m ∧ σ.get L = some (irow (200000 - (i : Int))) ∧ GRow G σ 37 2 v (remW (0, xi) a i).length (wdC (remW (0, xi) a i)) ∧ (∀ b, blkOf v = some b → σ5.next ≤ b) ∧ ta 0 = pp h ∧ ta 4 = pp σ0.next ∧ ta 6 = pp (σ0.next + 1 + 1) ∧ ta 11 = .func (.func 81) #[] #[pp L] ∧ ta 27 = sl ∧ ta 28 = .int .i64 (n : Int) ∧ ta 10 = v ∧ ta 29 = .int .i64 (i : Int)) n ?_ ?_
  · exact ⟨0, _, rfl, fun _ _ _ h => h, Nat.le_refl _, a5, l5, .nil, (fun b hb => by cases hb), rfl, rfl, rfl, rfl, rfl, rfl, rfl, rfl⟩
  rintro mm ta σ ⟨i, v, hm, ho, hnx, hab, hl, g, fr, e0, e4, e6, e11, e27, e28, e10, e29⟩
  refine W.know 0 e0 (W.know 4 e4 (W.know 6 e6 (W.know 11 e11 (W.know 27 e27 (W.know 28 e28 (W.know 10 e10 (W.know 29 e29 (?_))))))))
  refine W.seq ?_
  refine W.region ?_
  refine RW.val (by kernel_rfl) (by kernel_rfl) rfl (by kernel_rfl) ?_
  refine RW.nil ?_
  refine W.seq ?_
  refine W.cond rfl (fun hh => ?_) (fun hh => ?_)
  · have hin : i < n := by have := of_decide_eq_true hh; omega
    obtain ⟨bi, hbi⟩ := hint i hin
    have gs : GRow G σ 37 2 sl n (wdC (firstN a n)) := gr.keep fun b hb => by
      obtain ⟨r, h1, _⟩ := gr.is hb
      rw [h1, ho _ _ (frs b hb) h1]
    have gsl := gs.sl
    obtain ⟨qb, pb, sp, cc, r, hsl, hqr, hqc⟩ := sl_at (l := firstN a n) (j := i) gsl (by rw [firstN_length]; exact hin)
    rw [firstN_length] at hsl
    have hget : (firstN a n).getD i (0, 0) = (0, bi) := by
      rw [← hbi]
      simp [firstN, List.getD_eq_getElem?_getD, hin]
    rw [hget] at hqc
    have gh : G ≤ σ.next := by omega
    refine W.skip ?_
    refine W.seq ?_
    refine W.block ?_
    refine W.seq ?_
    refine W.region ?_
    refine RW.know 27 (x := .slice (some ⟨qb, pb, sp⟩) n cc) hsl ?_
    refine RW.idx (s := 2) (by kernel_rfl) (by kernel_rfl) rfl Tryz.underlying29 (by kernel_rfl) rfl rfl ⟨by omega, by omega⟩ (by kernel_rfl) ?_
    refine RW.loads 2 (by kernel_rfl) (by kernel_rfl) rfl rfl hqr hqc rfl (by kernel_rfl) ?_
    refine RW.varS (d := 13) (r0 := ⟨[.int .i64 0, .int .i64 0], 37, false⟩) (vs := #[.int .i64 ((0, bi) : Wd).1, .int .i64 ((0, bi) : Wd).2]) (by kernel_rfl) (by kernel_rfl) (by kernel_rfl) rfl (by kernel_rfl) rfl (by kernel_rfl) rfl rfl rfl rfl (by kernel_rfl) rfl (by omega) ?_
    intro σ6 _ g6 o6 n6 a6
    refine RW.nil ?_
    have q1 := o6 _ _ (ho _ _ (by omega) g1)
    have ql := o6 _ _ hl
    refine W.seq ?_
    refine W.region ?_
    refine RW.val (by kernel_rfl) (by kernel_rfl) rfl (by kernel_rfl) ?_
    refine RW.val (by kernel_rfl) (by kernel_rfl) rfl (by kernel_rfl) ?_
    refine RW.loads 2 (by kernel_rfl) (by kernel_rfl) rfl rfl q1 rfl rfl (by kernel_rfl) ?_
    refine RW.loads 2 (by kernel_rfl) (by kernel_rfl) rfl rfl g6 rfl rfl (by kernel_rfl) ?_
    refine RW.call (by kernel_rfl) (by kernel_rfl) rfl rfl rfl (by kernel_rfl) (by kernel_rfl) ((counted1_wc (G := G) (h := h) (m := m) xi bi (200000 - (i : Int)) (by omega) (a6.trans hab) hlo (by omega) ql (by omega) (by omega)).mono ?_)
    rintro _ σ7 ⟨rfl, E7⟩
    have hn7 := E7.nx
    have g7 := E7.old _ _ (by have := Mem.lt hl; omega) g6
    refine RW.val (by kernel_rfl) (by kernel_rfl) rfl (by kernel_rfl) ?_
    refine RW.val (by kernel_rfl) (by kernel_rfl) rfl (by kernel_rfl) ?_
    refine RW.val (by kernel_rfl) (by kernel_rfl) rfl (by kernel_rfl) ?_
    refine RW.val (by kernel_rfl) (by kernel_rfl) rfl (by kernel_rfl) ?_
    refine RW.val (by kernel_rfl) (by kernel_rfl) rfl (by kernel_rfl) ?_
    refine RW.nil ?_
    have gv : GRow G σ7 37 2 v (remW (0, xi) a i).length (wdC (remW (0, xi) a i)) := (grow_old g o6).keep fun b hb => by
      obtain ⟨r, h1, _⟩ := (grow_old g o6).is hb
      rw [h1, E7.old _ _ (by have := fr b hb; omega) h1]
    have hrem := remW_succ (0, xi) a i
    have hrle := remW_le (0, xi) a i
    rw [hbi] at hrem
    have l7 : σ7.get L = some (irow (200000 - ((i + 1 : Nat) : Int))) := by rw [E7.at_, show (200000 : Int) - (i : Int) - 1 = 200000 - ((i + 1 : Nat) : Int) by omega]
    have o7 : ∀ b y, b ≠ L → σ5.get b = some y → σ7.get b = some y := fun b y hb hy => E7.old _ _ hb (o6 _ _ (ho b y hb hy))
    have a7 : σ7.abs = heapAbs h m := E7.abs.trans (a6.trans hab)
    refine W.seq ?_
    refine W.seq ?_
    refine W.region ?_
    refine RW.val (by kernel_rfl) (by kernel_rfl) rfl (by kernel_rfl) ?_
    refine RW.val (by kernel_rfl) (by kernel_rfl) rfl (by kernel_rfl) ?_
    refine RW.nil ?_
    refine W.cond (b := false) rfl (fun h => by cases h) (fun _ => ?_)
    refine W.skip ?_
    refine W.seq ?_
    refine W.region ?_
    refine RW.val (by kernel_rfl) (by kernel_rfl) rfl (by kernel_rfl) ?_
    refine RW.val (by kernel_rfl) (by kernel_rfl) rfl (by kernel_rfl) ?_
    refine RW.nil ?_
    by_cases hxy : xi = bi
    · refine W.cond (b := false) (by rw [decide_eq_true hxy]; rfl) (fun h => by cases h) (fun _ => ?_)
      refine W.skip ?_
      rw [if_pos (by rw [hxy])] at hrem
      rw [← hrem] at gv
      refine W.region ?_
      refine RW.valE (by kernel_rfl) (by kernel_rfl) rfl (congrArg (Value.int .i64) (wrap_in (by omega) (by omega))) (by kernel_rfl) ?_
      refine RW.val (by kernel_rfl) (by kernel_rfl) rfl (by kernel_rfl) ?_
      refine RW.nil ?_
      exact ⟨rfl, mm - 1, by omega, i + 1, v, by omega, o7, by omega, a7, l7, gv, fr, rfl, rfl, rfl, rfl, hsl.symm, rfl, rfl, rfl⟩
    · refine W.cond (b := true) (by rw [decide_eq_false hxy]; rfl) (fun _ => ?_) (fun h => by cases h)
      refine W.region ?_
      refine RW.val (by kernel_rfl) (by kernel_rfl) rfl (by kernel_rfl) ?_
      refine RW.loads 2 (by kernel_rfl) (by kernel_rfl) rfl rfl g7 rfl rfl (by kernel_rfl) ?_
      refine RW.make (x := .row ⟨wdC [((0, bi) : Wd)], 37, false⟩) (fm := fun b => .slice (some ⟨b, 0, none⟩) 1 1) (by kernel_rfl) (by kernel_rfl) (by kernel_rfl) (by kernel_rfl) ?_
      obtain ⟨v', cmd, k1, k2, k3, k4, k5, k6⟩ := grow_push (P := Tryz.prog) (t := 29) (u := 29) (e2 := 37) (r := ⟨wdC [((0, bi) : Wd)], 37, false⟩) (n := 1) gv (by omega) (by kernel_rfl) (by kernel_rfl) (by kernel_rfl) (by decide) (by decide) rfl rfl (by omega)
      refine RW.append (by kernel_rfl) (by kernel_rfl) rfl rfl rfl rfl k1 (by kernel_rfl) ?_
      generalize MCmd.app (σ7.push (.row ⟨wdC [((0, bi) : Wd)], 37, false⟩)) cmd = σ8 at k2 k3 k4 k5 ⊢
      refine RW.val (by kernel_rfl) (by kernel_rfl) rfl (by kernel_rfl) ?_
      refine RW.nil ?_
      rw [if_neg (fun e => hxy (Prod.mk.inj e).2)] at hrem
      have g8 : GRow G σ8 37 2 v' (remW (0, xi) a (i + 1)).length (wdC (remW (0, xi) a (i + 1))) := by
        rw [hrem, List.length_append, show wdC (remW (0, xi) a i ++ [((0, bi) : Wd)]) = wdC (remW (0, xi) a i) ++ wdC [((0, bi) : Wd)] by simp [wdC]]
        exact k2
      have hlL := Mem.lt l5
      refine W.region ?_
      refine RW.valE (by kernel_rfl) (by kernel_rfl) rfl (congrArg (Value.int .i64) (wrap_in (by omega) (by omega))) (by kernel_rfl) ?_
      refine RW.val (by kernel_rfl) (by kernel_rfl) rfl (by kernel_rfl) ?_
      refine RW.nil ?_
      refine ⟨rfl, mm - 1, by omega, i + 1, v', by omega, fun b y hb hy => k5 b y (o7 b y hb hy) (fun e => by have := fr b e; have := Mem.lt hy; omega), by omega, k4.trans a7, k5 _ _ l7 (fun e => by have := fr _ e; omega), g8, fun b hb => ?_, rfl, rfl, rfl, rfl, hsl.symm, rfl, rfl, rfl⟩
      rcases k6 b hb with h2 | h2
      · exact fr b h2
      · omega
  · have hin : i = n := by have := of_decide_eq_false hh; omega
    subst hin
    refine W.exit _ ?_
    have hrle := remW_le (0, xi) a i
    refine W.seq ?_
    refine W.region ?_
    refine RW.val (by kernel_rfl) (by kernel_rfl) rfl (by kernel_rfl) ?_
    refine RW.val (by kernel_rfl) (by kernel_rfl) rfl (by kernel_rfl) ?_
    refine RW.call (by kernel_rfl) (by kernel_rfl) rfl rfl rfl (by kernel_rfl) (by kernel_rfl) ⟨_, _, s_none, ?_⟩
    refine RW.call (by kernel_rfl) (by kernel_rfl) rfl rfl rfl (by kernel_rfl) (by kernel_rfl) ((build_wc (G := G) (h := h) (m := m) (l := remW (0, xi) a i) (t := (1, 0)) (s := v) (by omega) hab hf (by omega) hlim (fun _ => g.sl) g.one (g.len (by kernel_rfl))).mono ?_)
    rintro _ σ8 ⟨rfl, G8, a8⟩
    have hn8 := G8.nx
    have g3 := G8.old _ _ (ho _ _ (by omega) g3)
    obtain ⟨w, hw⟩ : ∃ w, w = (built m (remW (0, xi) a i) (1, 0)).2 := ⟨_, rfl⟩
    rw [← hw]
    refine RW.val (by kernel_rfl) (by kernel_rfl) rfl (by kernel_rfl) ?_
    refine RW.val (by kernel_rfl) (by kernel_rfl) rfl (by kernel_rfl) ?_
    refine RW.setG (b := σ0.next + 1 + 1) (vs := #[.int .i64 w.1, .int .i64 w.2]) (by kernel_rfl) (by kernel_rfl) rfl rfl (by omega) g3 rfl rfl (by kernel_rfl) rfl (by kernel_rfl) ?_; intro σ9 _ s9
    refine RW.val (by kernel_rfl) (by kernel_rfl) rfl (by kernel_rfl) ?_
    refine RW.nil ?_
    refine W.ret ?_
    refine endG (R := BuildR h m (remW (0, xi) a i) (1, 0) σ0) (vs := [_, _]) rfl (resW rfl s9.at_ (resL_tmp rfl)) ⟨by rw [← hw]; rfl, ⟨fun b y hy => ?_, by rw [s9.nx]; omega⟩, s9.abs.trans a8⟩
    have := Mem.lt hy
    exact s9.old _ _ (by omega) (G8.old _ _ (ho _ _ (by omega) (GG5.old _ _ hy)))
end
end Go.Proofs.YtehcckhdppdkcaaGreatDoor
