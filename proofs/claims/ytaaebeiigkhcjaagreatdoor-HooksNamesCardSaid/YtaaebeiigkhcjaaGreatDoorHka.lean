/-
  Lists of words for the laws of hooks: slices that are frozen, what Slice and Make answer where the memory is a list of entries, and the functions of a hook in plain words. Conditions: the heap lies there as HeapAt says, no number is free below.
-/
import Derived.Test.YtaaebeiigkhcjaaGreatDoorL1
import Derived.Test.YtaaebeiigkhcjaaGreatDoorS4
namespace Go.Proofs.YtaaebeiigkhcjaaGreatDoor
set_option maxRecDepth 100000
theorem slf_sl {F : Nat → Option Blk2} {σ : Mem} {s n : Nat} {v : Value} {xs : List Value} (h : SlF F s v n xs) (h0 : 0 < n) (ho : ∀ b y, F b = some y → σ.get b = some y) : Sl σ s v xs := by
  cases h with
  | nil _ h => omega
  | void _ _ h => omega
  | some hr hx hc =>
    refine .some (ho _ _ hr) hx fun i x hi => ?_
    rw [← hc, List.getElem?_take] at hi
    split at hi
    · rw [List.getElem?_drop] at hi; exact hi
    · cases hi
theorem slf_src {F : Nat → Option Blk2} {σ : Mem} {s n : Nat} {v : Value} {xs : List Value} (h : SlF F s v n xs) (hs0 : 0 < s) (ho : ∀ b y, F b = some y → σ.get b = some y) : srcF σ s v = some (n, xs) := by
  cases h with
  | nil _ h => subst h; rfl
  | void _ _ h => subst h; rfl
  | @some b p n c sp r xs hr hx hc =>
    unfold srcF
    by_cases h0 : n = 0
    · subst h0
      rw [Nat.zero_mul] at hx
      simp only [if_pos trivial]
      rw [List.eq_nil_of_length_eq_zero hx]
    · have h1 : 0 < n * s := Nat.mul_pos (by omega) hs0
      have h2 := congrArg List.length hc
      rw [List.length_take, List.length_drop, hx] at h2
      simp only [if_neg h0, ho _ _ hr]
      rw [if_pos (by omega), hc]
theorem setL_same : ∀ {L : List Ent} {k : Nat} {x : Ent}, lookL L k = some x → setL L k x = L
  | _ :: _, 0, _, h => by cases h; rfl
  | x :: l, k + 1, y, h => congrArg (x :: ·) (setL_same (L := l) (k := k) h)
theorem wdC_ones : ∀ l : List Wd, (wdC l).all (·.oneCell') = true
  | [] => rfl
  | x :: l => by
    rw [show wdC (x :: l) = [.int .i64 x.1, .int .i64 x.2] ++ wdC l from rfl, List.all_append, wdC_ones l]
    rfl
theorem wdC_at {l : List Wd} {j : Nat} (hj : j < l.length) : ((wdC l).drop (((j : Nat) : Int).toNat * 2)).take 2 = [.int .i64 (l.getD j (0, 0)).1, .int .i64 (l.getD j (0, 0)).2] := by
  rw [Int.toNat_natCast]
  induction l generalizing j with
  | nil => cases hj
  | cons x l ih =>
    cases j with
    | zero => rfl
    | succ j =>
      have := ih (j := j) (by simpa using hj)
      rw [show wdC (x :: l) = [.int .i64 x.1, .int .i64 x.2] ++ wdC l from rfl, show (j + 1) * 2 = j * 2 + 1 + 1 by omega]
      exact this
theorem allOk_app {G : Nat} {σ : Mem} : ∀ {a b : List Ent}, AllOk G σ a → AllOk G σ b → AllOk G σ (a ++ b)
  | [], _, _, h => h
  | _ :: _, _, h, k => ⟨h.1, allOk_app h.2 k⟩
theorem apart_app {F F' : Nat → Option Blk2} : ∀ {a b : List Ent}, Apart F' a → Apart F b → Le F F' → (∀ y ∈ b, ∀ c, y.blk = some c → F' c ≠ none) → Apart F (a ++ b)
  | [], _, _, h, _, _ => h
  | x :: l, b, h, k, le, hb => by
    refine ⟨fun c hc => ⟨?_, fun y hy hyc => ?_⟩, apart_app h.2 k le hb⟩
    · have := (h.1 c hc).1
      cases e : F c with
      | none => rfl
      | some z => rw [le _ _ e] at this; cases this
    · rcases List.mem_append.1 hy with h1 | h1
      · exact (h.1 c hc).2 y h1 hyc
      · exact hb y h1 c hyc (h.1 c hc).1
theorem Lies.then {G : Nat} {A A' : Abs} {F : Nat → Option Blk2} {σ σ' : Mem} {L L' : List Ent} (H : Lies G A F σ L) (K : Lies G A' σ.get σ' L') : Lies G A' F σ' (L' ++ L) := by
  refine ⟨K.gn, fun b y h => K.old b y (H.old b y h), K.abs, allOk_app K.ok (H.ok.keep fun _ _ b y _ h => K.old b y h), apart_app K.apart H.apart H.old fun y hy c hc => ?_⟩
  obtain ⟨_, z, hz⟩ := (H.ok.mem y hy).is hc
  rw [hz]
  exact fun h => by cases h
section
variable {G h : Nat} {m : HM} {σ : Mem} {F : Nat → Option Blk2} {L : List Ent} {A : Abs}
theorem slf_vw {v : Value} {l : List Wd} (hs : SlF F 2 v l.length (wdC l)) (H : Lies G A F σ L) : Vw σ v l := ⟨hs.len (e := 27) (by kernel_rfl), fun h0 => slf_sl hs h0 H.old⟩
theorem row_vw {b : Nat} {x y : Wd} {t : TypeId} {g : Bool} (H : σ.get b = some (.row ⟨[.int .i64 x.1, .int .i64 x.2, .int .i64 y.1, .int .i64 y.2], t, g⟩)) : Vw σ (.slice (some ⟨b, 0, none⟩) 2 2) [x, y] :=
  ⟨by kernel_rfl, fun _ => .some H rfl fun i z hi => by rw [Nat.zero_add]; exact hi⟩
theorem slice_k {σ0 : Mem} {c : Nat → Wd} {l : List Wd} {x : Wd} (hx : c 0 = x) (hG : G ≤ σ0.next) (ha : σ0.abs = heapAbs h m) (hlo : 0 < m.limit) (hp : Chain m c l) (hn : l.length ≤ 65536) :
    WC G Tryz.prog 12 #[pp h, wdV x] σ0 fun v σ' => ∃ sl, v = .tuple #[sl, .int .i64 0] ∧ Lies G (heapAbs h m) σ0.get σ' [.sl 27 2 sl l.length (wdC l)] := by
  subst hx
  refine (slice_wc (n := l.length) hG ha hlo hp.2 (.inr ⟨hn, .inl (by rw [hp.1]; decide)⟩)).mono fun v σ' h1 => ?_
  obtain ⟨g, sl, e, gr, hb⟩ := sliceR_ok hn hp.1 h1
  rw [firstN_getD] at gr
  exact ⟨sl, e, (Lies.start hG ha).addSl g gr hb⟩
theorem new_lies (n : Nat) (h1 : 1 ≤ n) (h2 : n ≤ 65536) (H : Lies G Abs.no F σ L) :
    WC G Tryz.prog 36 #[.int .i64 n] σ fun v σ' => ∃ h, v = .tuple #[.pointer (some ⟨h, 0, none⟩), .int .i64 0] ∧ Lies G (heapAbs h (hm0 n)) F σ' L :=
  ⟨_, _, s_new n h1 h2 H.abs, _, rfl, H.move (fun b y h => by rw [made_get]; exact h) (Nat.le_succ _) rfl⟩
theorem make_lies {s : Value} {l : List Wd} (H : Lies G (heapAbs h m) F σ L) (hs : Vw σ s l) (h1 : s.cells.toList = [s]) (hf : m.free = []) (hr : m.many + l.length ≤ m.limit) (hlo : 0 < m.limit) (hlim : m.limit ≤ 65536) :
    WC G Tryz.prog 39 #[pp h, s] σ fun v σ' => v = .tuple #[wdV (built m l (1, 0)).2, .int .i64 0] ∧ Lies G (heapAbs h (built m l (1, 0)).1) F σ' L :=
  (make_wc H.gn H.abs hf hr hlo hlim hs.at_ h1 hs.len).mono fun _ _ h2 => ⟨h2.1, H.move h2.2.1.old h2.2.1.nx h2.2.2⟩
end
theorem pickOf_in (x : Int) {n : Int} (h : 0 < n) : 0 ≤ pickOf x n ∧ pickOf x n < n := by
  unfold pickOf
  have h1 := Int.tmod_lt_of_pos x h
  have h2 := Int.lt_tmod_of_pos x h
  rw [if_neg (by omega)]
  split <;> omega
theorem car_nil_is (m : HM) : m.car (1, 0) = ((1, 0), 0) := by
  unfold HM.car
  split
  · rename_i a d h
    have := (HM.find_mem h).2.2
    cases this
  · rfl
section
variable {G h : Nat} {m : HM} {σ : Mem}
theorem carN_call (ha : σ.abs = heapAbs h m) : SCall G Tryz.prog 81 #[.pointer (some ⟨h, 0, none⟩), .agg #[.int .i64 1, .int .i64 0]] σ (.tuple #[.agg #[.int .i64 1, .int .i64 0], .int .i64 0]) σ := by
  have := s_car (G := G) (1, 0) ha
  rwa [car_nil_is] at this
theorem carY_call {k : Int} {a d : Wd} (ha : σ.abs = heapAbs h m) (hf : m.find (2, k) = some (.pair a d)) : SCall G Tryz.prog 81 #[.pointer (some ⟨h, 0, none⟩), .agg #[.int .i64 2, .int .i64 k]] σ (.tuple #[.agg #[.int .i64 a.1, .int .i64 a.2], .int .i64 0]) σ := by
  have := s_car (G := G) (2, k) ha
  rwa [car_of hf] at this
theorem liveY_call {k : Int} {a d : Wd} (ha : σ.abs = heapAbs h m) (hf : m.find (2, k) = some (.pair a d)) : SCall G Tryz.prog 100 #[.pointer (some ⟨h, 0, none⟩), .agg #[.int .i64 2, .int .i64 k]] σ (.bool true) σ := by
  have := s_live (G := G) k ha
  rwa [hf] at this
end
structure ExtH (m m' : HM) (n : Nat) : Prop where
  finds : FindsAll m m'
  lim : m'.limit = m.limit
  free : m'.free = []
  many : m'.many ≤ m.many + n
theorem ExtH.refl {m : HM} (hf : m.free = []) : ExtH m m 0 := ⟨fun _ _ h => h, rfl, hf, Nat.le_refl _⟩
theorem ExtH.trans {m m1 m2 : HM} {a b : Nat} (h : ExtH m m1 a) (k : ExtH m1 m2 b) : ExtH m m2 (a + b) := ⟨h.finds.trans k.finds, k.lim.trans h.lim, k.free, by have := h.many; have := k.many; omega⟩
theorem ExtH.le {m m1 : HM} {a b : Nat} (h : ExtH m m1 a) (k : a ≤ b) : ExtH m m1 b := ⟨h.finds, h.lim, h.free, by have := h.many; omega⟩
theorem ext_built {m : HM} (hf : m.free = []) (l : List Wd) (t : Wd) : ExtH m (built m l t).1 l.length := ⟨finds_built m l t, built_limit m l t, by rw [built_free]; exact hf, by rw [built_many]; exact Nat.le_refl _⟩
def Fine (x : Wd) : Prop := x.1 = 1 → x.2 ≠ 7 ∧ x.2 ≠ 8
def okW (x : Wd) : Bool := !(x.1 == 1 && x.2 == 0)
def isT (x : Wd) : Bool := x.1 == 1 && x.2 == 1
def glob (us : List Wd) : List Wd := us.filter fun x => okW x && !isT x
def flatW (us : List Wd) (x : Wd) : List Wd := if okW x then (if isT x then glob us else [x]) else []
def flatL (ws us : List Wd) : List Wd := ws.flatMap (flatW us)
theorem take_snoc {ws : List Wd} {j : Nat} (hj : j < ws.length) : ws.take (j + 1) = ws.take j ++ [ws.getD j (0, 0)] := by
  rw [List.take_add_one, List.getD_eq_getElem?_getD, List.getElem?_eq_getElem hj]
  rfl
theorem glob_snoc {us : List Wd} {j : Nat} (hj : j < us.length) : glob (us.take (j + 1)) = glob (us.take j) ++ if okW (us.getD j (0, 0)) && !isT (us.getD j (0, 0)) then [us.getD j (0, 0)] else [] := by
  rw [take_snoc hj]
  unfold glob
  rw [List.filter_append]
  congr 1
  cases h : okW (us.getD j (0, 0)) && !isT (us.getD j (0, 0)) <;> simp only [List.filter, h] <;> rfl
theorem flat_snoc {ws us : List Wd} {j : Nat} (hj : j < ws.length) : flatL (ws.take (j + 1)) us = flatL (ws.take j) us ++ flatW us (ws.getD j (0, 0)) := by
  rw [take_snoc hj]
  simp [flatL]
theorem glob_all (us : List Wd) : glob (us.take us.length) = glob us := by rw [List.take_length]
theorem flat_all (ws us : List Wd) : flatL (ws.take ws.length) us = flatL ws us := by rw [List.take_length]
theorem glob_len (us : List Wd) : (glob us).length ≤ us.length := List.length_filter_le _ _
theorem flatW_len (us : List Wd) (x : Wd) : (flatW us x).length ≤ us.length + 1 := by
  unfold flatW
  have := glob_len us
  split
  · split
    · omega
    · simp
  · simp
theorem flat_len (us : List Wd) : ∀ ws : List Wd, (flatL ws us).length ≤ ws.length * (us.length + 1)
  | [] => by simp [flatL]
  | x :: l => by
    have h1 := flat_len us l
    have h2 := flatW_len us x
    rw [show flatL (x :: l) us = flatW us x ++ flatL l us from rfl, List.length_append, List.length_cons, Nat.succ_mul]
    omega
theorem wdC_snoc (l : List Wd) (x : Wd) : wdC l ++ [.int .i64 x.1, .int .i64 x.2] = wdC (l ++ [x]) := by rw [wdC_app]; rfl
theorem len_snoc (l : List Wd) (x : Wd) : l.length + 1 = (l ++ [x]).length := by simp
theorem flat_le {ws us : List Wd} (h1 : ws.length ≤ 12) (h2 : us.length ≤ 12) (j : Nat) : (flatL (ws.take j) us).length ≤ 156 := by
  have h3 := flat_len us (ws.take j)
  have h4 : (ws.take j).length ≤ 12 := by rw [List.length_take]; omega
  have h5 : (ws.take j).length * (us.length + 1) ≤ 12 * 13 := Nat.mul_le_mul h4 (by omega)
  omega
theorem glob_le {us : List Wd} (h : us.length ≤ 12) (k : Nat) : (glob (us.take k)).length ≤ 12 := by
  have := glob_len (us.take k)
  rw [List.length_take] at this
  omega
theorem flat_glob_le {ws us : List Wd} (h1 : ws.length ≤ 12) (h2 : us.length ≤ 12) (j k : Nat) : (flatL (ws.take j) us ++ glob (us.take k)).length ≤ 168 := by
  have := flat_le h1 h2 j
  have := glob_le h2 k
  rw [List.length_append]
  omega
theorem okW_yes {x : Wd} (h : (!(x.1 == 1 && x.2 == 0)) = true) : okW x = true := h
theorem okW_no {x : Wd} (h : (!(x.1 == 1 && x.2 == 0)) = false) : okW x = false := h
theorem isT_no {x : Wd} (h : (!(x.1 == 1 && x.2 == 1)) = true) : isT x = false := by
  unfold isT
  cases e : (x.1 == 1 && x.2 == 1) with
  | true => rw [e] at h; cases h
  | false => rfl
theorem isT_yes {x : Wd} (h : (!(x.1 == 1 && x.2 == 1)) = false) : isT x = true := by
  unfold isT
  cases e : (x.1 == 1 && x.2 == 1) with
  | true => rfl
  | false => rw [e] at h; cases h
theorem flat_no {ws us : List Wd} {j : Nat} (hj : j < ws.length) (h : okW (ws.getD j (0, 0)) = false) : flatL (ws.take (j + 1)) us = flatL (ws.take j) us := by
  rw [flat_snoc hj, flatW, h]
  simp
theorem flat_one {ws us : List Wd} {j : Nat} (hj : j < ws.length) (h : okW (ws.getD j (0, 0)) = true) (k : isT (ws.getD j (0, 0)) = false) : flatL (ws.take (j + 1)) us = flatL (ws.take j) us ++ [ws.getD j (0, 0)] := by
  rw [flat_snoc hj, flatW, h, k]
  rfl
theorem flat_teeAt {ws us : List Wd} {j : Nat} (hj : j < ws.length) (h : okW (ws.getD j (0, 0)) = true) (k : isT (ws.getD j (0, 0)) = true) : flatL (ws.take (j + 1)) us = flatL (ws.take j) us ++ glob us := by
  rw [flat_snoc hj, flatW, h, k]
  rfl
theorem glob_no {us : List Wd} {j : Nat} (hj : j < us.length) (h : okW (us.getD j (0, 0)) = false ∨ isT (us.getD j (0, 0)) = true) : glob (us.take (j + 1)) = glob (us.take j) := by
  rw [glob_snoc hj]
  rcases h with h | h <;> rw [h] <;> simp
theorem glob_one {us : List Wd} {j : Nat} (hj : j < us.length) (h : okW (us.getD j (0, 0)) = true) (k : isT (us.getD j (0, 0)) = false) : glob (us.take (j + 1)) = glob (us.take j) ++ [us.getD j (0, 0)] := by
  rw [glob_snoc hj, h, k]
  rfl
theorem Lies.back {G : Nat} {A : Abs} {F F' : Nat → Option Blk2} {σ : Mem} {L : List Ent} (H : Lies G A F' σ L) (k : Le F F') : Lies G A F σ L :=
  ⟨H.gn, fun b y h => H.old b y (k b y h), H.abs, H.ok, H.apart.frozen fun z hz b hb => by
    have := H.apart.mem z hz b hb
    cases e : F b with
    | none => rfl
    | some y => rw [k b y e] at this; cases this⟩
theorem built_kind {m : HM} {x : Wd} {l : List Wd} {t : Wd} : (built m (x :: l) t).2.1 = 2 := by
  rw [built_word]
  unfold consOf
  rw [if_pos (by simp)]
abbrev G66 : Nat := 66
def GNull (f : Nat → Option Blk2) : Prop := ∃ t g, f 0 = some (.row ⟨[.int .i64 1, .int .i64 0], t, g⟩)
def GTee (f : Nat → Option Blk2) : Prop := ∃ t g, f 1 = some (.row ⟨[.int .i64 1, .int .i64 1], t, g⟩)
theorem GNull.le {F F' : Nat → Option Blk2} (h : GNull F) (k : Le F F') : GNull F' := by obtain ⟨t, g, e⟩ := h; exact ⟨t, g, k _ _ e⟩
theorem GTee.le {F F' : Nat → Option Blk2} (h : GTee F) (k : Le F F') : GTee F' := by obtain ⟨t, g, e⟩ := h; exact ⟨t, g, k _ _ e⟩
def Elems (G h : Nat) (m : HM) (w : Wd) (ws : List Wd) : Prop := ∀ σ : Mem, G ≤ σ.next → σ.abs = heapAbs h m → GNull σ.get →
  WC G Tryz.prog 61 #[pp h, wdV w] σ fun v σ' => ∃ sl, v = .tuple #[sl, .int .i64 0] ∧ ∃ L', Lies G (heapAbs h m) σ.get σ' L' ∧ ∀ A2 F2 σ2 L2, Lies G A2 F2 σ2 (L' ++ L2) → ∃ F', Le F2 F' ∧ SlF F' 2 sl ws.length (wdC ws) ∧ Lies G A2 F' σ2 L2
end Go.Proofs.YtaaebeiigkhcjaaGreatDoor
