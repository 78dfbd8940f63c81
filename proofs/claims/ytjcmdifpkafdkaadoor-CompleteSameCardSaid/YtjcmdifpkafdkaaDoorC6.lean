/-
 TryPartial. Conditions: the tables of unicode/utf8 lie.
 What TryPartial returns matches the same candidates and is complete. Plain. Conditions: none.
 CompleteSame in the second memory. Conditions: none.
-/
import Derived.Test.YtjcmdifpkafdkaaDoorC5
import Derived.Test.YtjcmdifpkafdkaaDoorL3
import Derived.Test.YtjcmdifpkafdkaaDoorC3
import Derived.Test.YtjcmdifpkafdkaaDoorL6
namespace Go.Proofs.YtjcmdifpkafdkaaDoor
open Go.Lib
set_option maxRecDepth 100000
open Go.RowKit
def PE (us : List Value) (xss : List (List Value)) : List Ent := (us.zip xss).map fun p => .sl 50 1 p.1 p.2.length p.2
theorem pe_focus : ∀ {us : List Value} {xss : List (List Value)} {j : Nat}, j < us.length → us.length = xss.length → (PE us xss).Perm (.sl 50 1 (us.getD j undef) (xss.getD j []).length (xss.getD j []) :: PE (us.eraseIdx j) (xss.eraseIdx j))
 | [], _, _, h, _ => absurd h (Nat.not_lt_zero _)
 | _ :: _, [], _, _, k => by cases k
 | u :: us, x :: xss, 0, _, _ => List.Perm.refl _
 | u :: us, x :: xss, j + 1, h, k => ((pe_focus (us := us) (xss := xss) (j := j) (Nat.lt_of_succ_lt_succ h) (Nat.succ.inj k)).cons _).trans (List.Perm.swap ..)
theorem pe_set : ∀ {us : List Value} {xss : List (List Value)} {j : Nat} {u : Value} {x : List Value}, j < us.length → us.length = xss.length → (PE (us.set j u) (xss.set j x)).Perm (.sl 50 1 u x.length x :: PE (us.eraseIdx j) (xss.eraseIdx j))
 | [], _, _, _, _, h, _ => absurd h (Nat.not_lt_zero _)
 | _ :: _, [], _, _, _, _, k => by cases k
 | _ :: us, _ :: xss, 0, _, _, _, _ => List.Perm.refl _
 | _ :: us, _ :: xss, j + 1, _, _, h, k => ((pe_set (us := us) (xss := xss) (j := j) (Nat.lt_of_succ_lt_succ h) (Nat.succ.inj k)).cons _).trans (List.Perm.swap ..)
theorem pe_pick {us : List Value} {xss : List (List Value)} {j : Nat} {X : Ent} {L : List Ent} (h : j < us.length) (k : us.length = xss.length) : (X :: (PE us xss ++ L)).Perm (X :: .sl 50 1 (us.getD j undef) (xss.getD j []).length (xss.getD j []) :: (PE (us.eraseIdx j) (xss.eraseIdx j) ++ L)) := ((pe_focus h k).append_right L).cons X
theorem pe_put {us : List Value} {xss : List (List Value)} {j : Nat} {u : Value} {x : List Value} {X : Ent} {L : List Ent} (h : j < us.length) (k : us.length = xss.length) : (X :: .sl 50 1 u x.length x :: (PE (us.eraseIdx j) (xss.eraseIdx j) ++ L)).Perm (X :: (PE (us.set j u) (xss.set j x) ++ L)) := (((pe_set h k).append_right L).cons X).symm
theorem Lies.nils {G : Nat} {A : Abs} {σ : Mem} {F : Nat → Option Blk2} {L : List Ent} (H : Lies G A F σ L) : ∀ n, Lies G A F σ (PE (List.replicate n (.slice none 0 0)) (List.replicate n []) ++ L)
 | 0 => H
 | n + 1 => (Lies.nils H n).nilSl 50 1
theorem Lies.nilsP {G : Nat} {A : Abs} {σ : Mem} {F : Nat → Option Blk2} {L : List Ent} {X : Ent} (H : Lies G A F σ (X :: L)) (n : Nat) : Lies G A F σ (X :: (PE (List.replicate n (.slice none 0 0)) (List.replicate n []) ++ L)) := Lies.rot (B := PE (List.replicate n (.slice none 0 0)) (List.replicate n [])) (X := [X]) (Lies.nils H n)
theorem Lies.freezePE {G : Nat} {A : Abs} {σ : Mem} {L : List Ent} : ∀ {us : List Value} {xss : List (List Value)} {F : Nat → Option Blk2}, Lies G A F σ (PE us xss ++ L) → us.length = xss.length → ∃ F', Le F F' ∧ (∀ t, t < us.length → SlK F' 1 (us.getD t undef) (xss.getD t []).length (xss.getD t [])) ∧ Lies G A F' σ L
 | [], _, F, H, _ => ⟨F, fun _ _ h => h, fun _ h => absurd h (Nat.not_lt_zero _), H⟩
 | _ :: _, [], _, _, k => by cases k
 | u :: us, x :: xss, F, H, k => by
  obtain ⟨F1, l1, h1, H1⟩ := Lies.freezeK H 0 rfl
  obtain ⟨F2, l2, h2, H2⟩ := Lies.freezePE (us := us) (xss := xss) H1 (Nat.succ.inj k)
  refine ⟨F2, fun b y h => l2 b y (l1 b y h), fun t ht => ?_, H2⟩
  cases t with
  | zero => exact h1.le l2
  | succ t => exact h2 t (Nat.lt_of_succ_lt_succ ht)
theorem getD_rep {n t : Nat} : (List.replicate n ([] : List Value)).getD t [] = [] := by
 rw [List.getD_eq_getElem?_getD, List.getElem?_replicate]
 split <;> rfl
theorem us_at {us : List Value} {j : Nat} (h : j < us.length) : (us.drop j).take 1 = [us.getD j undef] := by
 rw [dropD (d := undef) h]
 rfl
theorem comT_len {fold : Bool} {rs : List (List Int)} {n : Nat} (h : ∀ z ∈ rs, z.length ≤ n) : (comC fold rs).length ≤ n := by
 cases rs with
 | nil => exact Nat.zero_le _
 | cons z rs =>
  have := h z (List.mem_cons_self ..)
  show (z.take _).length ≤ n
  rw [List.length_take]
  omega
theorem comT_sub {fold : Bool} {rs : List (List Int)} : ∀ c ∈ comC fold rs, ∃ z ∈ rs, c ∈ z := by
 cases rs with
 | nil => exact fun c h => absurd h (List.not_mem_nil)
 | cons z rs => exact fun c h => ⟨z, List.mem_cons_self .., List.mem_of_mem_take h⟩
theorem piece_len {fold : Bool} {c s : List Int} (h : (matchC fold c s).isSome = true) : ((matchC fold c s).getD []).length = (partsC s).1.length := by
 obtain ⟨r, hr⟩ := Option.isSome_iff_exists.1 h
 rw [hr]
 exact match_len (partsG_len s []) hr
theorem piece_sub {fold : Bool} {c s : List Int} (i : Nat) : (((matchC fold c s).getD []).getD i []).length ≤ c.length ∧ ∀ x ∈ ((matchC fold c s).getD []).getD i [], x ∈ c := by
 cases hm : matchC fold c s with
 | none => exact ⟨Nat.zero_le _, fun x h => absurd h (List.not_mem_nil)⟩
 | some r =>
  show (r.getD i []).length ≤ _ ∧ ∀ x ∈ r.getD i [], _
  by_cases hi : i < r.length
  ·exact match_sub hm _ (lst_mem hi)
  ·rw [List.getD_eq_getElem?_getD, List.getElem?_eq_none (by omega)]
   exact ⟨Nat.zero_le _, fun x h => absurd h (List.not_mem_nil)⟩
theorem piece_in {fold : Bool} {m : List (List UInt8)} {s : List UInt8} {i : Nat} (h : ∀ x ∈ m, x.length ≤ 60) : ∀ z ∈ pieceC fold m s i, z.length ≤ 60 ∧ ∀ c ∈ z, 0 ≤ c ∧ c ≤ 1114111 := fun z hz => by
 obtain ⟨x, hx, rfl⟩ := List.mem_map.1 hz
 have := piece_sub (fold := fold) (c := runes x) (s := runes s) i
 exact ⟨Nat.le_trans this.1 (Nat.le_trans (runes_le x) (h x hx)), fun c hc => runes_in x c (this.2 c hc)⟩
theorem piece_snoc {fold : Bool} {m : List (List UInt8)} {s : List UInt8} {i t : Nat} (h : i < m.length) : pieceC fold (m.take (i + 1)) s t = pieceC fold (m.take i) s t ++ [((matchC fold (runes (m.getD i [])) (runes s)).getD []).getD t []] := by
 unfold pieceC
 rw [List.take_add_one, List.getElem?_eq_getElem h, List.map_append, List.getD_eq_getElem?_getD (l := m), List.getElem?_eq_getElem h]
 rfl
theorem pa_step {F : Nat → Option Blk2} {fold : Bool} {m : List (List UInt8)} {s : List UInt8} {i j k : Nat} {xss : List (List Value)} {w : Value} {r : List (List Int)} (hA : ∀ t, t < k → AllZ F (xss.getD t []) (pieceC fold (m.take (if t < j then i + 1 else i)) s t)) (hj : j < k) (hx : xss.length = k) (hi : i < m.length) (hw : SlK F 1 w (r.getD j []).length ((r.getD j []).map runeV)) (hr : r = (matchC fold (runes (m.getD i [])) (runes s)).getD []) : ∀ t, t < k → AllZ F ((xss.set j (xss.getD j [] ++ [w])).getD t []) (pieceC fold (m.take (if t < j + 1 then i + 1 else i)) s t) := fun t ht => by
 by_cases e : t = j
 ·subst e
  have h1 := hA t ht
  rw [if_neg (Nat.lt_irrefl _)] at h1
  rw [if_pos (Nat.lt_succ_self _), piece_snoc hi, ← hr, List.getD_eq_getElem?_getD (l := xss.set t _), List.getElem?_set_self (by omega)]
  exact h1.snoc hw
 ·have h1 := hA t ht
  rw [List.getD_eq_getElem?_getD (l := xss.set j _), List.getElem?_set_ne (Ne.symm e), ← List.getD_eq_getElem?_getD]
  by_cases h2 : t < j
  ·rw [if_pos h2] at h1
   rw [if_pos (by omega)]
   exact h1
  ·rw [if_neg h2] at h1
   rw [if_neg (by omega)]
   exact h1
theorem join_step {fold : Bool} {m : List (List UInt8)} {s : List UInt8} {k i : Nat} (h : i < k) : joinC fold m s (k - i) i = comC fold (pieceC fold m s i) ++ (if i < (partsC (runes s)).2.length then [(partsC (runes s)).2.getD i 0] else []) ++ joinC fold m s (k - (i + 1)) (i + 1) := by
 rw [show k - i = (k - (i + 1)) + 1 by omega]
 rfl
theorem partsG_del : ∀ (s w : List Int), ∀ c ∈ (partsG w s).2, delC c = true
 | [], _ => fun c h => absurd h (List.not_mem_nil)
 | x :: s, w => by
  unfold partsG
  split
  ·next hx =>
   intro c hc
   rcases List.mem_cons.1 hc with rfl | hc
   ·exact hx
   ·exact partsG_del s [] c hc
  ·exact partsG_del s _
theorem del_ch {c : Int} (h : delC c = true) : chB c = true := by
 unfold delC at h
 rcases of_decide_eq_true h with rfl | rfl | rfl | rfl | rfl | rfl <;> rfl
theorem joinG_chars {fold : Bool} {l : List (List UInt8)} {s : List UInt8} : ∀ n i, ∀ c ∈ joinC fold (partC fold l s) s n i, chB c = true := by
 intro n
 induction n with
 | zero => exact fun i c h => absurd h (List.not_mem_nil)
 | succ n ih =>
  intro i c hc
  rcases List.mem_append.1 hc with hc | hc
  ·rcases List.mem_append.1 hc with hc | hc
   ·obtain ⟨z, hz, hcz⟩ := comT_sub c hc
    obtain ⟨x, hx, rfl⟩ := List.mem_map.1 hz
    exact runes_chars (partC_good.1 x hx).1.1 c ((piece_sub (fold := fold) (c := runes x) (s := runes s) i).2 c hcz)
   ·split at hc
    ·next hlt =>
     refine del_ch (partsG_del (runes s) [] c ?_)
     have e := List.mem_singleton.1 hc
     rw [e, List.getD_eq_getElem?_getD, List.getElem?_eq_getElem hlt]
     exact List.getElem_mem hlt
    ·exact absurd hc (List.not_mem_nil)
  ·exact ih _ c hc
theorem join_chars {fold : Bool} {l : List (List UInt8)} {s : List UInt8} : ∀ c ∈ joinC fold (partC fold l s) s (partsC (runes s)).1.length 0, chB c = true := joinG_chars _ _
section
variable {G : Nat} {A : Abs} {σ : Mem} {F : Nat → Option Blk2} {L : List Ent} {fold : Bool} {l : List (List UInt8)} {v1 : Value} {s : List UInt8}
set_option maxHeartbeats 16000000 in
theorem TryPartial_wc (hU : U8F F) (h16 : 16 ≤ G) (h1 : SlF F 1 v1 l.length (l.map strV)) (hl : l.length ≤ 1000000) (hsm : ∀ s ∈ l, s.length ≤ 60) (hs : s.length ≤ 16000) (H : Lies G A F σ L) : WC G Tryd.prog 13 #[v1, .string ⟨s.toArray⟩, .bool fold] σ fun v σ' => v = .tuple #[.string ⟨(tryP fold l s).toArray⟩, .int .i64 (statusC fold (partC fold l s) s)] ∧ Lies G A F σ' L := by
 cases fold with
 | true =>
  obtain ⟨F0, hF⟩ : ∃ F0, F0 = F := ⟨_, rfl⟩
  have le0 : Le F0 F := fun b y h => hF ▸ h
  rw [← hF] at h1 hU ⊢
  refine WC.enter (fn := Tryd.f13) Tryd.func13 rfl ?_
  refine W.rg [(0, v1), (1, .string ⟨s.toArray⟩), (2, .bool true)] fun TA => ?_
  refine W.seq (W.region ?_)
  iterate 2 refine RW.v ?_
  refine RW.nil ?_
  refine W.rg [(0, v1), (1, .string ⟨s.toArray⟩), (2, .bool true)] fun TA => ?_
  refine W.seq (W.region ?_)
  iterate 3 refine RW.v ?_
  refine RW.cl ?_
  refine ((Partial_wc (fold := true) (hU.le le0) h16 (h1.le le0) hl (fun x hx => Nat.le_trans (hsm x hx) (by decide)) hs H).mono ?_)
  clear H
  rintro mv _ ⟨F, le, hmv, H⟩
  replace le0 := fun b y h => le b y (le0 b y h)
  obtain ⟨m, hm⟩ : ∃ m, m = partC true l s := ⟨_, rfl⟩
  rw [← hm] at hmv ⊢
  have hml : m.length ≤ 1000000 := by rw [hm]; exact Nat.le_trans partC_len hl
  have hmm : ∀ x ∈ m, x.length ≤ 60 := fun x hx => by rw [hm] at hx; exact hsm x (partC_good.1 x hx).1.2
  refine RW.v ?_
  refine RW.nil ?_
  refine W.rg [(1, .string ⟨s.toArray⟩), (2, .bool true), (8, mv)] fun TA => ?_
  refine W.seq ?_
  refine W.seq (W.region ?_)
  refine RW.v ?_
  refine RW.len (by kernel_rfl) (by kernel_rfl) rfl rfl rfl rfl (hmv.len (e := 9) (by kernel_rfl)) (by kernel_rfl) ?_
  refine RW.v ?_
  refine RW.nil ?_
  refine W.rg [(1, .string ⟨s.toArray⟩), (2, .bool true), (8, mv), (28, .bool ((m.length : Int) == 0))] fun TA => ?_
  refine W.cond rfl (fun hc1 => ?_) (fun hc1 => ?_)
  ·have hc1b := hc1
   have hc1 := eq_of_beq hc1
   have hm0 : m = [] := List.eq_nil_of_length_eq_zero (by omega)
   refine W.seq (W.region ?_)
   iterate 2 refine RW.v ?_
   refine RW.nil ?_
   refine W.ret ?_
   refine seqQ_ret ?_
   refine endG (by rfl) (by exact resL_tmp (by exact resL_tmp rfl)) ?_
   rw [show tryP true l s = [] by unfold tryP; rw [← hm, if_pos hm0], show statusC true m s = 0 by rw [hm0]; rfl]
   exact ⟨rfl, (H).back le0⟩
  ·have hc1b := hc1
   have hc1 := ne_of_beq_false hc1
   have hmpos : 0 < m.length := by omega
   refine W.skip ?_
   refine W.seq (W.region ?_)
   refine RW.v ?_
   refine RW.cl ?_
   refine ((by_wc (fold := true) H).mono ?_)
   clear H
   rintro _ _ ⟨rfl, H⟩
   refine RW.mk H (.row ⟨[.nilFunc], 47, false⟩) ?_
   clear H; intro _ b2 _ H
   refine RW.st H 0 [.func (.func 84) #[] #[]] [.func (.func 84) #[] #[]] ?_
   clear H; intro _ _ H; dsimp only [setL, delL] at H
   refine RW.nil ?_
   refine W.rg [(1, .string ⟨s.toArray⟩), (2, .bool true), (8, mv), (9, .pointer (some ⟨b2, 0, none⟩))] fun TA => ?_
   refine W.seq (W.region ?_)
   refine RW.v ?_
   refine RW.convR H (Nat.le_trans hs (by decide)) (by kernel_rfl) (by kernel_rfl) rfl rfl rfl rfl rfl (by kernel_rfl) ?_
   clear H; intro _ cv3 H
   obtain ⟨F, le, hk4, H⟩ := H.freezeK 0 rfl
   dsimp only [setL, delL] at H
   replace le0 := fun b y h => le b y (le0 b y h)
   replace hmv := hmv.le le
   refine RW.cl ?_
   refine ((parts_wc hk4 (Nat.le_trans (runes_le s) (Nat.le_trans hs (by decide))) H).mono ?_)
   clear H
   rintro _ _ ⟨F, u, um, wsl, le, rfl, hu, al, hum, H⟩
   replace le0 := fun b y h => le b y (le0 b y h)
   replace hmv := hmv.le le
   replace hk4 := hk4.le le
   obtain ⟨ws, hws⟩ : ∃ ws, ws = (partsC (runes s)).1 := ⟨_, rfl⟩
   obtain ⟨ms, hms⟩ : ∃ ms, ms = (partsC (runes s)).2 := ⟨_, rfl⟩
   rw [← hws] at hu al
   rw [← hms] at hum
   have hwm : ws.length = ms.length + 1 := by rw [hws, hms]; exact partsG_len _ _
   have hmr : ms.length ≤ (runes s).length := by rw [hms]; exact partsG_small _ _
   have hwb : ∀ w ∈ ws, ∀ x ∈ w, 0 ≤ x ∧ x ≤ 1114111 := fun w hw x hx => by rw [hws] at hw; exact ((partsG_mem (runes s) []).1 w hw x hx).elim (fun h => absurd h (List.not_mem_nil)) (runes_in s x)
   have hmb : ∀ x ∈ ms, 0 ≤ x ∧ x ≤ 1114111 := fun x hx => by rw [hms] at hx; exact runes_in s x ((partsG_mem (runes s) []).2 x hx)
   have hrs : (runes s).length ≤ 16000 := Nat.le_trans (runes_le s) hs
   iterate 5 refine RW.v ?_
   refine RW.nil ?_
   refine W.rg [(1, .string ⟨s.toArray⟩), (2, .bool true), (8, mv), (9, .pointer (some ⟨b2, 0, none⟩)), (10, u), (11, um)] fun TA => ?_
   refine W.seq (W.region ?_)
   refine RW.v ?_
   refine RW.len (by kernel_rfl) (by kernel_rfl) rfl rfl rfl rfl (hu.slf.len (e := 50) (by kernel_rfl)) (by kernel_rfl) ?_
   obtain ⟨F, le, hb7, H⟩ := H.freeze 0 rfl
   dsimp only [setL, delL] at H
   replace le0 := fun b y h => le b y (le0 b y h)
   replace hmv := hmv.le le
   replace hk4 := hk4.le le
   replace hu := hu.le le
   replace al := al.le le
   replace hum := hum.le le
   refine RW.mkS H (e := 49) (n := ws.length) (z := .slice none 0 0) (by kernel_rfl) (by kernel_rfl) rfl rfl rfl (by kernel_rfl) (by kernel_rfl) (by kernel_rfl) (by kernel_rfl) rfl rfl (by omega) (by kernel_rfl) rfl ?_
   clear H; intro _ bp H
   replace H := H.nilsP ws.length
   obtain ⟨F1, hF1⟩ : ∃ F1, F1 = F := ⟨_, rfl⟩
   have le1 : Le F1 F := fun b y h => hF1 ▸ h
   have le01 : Le F0 F1 := by rw [hF1]; exact le0
   rw [← hF1] at hb7 hu al hum hmv
   clear hF1 le0
   refine RW.v ?_
   refine RW.nil ?_
   refine W.rg [(1, .string ⟨s.toArray⟩), (2, .bool true), (8, mv), (9, .pointer (some ⟨b2, 0, none⟩)), (10, u), (11, um), (12, .slice (some ⟨bp, 0, none⟩) ws.length ws.length)] fun TA => ?_
   refine W.seq ?_
   refine W.seq (W.region ?_)
   refine RW.v ?_
   refine RW.len (by kernel_rfl) (by kernel_rfl) rfl rfl rfl rfl ((hmv.le le1).len (e := 9) (by kernel_rfl)) (by kernel_rfl) ?_
   refine RW.v ?_
   refine RW.nil ?_
   refine W.rg [(1, .string ⟨s.toArray⟩), (2, .bool true), (8, mv), (9, .pointer (some ⟨b2, 0, none⟩)), (10, u), (11, um), (12, .slice (some ⟨bp, 0, none⟩) ws.length ws.length), (40, mv), (41, .int .i64 (m.length : Int)), (42, .int .i64 0)] fun TA => ?_
   refine W.block ?_
   refine W.loop (fun mm ta σ => ∃ (i : Nat) (F : Nat → Option Blk2) (us : List Value) (xss : List (List Value)), (mm + i = m.length) ∧ (Le F1 F) ∧ (∀ t, t < ws.length → AllZ F (xss.getD t []) (pieceC true (m.take i) s t)) ∧ (us.length = ws.length) ∧ (xss.length = ws.length) ∧ Lies G A F σ (.at_ bp (.row ⟨us, 49, false⟩) :: ((PE us xss ++ L))) ∧ ta 1 = .string ⟨s.toArray⟩ ∧ ta 2 = .bool true ∧ ta 8 = mv ∧ ta 9 = .pointer (some ⟨b2, 0, none⟩) ∧ ta 10 = u ∧ ta 11 = um ∧ ta 12 = .slice (some ⟨bp, 0, none⟩) ws.length ws.length ∧ ta 40 = mv ∧ ta 41 = .int .i64 (m.length : Int) ∧ ta 42 = .int .i64 ((i : Nat) : Int)) m.length ?_ ?_
   ·exact ⟨0, F, (List.replicate ws.length (.slice none 0 0)), (List.replicate ws.length []), (by omega), le1, (fun t ht => by rw [getD_rep]; exact AllZ.nil), (List.length_replicate ..), (List.length_replicate ..), H, rfl, rfl, rfl, rfl, rfl, rfl, rfl, rfl, rfl, rfl⟩
   clear H
   rintro mm ta _ ⟨i, F, us, xss, hmi, le1, hA, hu1, hx1, H, e1, e2, e8, e9, e10, e11, e12, e40, e41, e42⟩
   refine W.rst [(1, .string ⟨s.toArray⟩), (2, .bool true), (8, mv), (9, .pointer (some ⟨b2, 0, none⟩)), (10, u), (11, um), (12, .slice (some ⟨bp, 0, none⟩) ws.length ws.length), (40, mv), (41, .int .i64 (m.length : Int)), (42, .int .i64 ((i : Nat) : Int))] ⟨e1, e2, e8, e9, e10, e11, e12, e40, e41, e42, trivial⟩ fun TA => ?_
   clear e1 e2 e8 e9 e10 e11 e12 e40 e41 e42
   refine W.seq (W.region ?_)
   refine RW.v ?_
   refine RW.nil ?_
   refine W.rg [(1, .string ⟨s.toArray⟩), (2, .bool true), (8, mv), (9, .pointer (some ⟨b2, 0, none⟩)), (10, u), (11, um), (12, .slice (some ⟨bp, 0, none⟩) ws.length ws.length), (40, mv), (41, .int .i64 (m.length : Int)), (42, .int .i64 ((i : Nat) : Int)), (43, .bool (decide (((i : Nat) : Int) < (m.length : Int))))] fun TA => ?_
   refine W.seq ?_
   refine W.cond rfl (fun hc5 => ?_) (fun hc5 => ?_)
   ·have hc5b := hc5
    have hc5 := of_decide_eq_true hc5
    have him : i < m.length := by omega
    refine W.skip ?_
    refine W.seq ?_
    refine W.block ?_
    refine W.seq (W.region ?_)
    refine RW.idxF (hmv.le le1) (by kernel_rfl) (by kernel_rfl) rfl Tryd.underlying22 (by kernel_rfl) rfl rfl ⟨by omega, by omega⟩ (by kernel_rfl) ?_
    intro b6 q7 r8 hF9 hE10
    rw [strs_at (l := m) (j := i) (i := ((i : Nat) : Int)) (by omega) (by omega)] at hE10
    refine RW.loads 1 (by kernel_rfl) (by kernel_rfl) rfl rfl (H.old _ _ hF9) hE10 rfl (by kernel_rfl) ?_
    refine RW.v ?_
    refine RW.nil ?_
    refine W.rg [(1, .string ⟨s.toArray⟩), (2, .bool true), (8, mv), (9, .pointer (some ⟨b2, 0, none⟩)), (10, u), (11, um), (12, .slice (some ⟨bp, 0, none⟩) ws.length ws.length), (14, .string ⟨(m.getD i []).toArray⟩), (40, mv), (41, .int .i64 (m.length : Int)), (42, .int .i64 ((i : Nat) : Int))] fun TA => ?_
    refine W.seq (W.region ?_)
    refine RW.loads 1 (by kernel_rfl) (by kernel_rfl) rfl rfl (H.old _ _ (le1 _ _ hb7)) rfl rfl (by kernel_rfl) ?_
    refine RW.v ?_
    refine RW.convR H (Nat.le_trans (hmm _ (mem_of him)) (by decide)) (by kernel_rfl) (by kernel_rfl) rfl rfl rfl rfl rfl (by kernel_rfl) ?_
    clear H; intro _ cw11 H
    obtain ⟨F, le, hk12, H⟩ := H.freezeK 0 rfl
    dsimp only [setL, delL] at H
    replace le1 := fun b y h => le b y (le1 b y h)
    replace hA := fun t ht => (hA t ht).le le
    iterate 2 refine RW.v ?_
    refine RW.cl ?_
    refine ((match_wc (fold := true) hk12 (hu.le le1) (al.le le1) (hum.le le1).slf (Nat.le_trans (runes_le _) (Nat.le_trans (hmm _ (mem_of him)) (by decide))) (by omega) hwm (runes_in _) hwb H).mono ?_)
    clear H
    rintro _ _ ⟨F, cv, cs, le, rfl, hcv, alr, H⟩
    replace le1 := fun b y h => le b y (le1 b y h)
    replace hA := fun t ht => (hA t ht).le le
    replace hk12 := hk12.le le
    obtain ⟨r, hr⟩ : ∃ r, r = (matchC true (runes (m.getD i [])) (runes s)).getD [] := ⟨_, rfl⟩
    have hme : matchG true (runes (m.getD i [])) ws ms = matchC true (runes (m.getD i [])) (runes s) := by rw [hws, hms]; rfl
    rw [hme, ← hr] at hcv alr
    have hrw : r.length = ws.length := by rw [hr, hws]; exact piece_len (by rw [hm] at him ⊢; exact (partC_good.1 _ (mem_of him)).2)
    iterate 5 refine RW.v ?_
    refine RW.nil ?_
    refine W.rg [(1, .string ⟨s.toArray⟩), (2, .bool true), (8, mv), (9, .pointer (some ⟨b2, 0, none⟩)), (10, u), (11, um), (12, .slice (some ⟨bp, 0, none⟩) ws.length ws.length), (15, cv), (40, mv), (41, .int .i64 (m.length : Int)), (42, .int .i64 ((i : Nat) : Int))] fun TA => ?_
    refine W.seq (W.region ?_)
    refine RW.v ?_
    refine RW.len (by kernel_rfl) (by kernel_rfl) rfl rfl rfl rfl (hcv.slf.len (e := 50) (by kernel_rfl)) (by kernel_rfl) ?_
    refine RW.v ?_
    refine RW.nil ?_
    refine W.rg [(1, .string ⟨s.toArray⟩), (2, .bool true), (8, mv), (9, .pointer (some ⟨b2, 0, none⟩)), (10, u), (11, um), (12, .slice (some ⟨bp, 0, none⟩) ws.length ws.length), (40, mv), (41, .int .i64 (m.length : Int)), (42, .int .i64 ((i : Nat) : Int)), (55, cv), (56, .int .i64 (r.length : Int)), (57, .int .i64 0)] fun TA => ?_
    refine W.block ?_
    refine W.loop (fun mm2 ta σ => ∃ (j : Nat) (us : List Value) (xss : List (List Value)), (mm2 + j = r.length) ∧ (∀ t, t < ws.length → AllZ F (xss.getD t []) (pieceC true (m.take (if t < j then i + 1 else i)) s t)) ∧ (us.length = ws.length) ∧ (xss.length = ws.length) ∧ Lies G A F σ (.at_ bp (.row ⟨us, 49, false⟩) :: ((PE us xss ++ L))) ∧ ta 1 = .string ⟨s.toArray⟩ ∧ ta 2 = .bool true ∧ ta 8 = mv ∧ ta 9 = .pointer (some ⟨b2, 0, none⟩) ∧ ta 10 = u ∧ ta 11 = um ∧ ta 12 = .slice (some ⟨bp, 0, none⟩) ws.length ws.length ∧ ta 40 = mv ∧ ta 41 = .int .i64 (m.length : Int) ∧ ta 42 = .int .i64 ((i : Nat) : Int) ∧ ta 55 = cv ∧ ta 56 = .int .i64 (r.length : Int) ∧ ta 57 = .int .i64 ((j : Nat) : Int)) r.length ?_ ?_
    ·exact ⟨0, us, xss, (by omega), (fun t ht => by rw [if_neg (by omega)]; exact hA t ht), hu1, hx1, H, rfl, rfl, rfl, rfl, rfl, rfl, rfl, rfl, rfl, rfl, rfl, rfl, rfl⟩
    clear H
    rintro mm2 ta _ ⟨j, us, xss, hm2, hA, hu1, hx1, H, e1, e2, e8, e9, e10, e11, e12, e40, e41, e42, e55, e56, e57⟩
    refine W.rst [(1, .string ⟨s.toArray⟩), (2, .bool true), (8, mv), (9, .pointer (some ⟨b2, 0, none⟩)), (10, u), (11, um), (12, .slice (some ⟨bp, 0, none⟩) ws.length ws.length), (40, mv), (41, .int .i64 (m.length : Int)), (42, .int .i64 ((i : Nat) : Int)), (55, cv), (56, .int .i64 (r.length : Int)), (57, .int .i64 ((j : Nat) : Int))] ⟨e1, e2, e8, e9, e10, e11, e12, e40, e41, e42, e55, e56, e57, trivial⟩ fun TA => ?_
    clear e1 e2 e8 e9 e10 e11 e12 e40 e41 e42 e55 e56 e57
    refine W.seq (W.region ?_)
    refine RW.v ?_
    refine RW.nil ?_
    refine W.rg [(1, .string ⟨s.toArray⟩), (2, .bool true), (8, mv), (9, .pointer (some ⟨b2, 0, none⟩)), (10, u), (11, um), (12, .slice (some ⟨bp, 0, none⟩) ws.length ws.length), (40, mv), (41, .int .i64 (m.length : Int)), (42, .int .i64 ((i : Nat) : Int)), (55, cv), (56, .int .i64 (r.length : Int)), (57, .int .i64 ((j : Nat) : Int)), (58, .bool (decide (((j : Nat) : Int) < (r.length : Int))))] fun TA => ?_
    refine W.seq ?_
    refine W.cond rfl (fun hc13 => ?_) (fun hc13 => ?_)
    ·have hc13b := hc13
     have hc13 := of_decide_eq_true hc13
     have hjr : j < r.length := by omega
     refine W.skip ?_
     refine W.seq ?_
     refine W.block ?_
     refine W.seq (W.region ?_)
     refine RW.v ?_
     refine RW.idxF hcv.slf (by kernel_rfl) (by kernel_rfl) rfl Tryd.underlying49 (by kernel_rfl) rfl rfl ⟨by omega, by omega⟩ (by kernel_rfl) ?_
     intro b14 q15 r16 hF17 hE18
     rw [vals_at (l := cs) (j := j) (i := ((j : Nat) : Int)) (by omega) (by have := alr.1; omega)] at hE18
     refine RW.loads 1 (by kernel_rfl) (by kernel_rfl) rfl rfl (H.old _ _ hF17) hE18 rfl (by kernel_rfl) ?_
     iterate 2 refine RW.v ?_
     refine RW.nil ?_
     refine W.rg [(1, .string ⟨s.toArray⟩), (2, .bool true), (8, mv), (9, .pointer (some ⟨b2, 0, none⟩)), (10, u), (11, um), (12, .slice (some ⟨bp, 0, none⟩) ws.length ws.length), (17, .int .i64 ((j : Nat) : Int)), (18, (cs.getD j undef)), (40, mv), (41, .int .i64 (m.length : Int)), (42, .int .i64 ((i : Nat) : Int)), (55, cv), (56, .int .i64 (r.length : Int)), (57, .int .i64 ((j : Nat) : Int))] fun TA => ?_
     refine W.region ?_
     iterate 4 refine RW.v ?_
     have hxj : (xss.getD j []).length = i := by rw [(hA j (by omega)).1, pieceC, List.length_map, if_neg (Nat.lt_irrefl _), List.length_take]; omega
     replace H := H.perm (pe_pick (j := j) (by omega) (hu1.trans hx1.symm))
     refine RW.idxE (s := 1) (by kernel_rfl) (by kernel_rfl) rfl Tryd.underlying53 (by kernel_rfl) rfl rfl ⟨by omega, by omega⟩ (by kernel_rfl) ?_
     intro q19 q19e
     have q19j : q19 = j := by rw [q19e]; omega
     rw [q19j]
     clear q19e q19j
     have hgf := gr_forms (H.sl 1 rfl)
     refine RW.ldL H 0 1 (cs := [(us.getD j undef)]) (v := (us.getD j undef)) (by kernel_rfl) (by kernel_rfl) rfl rfl rfl (us_at (show j < us.length by omega)) (by rcases hgf with h | ⟨_, _, _, h⟩ <;> rw [h] <;> kernel_rfl) (by kernel_rfl) ?_
     refine RW.v ?_
     refine RW.mkL H (x := .row ⟨[(cs.getD j undef)], 50, false⟩) (fm := fun b => .slice (some ⟨b, 0, none⟩) 1 1) (by kernel_rfl) (by kernel_rfl) (by rcases slf_forms (alr.2 j (by omega)).slf with e0 | ⟨_, e0⟩ | ⟨_, _, _, _, _, e0⟩ <;> rw [e0] <;> kernel_rfl) (by kernel_rfl) ?_
     clear H; intro _ b20 _ H
     refine RW.appL H 2 0 (n := 1) (e2 := 50) (by kernel_rfl) (by kernel_rfl) rfl rfl rfl rfl rfl rfl rfl rfl (by kernel_rfl) (by kernel_rfl) (by kernel_rfl) (by decide) (by decide) rfl (slf_all (alr.2 j (by omega)).slf) (by omega) (by kernel_rfl) ?_
     clear H; intro _ v21 _ H
     dsimp only [setL, delL] at H
     refine RW.idxE (s := 1) (by kernel_rfl) (by kernel_rfl) rfl Tryd.underlying53 (by kernel_rfl) rfl rfl ⟨by omega, by omega⟩ (by kernel_rfl) ?_
     intro q22 q22e
     have q22j : q22 = j := by rw [q22e]; omega
     rw [q22j]
     clear q22e q22j
     have hgf2 := gr_forms (H.sl 1 rfl)
     refine RW.stE H 0 rfl (vs := [v21]) (by show j + 1 ≤ us.length; omega) (by kernel_rfl) (by kernel_rfl) rfl rfl ((H.sl 1 rfl).one) (by rcases hgf2 with h | ⟨_, _, _, h⟩ <;> rw [h] <;> rfl) (by kernel_rfl) (by kernel_rfl) ?_
     clear H; intro _ H
     dsimp only [setL] at H
     rw [overL_one (show j < us.length by omega), show (xss.getD j []).length + 1 = ((xss.getD j []) ++ [(cs.getD j undef)]).length by rw [List.length_append]; rfl] at H
     replace H := H.perm (pe_put (us := us) (xss := xss) (j := j) (by omega) (hu1.trans hx1.symm))
     refine RW.nil ?_
     refine blkQ_normal ?_
     refine W.rg [(1, .string ⟨s.toArray⟩), (2, .bool true), (8, mv), (9, .pointer (some ⟨b2, 0, none⟩)), (10, u), (11, um), (12, .slice (some ⟨bp, 0, none⟩) ws.length ws.length), (40, mv), (41, .int .i64 (m.length : Int)), (42, .int .i64 ((i : Nat) : Int)), (55, cv), (56, .int .i64 (r.length : Int)), (57, .int .i64 ((j : Nat) : Int))] fun TA => ?_
     refine W.region ?_
     refine RW.valE (v' := .int .i64 (((j : Nat) : Int) + 1)) (by kernel_rfl) (by kernel_rfl) rfl (congrArg (Value.int .i64) (wrap_in (by omega) (by omega))) (by kernel_rfl) ?_
     refine RW.v ?_
     refine RW.nil ?_
     exact ⟨rfl, mm2 - 1, by omega, j + 1, (us.set j v21), (xss.set j ((xss.getD j []) ++ [(cs.getD j undef)])), (by omega), (pa_step hA (by omega) hx1 him (alr.2 j (by omega)) hr), (by rw [List.length_set]; exact hu1), (by rw [List.length_set]; exact hx1), H, rfl, rfl, rfl, rfl, rfl, rfl, rfl, rfl, rfl, rfl, rfl, rfl, rfl⟩
    ·have hc13b := hc13
     have hc13 := of_decide_eq_false hc13
     refine W.exit _ ?_
     refine seqQ_exit ?_
     refine rndQ_exit ?_
     replace hA : ∀ t, t < ws.length → AllZ F (xss.getD t []) (pieceC true (m.take (i + 1)) s t) := fun t ht => by have := hA t ht; rwa [if_pos (by omega)] at this
     refine blkQ_here ?_
     refine blkQ_normal ?_
     refine W.region ?_
     refine RW.valE (v' := .int .i64 (((i : Nat) : Int) + 1)) (by kernel_rfl) (by kernel_rfl) rfl (congrArg (Value.int .i64) (wrap_in (by omega) (by omega))) (by kernel_rfl) ?_
     refine RW.v ?_
     refine RW.nil ?_
     exact ⟨rfl, mm - 1, by omega, i + 1, F, us, xss, (by omega), le1, hA, hu1, hx1, H, rfl, rfl, rfl, rfl, rfl, rfl, rfl, rfl, rfl, rfl⟩
   ·have hc5b := hc5
    have hc5 := of_decide_eq_false hc5
    refine W.exit _ ?_
    refine seqQ_exit ?_
    refine rndQ_exit ?_
    rw [List.take_of_length_le (show m.length ≤ i by omega)] at hA
    obtain ⟨F, le, hrow, H⟩ := H.freezeR 0 rfl (n := ws.length) (s := 1) (by rw [hu1]; omega)
    dsimp only [setL, delL] at H
    replace le1 := fun b y h => le b y (le1 b y h)
    replace hA := fun t ht => (hA t ht).le le
    obtain ⟨F, le, hP, H⟩ := H.freezePE (hu1.trans hx1.symm)
    replace le1 := fun b y h => le b y (le1 b y h)
    replace hA := fun t ht => (hA t ht).le le
    replace hrow := hrow.le le
    rw [hu1] at hP
    obtain ⟨F2, hF2⟩ : ∃ F2, F2 = F := ⟨_, rfl⟩
    have le2 : Le F2 F := fun b y h => hF2 ▸ h
    rw [← hF2] at hA hrow hP
    clear hF2
    refine blkQ_here ?_
    refine W.seq (W.region ?_)
    refine RW.v ?_
    refine RW.nil ?_
    refine W.rg [(1, .string ⟨s.toArray⟩), (2, .bool true), (8, mv), (9, .pointer (some ⟨b2, 0, none⟩)), (11, um), (12, (.slice (some ⟨bp, 0, none⟩) ws.length ws.length)), (19, .slice none 0 0)] fun TA => ?_
    refine W.seq ?_
    refine W.seq (W.region ?_)
    refine RW.v ?_
    refine RW.len (by kernel_rfl) (by kernel_rfl) rfl rfl rfl rfl ((hrow.le le2).slf.len (e := 49) (by kernel_rfl)) (by kernel_rfl) ?_
    refine RW.v ?_
    refine RW.nil ?_
    refine W.rg [(1, .string ⟨s.toArray⟩), (2, .bool true), (8, mv), (9, .pointer (some ⟨b2, 0, none⟩)), (11, um), (19, .slice none 0 0), (74, (.slice (some ⟨bp, 0, none⟩) ws.length ws.length)), (75, .int .i64 (ws.length : Int)), (76, .int .i64 0)] fun TA => ?_
    refine W.block ?_
    replace H := H.nilSl 21 1
    refine W.loop (fun mm ta σ => ∃ (i : Nat) (F : Nat → Option Blk2) (v : Value) (out : List Int), (mm + i = ws.length) ∧ (Le F1 F) ∧ (Le F2 F) ∧ (out.length ≤ i * 61) ∧ (joinC true m s ws.length 0 = out ++ joinC true m s (ws.length - i) i) ∧ Lies G A F σ (.sl 21 1 v out.length (out.map runeV) :: (L)) ∧ ta 1 = .string ⟨s.toArray⟩ ∧ ta 2 = .bool true ∧ ta 8 = mv ∧ ta 9 = .pointer (some ⟨b2, 0, none⟩) ∧ ta 11 = um ∧ ta 19 = v ∧ ta 74 = (.slice (some ⟨bp, 0, none⟩) ws.length ws.length) ∧ ta 75 = .int .i64 (ws.length : Int) ∧ ta 76 = .int .i64 ((i : Nat) : Int)) ws.length ?_ ?_
    ·exact ⟨0, F, .slice none 0 0, [], (by omega), le1, le2, (Nat.zero_le _), rfl, H, rfl, rfl, rfl, rfl, rfl, rfl, rfl, rfl, rfl⟩
    clear H
    rintro mm ta _ ⟨i, F, v, out, hmi, le1, le2, hol, hT, H, e1, e2, e8, e9, e11, e19, e74, e75, e76⟩
    refine W.rst [(1, .string ⟨s.toArray⟩), (2, .bool true), (8, mv), (9, .pointer (some ⟨b2, 0, none⟩)), (11, um), (19, v), (74, (.slice (some ⟨bp, 0, none⟩) ws.length ws.length)), (75, .int .i64 (ws.length : Int)), (76, .int .i64 ((i : Nat) : Int))] ⟨e1, e2, e8, e9, e11, e19, e74, e75, e76, trivial⟩ fun TA => ?_
    clear e1 e2 e8 e9 e11 e19 e74 e75 e76
    refine W.seq (W.region ?_)
    refine RW.v ?_
    refine RW.nil ?_
    refine W.rg [(1, .string ⟨s.toArray⟩), (2, .bool true), (8, mv), (9, .pointer (some ⟨b2, 0, none⟩)), (11, um), (19, v), (74, (.slice (some ⟨bp, 0, none⟩) ws.length ws.length)), (75, .int .i64 (ws.length : Int)), (76, .int .i64 ((i : Nat) : Int)), (77, .bool (decide (((i : Nat) : Int) < (ws.length : Int))))] fun TA => ?_
    refine W.seq ?_
    refine W.cond rfl (fun hc23 => ?_) (fun hc23 => ?_)
    ·have hc23b := hc23
     have hc23 := of_decide_eq_true hc23
     have hiw : i < ws.length := by omega
     have hpl : (pieceC true m s i).length = m.length := List.length_map _
     have hxl : (xss.getD i []).length = (pieceC true m s i).length := (hA i (by omega)).1
     refine W.skip ?_
     refine W.seq ?_
     refine W.block ?_
     refine W.seq (W.region ?_)
     refine RW.v ?_
     refine RW.idxF (hrow.le le2).slf (by kernel_rfl) (by kernel_rfl) rfl Tryd.underlying53 (by kernel_rfl) rfl rfl ⟨by omega, by omega⟩ (by kernel_rfl) ?_
     intro b24 q25 r26 hF27 hE28
     rw [vals_at (l := us) (j := i) (i := ((i : Nat) : Int)) (by omega) (by omega)] at hE28
     refine RW.loads 1 (by kernel_rfl) (by kernel_rfl) rfl rfl (H.old _ _ hF27) hE28 rfl (by kernel_rfl) ?_
     iterate 2 refine RW.v ?_
     refine RW.nil ?_
     refine W.rg [(1, .string ⟨s.toArray⟩), (2, .bool true), (8, mv), (9, .pointer (some ⟨b2, 0, none⟩)), (11, um), (19, v), (20, .int .i64 ((i : Nat) : Int)), (21, (us.getD i undef)), (74, (.slice (some ⟨bp, 0, none⟩) ws.length ws.length)), (75, .int .i64 (ws.length : Int)), (76, .int .i64 ((i : Nat) : Int))] fun TA => ?_
     refine W.seq ?_
     refine W.drawn (by kernel_rfl) (by kernel_rfl) H.gn ?_
     have H29 := H
     refine RW.v ?_
     refine RW.loads 1 (by kernel_rfl) (by kernel_rfl) rfl rfl (H29.old _ _ (le1 _ _ hb7)) rfl rfl (by kernel_rfl) ?_
     refine RW.v ?_
     refine RW.idxF ((hP i (by omega)).le le2).slf (by kernel_rfl) (by kernel_rfl) rfl Tryd.underlying49 (by kernel_rfl) rfl rfl ⟨by omega, by omega⟩ (by kernel_rfl) ?_
     intro b30 q31 r32 hF33 hE34
     rw [vals_at (l := (xss.getD i [])) (j := 0) (i := 0) (by omega) (by have := ((hA i (by omega)).le le2).1; omega)] at hE34
     refine RW.loads 1 (by kernel_rfl) (by kernel_rfl) rfl rfl (H29.old _ _ hF33) hE34 rfl (by kernel_rfl) ?_
     refine RW.v ?_
     obtain ⟨sv35, hv36, hk37⟩ := slk_rest (P := Tryd.prog) (t := 49) (e := 50) (i := 1) ((hP i (by omega)).le le2) (by kernel_rfl) (by kernel_rfl) (by omega)
     rw [show ((1 : Nat) : Int) = 1 from by omega] at hv36
     rw [Nat.mul_one] at hk37
     refine RW.vop (v := sv35) (by kernel_rfl) (by kernel_rfl) (vop_slice rfl hv36) (by kernel_rfl) ?_
     have hrest : SlK F 1 sv35 ((pieceC true m s i).drop 1).length ((xss.getD i []).drop 1) := by rw [List.length_drop, ← hxl]; exact hk37
     have al1 := ((hA i (by omega)).le le2).drop 1
     have hpc : ∀ z ∈ (pieceC true m s i), z.length ≤ 60 ∧ ∀ c ∈ z, 0 ≤ c ∧ c ≤ 1114111 := piece_in hmm
     refine RW.cl ?_
     refine ((common_wc (fold := true) (xs := (pieceC true m s i).getD 0 []) (ls := (pieceC true m s i).drop 1) (((hA i (by omega)).le le2).2 0 (by omega)) hrest al1 (by have := (hpc _ (lst_mem (l := (pieceC true m s i)) (j := 0) (by omega))).1; omega) (by rw [List.length_drop]; omega) (hpc _ (lst_mem (by omega))).2 (fun y h => (hpc y (List.mem_of_mem_drop h)).2) H29).mono ?_)
     rintro cw _ ⟨hcw, H38⟩
     rw [← comC_ne (by omega)] at hcw
     have hcl : (comC true (pieceC true m s i)).length ≤ 60 := comT_len fun z hz => (hpc z hz).1
     refine RW.appFD H38 0 (e2 := 21) hcw.slf (by kernel_rfl) (by kernel_rfl) rfl rfl rfl rfl rfl rfl rfl (.inl rfl) (by kernel_rfl) (by kernel_rfl) (by kernel_rfl) (by decide) (runs_ones _) (by omega) (by kernel_rfl) ?_
     intro _ v39 H40
     dsimp only [setL] at H40
     refine RW.v ?_
     refine RW.nil ?_
     refine ⟨⟨by kernel_rfl, ⟨trivial, dyn_row (H29.old _ _ (le1 _ _ hb7)) (H40.old _ _ (le1 _ _ hb7)) ⟨fun h => Bool.noConfusion h, fun h => Bool.noConfusion h, fun h => Bool.noConfusion h, fun h => Bool.noConfusion h, fun h => Bool.noConfusion h, fun h => Bool.noConfusion h, fun h => Bool.noConfusion h, fun _ => H29.old _ _ (le1 _ _ hb7), fun _ => H38.old _ _ (le1 _ _ hb7), fun h => Bool.noConfusion h, trivial⟩, trivial, trivial, dyn_row (H29.old _ _ hF33) (H40.old _ _ hF33) ⟨fun h => Bool.noConfusion h, fun h => Bool.noConfusion h, fun h => Bool.noConfusion h, fun h => Bool.noConfusion h, fun h => Bool.noConfusion h, fun h => Bool.noConfusion h, fun h => Bool.noConfusion h, fun _ => H29.old _ _ hF33, fun _ => H38.old _ _ hF33, fun h => Bool.noConfusion h, trivial⟩, trivial, trivial, trivial, trivial, trivial, trivial⟩⟩, ?_⟩
     replace H := H40
     clear H29 H38 H40
     refine W.rg [(1, .string ⟨s.toArray⟩), (2, .bool true), (8, mv), (9, .pointer (some ⟨b2, 0, none⟩)), (11, um), (19, v39), (20, .int .i64 ((i : Nat) : Int)), (74, (.slice (some ⟨bp, 0, none⟩) ws.length ws.length)), (75, .int .i64 (ws.length : Int)), (76, .int .i64 ((i : Nat) : Int))] fun TA => ?_
     refine W.seq (W.region ?_)
     iterate 2 refine RW.v ?_
     refine RW.len (by kernel_rfl) (by kernel_rfl) rfl rfl rfl rfl ((hum.le le1).slf.len (e := 21) (by kernel_rfl)) (by kernel_rfl) ?_
     refine RW.v ?_
     refine RW.nil ?_
     refine W.rg [(1, .string ⟨s.toArray⟩), (2, .bool true), (8, mv), (9, .pointer (some ⟨b2, 0, none⟩)), (11, um), (19, v39), (20, .int .i64 ((i : Nat) : Int)), (74, (.slice (some ⟨bp, 0, none⟩) ws.length ws.length)), (75, .int .i64 (ws.length : Int)), (76, .int .i64 ((i : Nat) : Int)), (93, .bool (decide (((i : Nat) : Int) < (ms.length : Int))))] fun TA => ?_
     refine W.cond rfl (fun hc41 => ?_) (fun hc41 => ?_)
     ·have hc41b := hc41
      have hc41 := of_decide_eq_true hc41
      refine W.region ?_
      iterate 3 refine RW.v ?_
      refine RW.idxF (hum.le le1).slf (by kernel_rfl) (by kernel_rfl) rfl Tryd.underlying50 (by kernel_rfl) rfl rfl ⟨by omega, by omega⟩ (by kernel_rfl) ?_
      intro b42 q43 r44 hF45 hE46
      rw [runs_at (l := ms) (j := i) (i := ((i : Nat) : Int)) (by omega) (by omega)] at hE46
      refine RW.loads 1 (by kernel_rfl) (by kernel_rfl) rfl rfl (H.old _ _ hF45) hE46 rfl (by kernel_rfl) ?_
      refine RW.mkL H (x := .row ⟨[.int .i32 (ms.getD i 0)], 21, false⟩) (fm := fun b => .slice (some ⟨b, 0, none⟩) 1 1) (by kernel_rfl) (by kernel_rfl) (by kernel_rfl) (by kernel_rfl) ?_
      clear H; intro _ b47 _ H
      refine RW.appL H 1 0 (n := 1) (e2 := 21) (by kernel_rfl) (by kernel_rfl) rfl rfl rfl rfl rfl rfl rfl rfl (by kernel_rfl) (by kernel_rfl) (by kernel_rfl) (by decide) (by decide) rfl rfl (by omega) (by kernel_rfl) ?_
      clear H; intro _ v48 _ H
      dsimp only [setL, delL] at H
      refine RW.v ?_
      refine RW.nil ?_
      refine blkQ_normal ?_
      refine W.rg [(1, .string ⟨s.toArray⟩), (2, .bool true), (8, mv), (9, .pointer (some ⟨b2, 0, none⟩)), (11, um), (19, v48), (74, (.slice (some ⟨bp, 0, none⟩) ws.length ws.length)), (75, .int .i64 (ws.length : Int)), (76, .int .i64 ((i : Nat) : Int))] fun TA => ?_
      refine W.region ?_
      refine RW.valE (v' := .int .i64 (((i : Nat) : Int) + 1)) (by kernel_rfl) (by kernel_rfl) rfl (congrArg (Value.int .i64) (wrap_in (by omega) (by omega))) (by kernel_rfl) ?_
      refine RW.v ?_
      refine RW.nil ?_
      rw [show out.length + (comC true (pieceC true m s i)).length + 1 = (out ++ comC true (pieceC true m s i) ++ [ms.getD i 0]).length by rw [List.length_append, List.length_append]; rfl, show out.map runeV ++ (comC true (pieceC true m s i)).map runeV ++ [.int .i32 (ms.getD i 0)] = (out ++ comC true (pieceC true m s i) ++ [ms.getD i 0]).map runeV by rw [List.map_append, List.map_append]; rfl] at H
      exact ⟨rfl, mm - 1, by omega, i + 1, F, v48, (out ++ comC true (pieceC true m s i) ++ [ms.getD i 0]), (by omega), le1, le2, (by rw [List.length_append, List.length_append]; simp only [List.length_cons, List.length_nil]; omega), (by rw [hT, join_step hiw, ← hms, if_pos (by omega), ← List.append_assoc, ← List.append_assoc]), H, rfl, rfl, rfl, rfl, rfl, rfl, rfl, rfl, rfl⟩
     ·have hc41b := hc41
      have hc41 := of_decide_eq_false hc41
      refine W.skip ?_
      refine blkQ_normal ?_
      refine W.region ?_
      refine RW.valE (v' := .int .i64 (((i : Nat) : Int) + 1)) (by kernel_rfl) (by kernel_rfl) rfl (congrArg (Value.int .i64) (wrap_in (by omega) (by omega))) (by kernel_rfl) ?_
      refine RW.v ?_
      refine RW.nil ?_
      rw [show out.length + (comC true (pieceC true m s i)).length = (out ++ comC true (pieceC true m s i) ++ []).length by rw [List.append_nil, List.length_append], show out.map runeV ++ (comC true (pieceC true m s i)).map runeV = (out ++ comC true (pieceC true m s i) ++ []).map runeV by rw [List.append_nil, List.map_append]] at H
      exact ⟨rfl, mm - 1, by omega, i + 1, F, v39, (out ++ comC true (pieceC true m s i) ++ []), (by omega), le1, le2, (by rw [List.length_append, List.length_append]; simp only [List.length_cons, List.length_nil]; omega), (by rw [hT, join_step hiw, ← hms, if_neg (by omega), ← List.append_assoc, ← List.append_assoc]), H, rfl, rfl, rfl, rfl, rfl, rfl, rfl, rfl, rfl⟩
    ·have hc23b := hc23
     have hc23 := of_decide_eq_false hc23
     refine W.exit _ ?_
     refine seqQ_exit ?_
     refine rndQ_exit ?_
     have hJ : joinC true m s ws.length 0 = out := by rw [hT, show ws.length - i = 0 by omega]; exact List.append_nil _
     obtain ⟨F, le, hout, H⟩ := H.freezeK 0 rfl
     dsimp only [setL, delL] at H
     replace le1 := fun b y h => le b y (le1 b y h)
     replace le2 := fun b y h => le b y (le2 b y h)
     refine blkQ_here ?_
     refine W.seq ?_
     refine W.drawn (by kernel_rfl) (by kernel_rfl) H.gn ?_
     have H49 := H
     refine RW.v ?_
     by_cases hz : out = []
     ·rw [hz] at hout
      refine RW.vop (v := .string ⟨(encA []).toArray⟩) (by kernel_rfl) (by kernel_rfl) (vop_backZ hout rfl rfl rfl rfl rfl) (by kernel_rfl) ?_
      iterate 3 refine RW.v ?_
      refine RW.cl ?_
      refine ((status_wc (fold := true) (hmv.le le1) hml (fun x hx => Nat.le_trans (hmm x hx) (by decide)) (Nat.le_trans hs (by decide)) H49).mono ?_)
      rintro _ _ ⟨rfl, H50⟩
      iterate 2 refine RW.v ?_
      refine RW.nil ?_
      refine ⟨⟨by kernel_rfl, ⟨trivial, trivial, trivial, trivial, trivial, trivial, trivial, trivial, trivial⟩⟩, ?_⟩
      replace H := H50
      clear H49 H50
      refine W.ret ?_
      refine endG (by rfl) (by exact resL_tmp (by exact resL_tmp rfl)) ?_
      rw [show tryP true l s = encA [] by unfold tryP; rw [← hm, if_neg (fun e => by rw [e] at hmpos; exact absurd hmpos (Nat.lt_irrefl _)), ← hws, hJ, hz]]
      exact ⟨rfl, (H).back (fun b y h => le1 b y (le01 b y h))⟩
     ·have hob : ∀ c ∈ out, chB c = true := by rw [← hJ, hm, hws]; exact join_chars
      refine RW.backR H49 hout.slf hob hz (by kernel_rfl) (by kernel_rfl) rfl rfl rfl rfl rfl (by kernel_rfl) ?_
      intro b51 q52 r53 hF54 hE55
      iterate 3 refine RW.v ?_
      refine RW.cl ?_
      refine ((status_wc (fold := true) (hmv.le le1) hml (fun x hx => Nat.le_trans (hmm x hx) (by decide)) (Nat.le_trans hs (by decide)) H49).mono ?_)
      rintro _ _ ⟨rfl, H56⟩
      iterate 2 refine RW.v ?_
      refine RW.nil ?_
      refine ⟨⟨by kernel_rfl, ⟨trivial, dyn_row (H49.old _ _ hF54) (H56.old _ _ hF54) ⟨fun h => Bool.noConfusion h, fun h => Bool.noConfusion h, fun h => Bool.noConfusion h, fun h => Bool.noConfusion h, fun h => Bool.noConfusion h, fun _ => H49.old _ _ hF54, fun h => Bool.noConfusion h, fun h => Bool.noConfusion h, trivial⟩, trivial, trivial, trivial, trivial, trivial, trivial, trivial⟩⟩, ?_⟩
      replace H := H56
      clear H49 H56
      refine W.ret ?_
      refine endG (by rfl) (by exact resL_tmp (by exact resL_tmp rfl)) ?_
      rw [show tryP true l s = encA out by unfold tryP; rw [← hm, if_neg (fun e => by rw [e] at hmpos; exact absurd hmpos (Nat.lt_irrefl _)), ← hws, hJ]]
      exact ⟨rfl, (H).back (fun b y h => le1 b y (le01 b y h))⟩
 | false =>
  obtain ⟨F0, hF⟩ : ∃ F0, F0 = F := ⟨_, rfl⟩
  have le0 : Le F0 F := fun b y h => hF ▸ h
  rw [← hF] at h1 hU ⊢
  refine WC.enter (fn := Tryd.f13) Tryd.func13 rfl ?_
  refine W.rg [(0, v1), (1, .string ⟨s.toArray⟩), (2, .bool false)] fun TA => ?_
  refine W.seq (W.region ?_)
  iterate 2 refine RW.v ?_
  refine RW.nil ?_
  refine W.rg [(0, v1), (1, .string ⟨s.toArray⟩), (2, .bool false)] fun TA => ?_
  refine W.seq (W.region ?_)
  iterate 3 refine RW.v ?_
  refine RW.cl ?_
  refine ((Partial_wc (fold := false) (hU.le le0) h16 (h1.le le0) hl (fun x hx => Nat.le_trans (hsm x hx) (by decide)) hs H).mono ?_)
  clear H
  rintro mv _ ⟨F, le, hmv, H⟩
  replace le0 := fun b y h => le b y (le0 b y h)
  obtain ⟨m, hm⟩ : ∃ m, m = partC false l s := ⟨_, rfl⟩
  rw [← hm] at hmv ⊢
  have hml : m.length ≤ 1000000 := by rw [hm]; exact Nat.le_trans partC_len hl
  have hmm : ∀ x ∈ m, x.length ≤ 60 := fun x hx => by rw [hm] at hx; exact hsm x (partC_good.1 x hx).1.2
  refine RW.v ?_
  refine RW.nil ?_
  refine W.rg [(1, .string ⟨s.toArray⟩), (2, .bool false), (8, mv)] fun TA => ?_
  refine W.seq ?_
  refine W.seq (W.region ?_)
  refine RW.v ?_
  refine RW.len (by kernel_rfl) (by kernel_rfl) rfl rfl rfl rfl (hmv.len (e := 9) (by kernel_rfl)) (by kernel_rfl) ?_
  refine RW.v ?_
  refine RW.nil ?_
  refine W.rg [(1, .string ⟨s.toArray⟩), (2, .bool false), (8, mv), (28, .bool ((m.length : Int) == 0))] fun TA => ?_
  refine W.cond rfl (fun hc1 => ?_) (fun hc1 => ?_)
  ·have hc1b := hc1
   have hc1 := eq_of_beq hc1
   have hm0 : m = [] := List.eq_nil_of_length_eq_zero (by omega)
   refine W.seq (W.region ?_)
   iterate 2 refine RW.v ?_
   refine RW.nil ?_
   refine W.ret ?_
   refine seqQ_ret ?_
   refine endG (by rfl) (by exact resL_tmp (by exact resL_tmp rfl)) ?_
   rw [show tryP false l s = [] by unfold tryP; rw [← hm, if_pos hm0], show statusC false m s = 0 by rw [hm0]; rfl]
   exact ⟨rfl, (H).back le0⟩
  ·have hc1b := hc1
   have hc1 := ne_of_beq_false hc1
   have hmpos : 0 < m.length := by omega
   refine W.skip ?_
   refine W.seq (W.region ?_)
   refine RW.v ?_
   refine RW.cl ?_
   refine ((by_wc (fold := false) H).mono ?_)
   clear H
   rintro _ _ ⟨rfl, H⟩
   refine RW.mk H (.row ⟨[.nilFunc], 47, false⟩) ?_
   clear H; intro _ b2 _ H
   refine RW.st H 0 [.func (.func 86) #[] #[]] [.func (.func 86) #[] #[]] ?_
   clear H; intro _ _ H; dsimp only [setL, delL] at H
   refine RW.nil ?_
   refine W.rg [(1, .string ⟨s.toArray⟩), (2, .bool false), (8, mv), (9, .pointer (some ⟨b2, 0, none⟩))] fun TA => ?_
   refine W.seq (W.region ?_)
   refine RW.v ?_
   refine RW.convR H (Nat.le_trans hs (by decide)) (by kernel_rfl) (by kernel_rfl) rfl rfl rfl rfl rfl (by kernel_rfl) ?_
   clear H; intro _ cv3 H
   obtain ⟨F, le, hk4, H⟩ := H.freezeK 0 rfl
   dsimp only [setL, delL] at H
   replace le0 := fun b y h => le b y (le0 b y h)
   replace hmv := hmv.le le
   refine RW.cl ?_
   refine ((parts_wc hk4 (Nat.le_trans (runes_le s) (Nat.le_trans hs (by decide))) H).mono ?_)
   clear H
   rintro _ _ ⟨F, u, um, wsl, le, rfl, hu, al, hum, H⟩
   replace le0 := fun b y h => le b y (le0 b y h)
   replace hmv := hmv.le le
   replace hk4 := hk4.le le
   obtain ⟨ws, hws⟩ : ∃ ws, ws = (partsC (runes s)).1 := ⟨_, rfl⟩
   obtain ⟨ms, hms⟩ : ∃ ms, ms = (partsC (runes s)).2 := ⟨_, rfl⟩
   rw [← hws] at hu al
   rw [← hms] at hum
   have hwm : ws.length = ms.length + 1 := by rw [hws, hms]; exact partsG_len _ _
   have hmr : ms.length ≤ (runes s).length := by rw [hms]; exact partsG_small _ _
   have hwb : ∀ w ∈ ws, ∀ x ∈ w, 0 ≤ x ∧ x ≤ 1114111 := fun w hw x hx => by rw [hws] at hw; exact ((partsG_mem (runes s) []).1 w hw x hx).elim (fun h => absurd h (List.not_mem_nil)) (runes_in s x)
   have hmb : ∀ x ∈ ms, 0 ≤ x ∧ x ≤ 1114111 := fun x hx => by rw [hms] at hx; exact runes_in s x ((partsG_mem (runes s) []).2 x hx)
   have hrs : (runes s).length ≤ 16000 := Nat.le_trans (runes_le s) hs
   iterate 5 refine RW.v ?_
   refine RW.nil ?_
   refine W.rg [(1, .string ⟨s.toArray⟩), (2, .bool false), (8, mv), (9, .pointer (some ⟨b2, 0, none⟩)), (10, u), (11, um)] fun TA => ?_
   refine W.seq (W.region ?_)
   refine RW.v ?_
   refine RW.len (by kernel_rfl) (by kernel_rfl) rfl rfl rfl rfl (hu.slf.len (e := 50) (by kernel_rfl)) (by kernel_rfl) ?_
   obtain ⟨F, le, hb7, H⟩ := H.freeze 0 rfl
   dsimp only [setL, delL] at H
   replace le0 := fun b y h => le b y (le0 b y h)
   replace hmv := hmv.le le
   replace hk4 := hk4.le le
   replace hu := hu.le le
   replace al := al.le le
   replace hum := hum.le le
   refine RW.mkS H (e := 49) (n := ws.length) (z := .slice none 0 0) (by kernel_rfl) (by kernel_rfl) rfl rfl rfl (by kernel_rfl) (by kernel_rfl) (by kernel_rfl) (by kernel_rfl) rfl rfl (by omega) (by kernel_rfl) rfl ?_
   clear H; intro _ bp H
   replace H := H.nilsP ws.length
   obtain ⟨F1, hF1⟩ : ∃ F1, F1 = F := ⟨_, rfl⟩
   have le1 : Le F1 F := fun b y h => hF1 ▸ h
   have le01 : Le F0 F1 := by rw [hF1]; exact le0
   rw [← hF1] at hb7 hu al hum hmv
   clear hF1 le0
   refine RW.v ?_
   refine RW.nil ?_
   refine W.rg [(1, .string ⟨s.toArray⟩), (2, .bool false), (8, mv), (9, .pointer (some ⟨b2, 0, none⟩)), (10, u), (11, um), (12, .slice (some ⟨bp, 0, none⟩) ws.length ws.length)] fun TA => ?_
   refine W.seq ?_
   refine W.seq (W.region ?_)
   refine RW.v ?_
   refine RW.len (by kernel_rfl) (by kernel_rfl) rfl rfl rfl rfl ((hmv.le le1).len (e := 9) (by kernel_rfl)) (by kernel_rfl) ?_
   refine RW.v ?_
   refine RW.nil ?_
   refine W.rg [(1, .string ⟨s.toArray⟩), (2, .bool false), (8, mv), (9, .pointer (some ⟨b2, 0, none⟩)), (10, u), (11, um), (12, .slice (some ⟨bp, 0, none⟩) ws.length ws.length), (40, mv), (41, .int .i64 (m.length : Int)), (42, .int .i64 0)] fun TA => ?_
   refine W.block ?_
   refine W.loop (fun mm ta σ => ∃ (i : Nat) (F : Nat → Option Blk2) (us : List Value) (xss : List (List Value)), (mm + i = m.length) ∧ (Le F1 F) ∧ (∀ t, t < ws.length → AllZ F (xss.getD t []) (pieceC false (m.take i) s t)) ∧ (us.length = ws.length) ∧ (xss.length = ws.length) ∧ Lies G A F σ (.at_ bp (.row ⟨us, 49, false⟩) :: ((PE us xss ++ L))) ∧ ta 1 = .string ⟨s.toArray⟩ ∧ ta 2 = .bool false ∧ ta 8 = mv ∧ ta 9 = .pointer (some ⟨b2, 0, none⟩) ∧ ta 10 = u ∧ ta 11 = um ∧ ta 12 = .slice (some ⟨bp, 0, none⟩) ws.length ws.length ∧ ta 40 = mv ∧ ta 41 = .int .i64 (m.length : Int) ∧ ta 42 = .int .i64 ((i : Nat) : Int)) m.length ?_ ?_
   ·exact ⟨0, F, (List.replicate ws.length (.slice none 0 0)), (List.replicate ws.length []), (by omega), le1, (fun t ht => by rw [getD_rep]; exact AllZ.nil), (List.length_replicate ..), (List.length_replicate ..), H, rfl, rfl, rfl, rfl, rfl, rfl, rfl, rfl, rfl, rfl⟩
   clear H
   rintro mm ta _ ⟨i, F, us, xss, hmi, le1, hA, hu1, hx1, H, e1, e2, e8, e9, e10, e11, e12, e40, e41, e42⟩
   refine W.rst [(1, .string ⟨s.toArray⟩), (2, .bool false), (8, mv), (9, .pointer (some ⟨b2, 0, none⟩)), (10, u), (11, um), (12, .slice (some ⟨bp, 0, none⟩) ws.length ws.length), (40, mv), (41, .int .i64 (m.length : Int)), (42, .int .i64 ((i : Nat) : Int))] ⟨e1, e2, e8, e9, e10, e11, e12, e40, e41, e42, trivial⟩ fun TA => ?_
   clear e1 e2 e8 e9 e10 e11 e12 e40 e41 e42
   refine W.seq (W.region ?_)
   refine RW.v ?_
   refine RW.nil ?_
   refine W.rg [(1, .string ⟨s.toArray⟩), (2, .bool false), (8, mv), (9, .pointer (some ⟨b2, 0, none⟩)), (10, u), (11, um), (12, .slice (some ⟨bp, 0, none⟩) ws.length ws.length), (40, mv), (41, .int .i64 (m.length : Int)), (42, .int .i64 ((i : Nat) : Int)), (43, .bool (decide (((i : Nat) : Int) < (m.length : Int))))] fun TA => ?_
   refine W.seq ?_
   refine W.cond rfl (fun hc5 => ?_) (fun hc5 => ?_)
   ·have hc5b := hc5
    have hc5 := of_decide_eq_true hc5
    have him : i < m.length := by omega
    refine W.skip ?_
    refine W.seq ?_
    refine W.block ?_
    refine W.seq (W.region ?_)
    refine RW.idxF (hmv.le le1) (by kernel_rfl) (by kernel_rfl) rfl Tryd.underlying22 (by kernel_rfl) rfl rfl ⟨by omega, by omega⟩ (by kernel_rfl) ?_
    intro b6 q7 r8 hF9 hE10
    rw [strs_at (l := m) (j := i) (i := ((i : Nat) : Int)) (by omega) (by omega)] at hE10
    refine RW.loads 1 (by kernel_rfl) (by kernel_rfl) rfl rfl (H.old _ _ hF9) hE10 rfl (by kernel_rfl) ?_
    refine RW.v ?_
    refine RW.nil ?_
    refine W.rg [(1, .string ⟨s.toArray⟩), (2, .bool false), (8, mv), (9, .pointer (some ⟨b2, 0, none⟩)), (10, u), (11, um), (12, .slice (some ⟨bp, 0, none⟩) ws.length ws.length), (14, .string ⟨(m.getD i []).toArray⟩), (40, mv), (41, .int .i64 (m.length : Int)), (42, .int .i64 ((i : Nat) : Int))] fun TA => ?_
    refine W.seq (W.region ?_)
    refine RW.loads 1 (by kernel_rfl) (by kernel_rfl) rfl rfl (H.old _ _ (le1 _ _ hb7)) rfl rfl (by kernel_rfl) ?_
    refine RW.v ?_
    refine RW.convR H (Nat.le_trans (hmm _ (mem_of him)) (by decide)) (by kernel_rfl) (by kernel_rfl) rfl rfl rfl rfl rfl (by kernel_rfl) ?_
    clear H; intro _ cw11 H
    obtain ⟨F, le, hk12, H⟩ := H.freezeK 0 rfl
    dsimp only [setL, delL] at H
    replace le1 := fun b y h => le b y (le1 b y h)
    replace hA := fun t ht => (hA t ht).le le
    iterate 2 refine RW.v ?_
    refine RW.cl ?_
    refine ((match_wc (fold := false) hk12 (hu.le le1) (al.le le1) (hum.le le1).slf (Nat.le_trans (runes_le _) (Nat.le_trans (hmm _ (mem_of him)) (by decide))) (by omega) hwm (runes_in _) hwb H).mono ?_)
    clear H
    rintro _ _ ⟨F, cv, cs, le, rfl, hcv, alr, H⟩
    replace le1 := fun b y h => le b y (le1 b y h)
    replace hA := fun t ht => (hA t ht).le le
    replace hk12 := hk12.le le
    obtain ⟨r, hr⟩ : ∃ r, r = (matchC false (runes (m.getD i [])) (runes s)).getD [] := ⟨_, rfl⟩
    have hme : matchG false (runes (m.getD i [])) ws ms = matchC false (runes (m.getD i [])) (runes s) := by rw [hws, hms]; rfl
    rw [hme, ← hr] at hcv alr
    have hrw : r.length = ws.length := by rw [hr, hws]; exact piece_len (by rw [hm] at him ⊢; exact (partC_good.1 _ (mem_of him)).2)
    iterate 5 refine RW.v ?_
    refine RW.nil ?_
    refine W.rg [(1, .string ⟨s.toArray⟩), (2, .bool false), (8, mv), (9, .pointer (some ⟨b2, 0, none⟩)), (10, u), (11, um), (12, .slice (some ⟨bp, 0, none⟩) ws.length ws.length), (15, cv), (40, mv), (41, .int .i64 (m.length : Int)), (42, .int .i64 ((i : Nat) : Int))] fun TA => ?_
    refine W.seq (W.region ?_)
    refine RW.v ?_
    refine RW.len (by kernel_rfl) (by kernel_rfl) rfl rfl rfl rfl (hcv.slf.len (e := 50) (by kernel_rfl)) (by kernel_rfl) ?_
    refine RW.v ?_
    refine RW.nil ?_
    refine W.rg [(1, .string ⟨s.toArray⟩), (2, .bool false), (8, mv), (9, .pointer (some ⟨b2, 0, none⟩)), (10, u), (11, um), (12, .slice (some ⟨bp, 0, none⟩) ws.length ws.length), (40, mv), (41, .int .i64 (m.length : Int)), (42, .int .i64 ((i : Nat) : Int)), (55, cv), (56, .int .i64 (r.length : Int)), (57, .int .i64 0)] fun TA => ?_
    refine W.block ?_
    refine W.loop (fun mm2 ta σ => ∃ (j : Nat) (us : List Value) (xss : List (List Value)), (mm2 + j = r.length) ∧ (∀ t, t < ws.length → AllZ F (xss.getD t []) (pieceC false (m.take (if t < j then i + 1 else i)) s t)) ∧ (us.length = ws.length) ∧ (xss.length = ws.length) ∧ Lies G A F σ (.at_ bp (.row ⟨us, 49, false⟩) :: ((PE us xss ++ L))) ∧ ta 1 = .string ⟨s.toArray⟩ ∧ ta 2 = .bool false ∧ ta 8 = mv ∧ ta 9 = .pointer (some ⟨b2, 0, none⟩) ∧ ta 10 = u ∧ ta 11 = um ∧ ta 12 = .slice (some ⟨bp, 0, none⟩) ws.length ws.length ∧ ta 40 = mv ∧ ta 41 = .int .i64 (m.length : Int) ∧ ta 42 = .int .i64 ((i : Nat) : Int) ∧ ta 55 = cv ∧ ta 56 = .int .i64 (r.length : Int) ∧ ta 57 = .int .i64 ((j : Nat) : Int)) r.length ?_ ?_
    ·exact ⟨0, us, xss, (by omega), (fun t ht => by rw [if_neg (by omega)]; exact hA t ht), hu1, hx1, H, rfl, rfl, rfl, rfl, rfl, rfl, rfl, rfl, rfl, rfl, rfl, rfl, rfl⟩
    clear H
    rintro mm2 ta _ ⟨j, us, xss, hm2, hA, hu1, hx1, H, e1, e2, e8, e9, e10, e11, e12, e40, e41, e42, e55, e56, e57⟩
    refine W.rst [(1, .string ⟨s.toArray⟩), (2, .bool false), (8, mv), (9, .pointer (some ⟨b2, 0, none⟩)), (10, u), (11, um), (12, .slice (some ⟨bp, 0, none⟩) ws.length ws.length), (40, mv), (41, .int .i64 (m.length : Int)), (42, .int .i64 ((i : Nat) : Int)), (55, cv), (56, .int .i64 (r.length : Int)), (57, .int .i64 ((j : Nat) : Int))] ⟨e1, e2, e8, e9, e10, e11, e12, e40, e41, e42, e55, e56, e57, trivial⟩ fun TA => ?_
    clear e1 e2 e8 e9 e10 e11 e12 e40 e41 e42 e55 e56 e57
    refine W.seq (W.region ?_)
    refine RW.v ?_
    refine RW.nil ?_
    refine W.rg [(1, .string ⟨s.toArray⟩), (2, .bool false), (8, mv), (9, .pointer (some ⟨b2, 0, none⟩)), (10, u), (11, um), (12, .slice (some ⟨bp, 0, none⟩) ws.length ws.length), (40, mv), (41, .int .i64 (m.length : Int)), (42, .int .i64 ((i : Nat) : Int)), (55, cv), (56, .int .i64 (r.length : Int)), (57, .int .i64 ((j : Nat) : Int)), (58, .bool (decide (((j : Nat) : Int) < (r.length : Int))))] fun TA => ?_
    refine W.seq ?_
    refine W.cond rfl (fun hc13 => ?_) (fun hc13 => ?_)
    ·have hc13b := hc13
     have hc13 := of_decide_eq_true hc13
     have hjr : j < r.length := by omega
     refine W.skip ?_
     refine W.seq ?_
     refine W.block ?_
     refine W.seq (W.region ?_)
     refine RW.v ?_
     refine RW.idxF hcv.slf (by kernel_rfl) (by kernel_rfl) rfl Tryd.underlying49 (by kernel_rfl) rfl rfl ⟨by omega, by omega⟩ (by kernel_rfl) ?_
     intro b14 q15 r16 hF17 hE18
     rw [vals_at (l := cs) (j := j) (i := ((j : Nat) : Int)) (by omega) (by have := alr.1; omega)] at hE18
     refine RW.loads 1 (by kernel_rfl) (by kernel_rfl) rfl rfl (H.old _ _ hF17) hE18 rfl (by kernel_rfl) ?_
     iterate 2 refine RW.v ?_
     refine RW.nil ?_
     refine W.rg [(1, .string ⟨s.toArray⟩), (2, .bool false), (8, mv), (9, .pointer (some ⟨b2, 0, none⟩)), (10, u), (11, um), (12, .slice (some ⟨bp, 0, none⟩) ws.length ws.length), (17, .int .i64 ((j : Nat) : Int)), (18, (cs.getD j undef)), (40, mv), (41, .int .i64 (m.length : Int)), (42, .int .i64 ((i : Nat) : Int)), (55, cv), (56, .int .i64 (r.length : Int)), (57, .int .i64 ((j : Nat) : Int))] fun TA => ?_
     refine W.region ?_
     iterate 4 refine RW.v ?_
     have hxj : (xss.getD j []).length = i := by rw [(hA j (by omega)).1, pieceC, List.length_map, if_neg (Nat.lt_irrefl _), List.length_take]; omega
     replace H := H.perm (pe_pick (j := j) (by omega) (hu1.trans hx1.symm))
     refine RW.idxE (s := 1) (by kernel_rfl) (by kernel_rfl) rfl Tryd.underlying53 (by kernel_rfl) rfl rfl ⟨by omega, by omega⟩ (by kernel_rfl) ?_
     intro q19 q19e
     have q19j : q19 = j := by rw [q19e]; omega
     rw [q19j]
     clear q19e q19j
     have hgf := gr_forms (H.sl 1 rfl)
     refine RW.ldL H 0 1 (cs := [(us.getD j undef)]) (v := (us.getD j undef)) (by kernel_rfl) (by kernel_rfl) rfl rfl rfl (us_at (show j < us.length by omega)) (by rcases hgf with h | ⟨_, _, _, h⟩ <;> rw [h] <;> kernel_rfl) (by kernel_rfl) ?_
     refine RW.v ?_
     refine RW.mkL H (x := .row ⟨[(cs.getD j undef)], 50, false⟩) (fm := fun b => .slice (some ⟨b, 0, none⟩) 1 1) (by kernel_rfl) (by kernel_rfl) (by rcases slf_forms (alr.2 j (by omega)).slf with e0 | ⟨_, e0⟩ | ⟨_, _, _, _, _, e0⟩ <;> rw [e0] <;> kernel_rfl) (by kernel_rfl) ?_
     clear H; intro _ b20 _ H
     refine RW.appL H 2 0 (n := 1) (e2 := 50) (by kernel_rfl) (by kernel_rfl) rfl rfl rfl rfl rfl rfl rfl rfl (by kernel_rfl) (by kernel_rfl) (by kernel_rfl) (by decide) (by decide) rfl (slf_all (alr.2 j (by omega)).slf) (by omega) (by kernel_rfl) ?_
     clear H; intro _ v21 _ H
     dsimp only [setL, delL] at H
     refine RW.idxE (s := 1) (by kernel_rfl) (by kernel_rfl) rfl Tryd.underlying53 (by kernel_rfl) rfl rfl ⟨by omega, by omega⟩ (by kernel_rfl) ?_
     intro q22 q22e
     have q22j : q22 = j := by rw [q22e]; omega
     rw [q22j]
     clear q22e q22j
     have hgf2 := gr_forms (H.sl 1 rfl)
     refine RW.stE H 0 rfl (vs := [v21]) (by show j + 1 ≤ us.length; omega) (by kernel_rfl) (by kernel_rfl) rfl rfl ((H.sl 1 rfl).one) (by rcases hgf2 with h | ⟨_, _, _, h⟩ <;> rw [h] <;> rfl) (by kernel_rfl) (by kernel_rfl) ?_
     clear H; intro _ H
     dsimp only [setL] at H
     rw [overL_one (show j < us.length by omega), show (xss.getD j []).length + 1 = ((xss.getD j []) ++ [(cs.getD j undef)]).length by rw [List.length_append]; rfl] at H
     replace H := H.perm (pe_put (us := us) (xss := xss) (j := j) (by omega) (hu1.trans hx1.symm))
     refine RW.nil ?_
     refine blkQ_normal ?_
     refine W.rg [(1, .string ⟨s.toArray⟩), (2, .bool false), (8, mv), (9, .pointer (some ⟨b2, 0, none⟩)), (10, u), (11, um), (12, .slice (some ⟨bp, 0, none⟩) ws.length ws.length), (40, mv), (41, .int .i64 (m.length : Int)), (42, .int .i64 ((i : Nat) : Int)), (55, cv), (56, .int .i64 (r.length : Int)), (57, .int .i64 ((j : Nat) : Int))] fun TA => ?_
     refine W.region ?_
     refine RW.valE (v' := .int .i64 (((j : Nat) : Int) + 1)) (by kernel_rfl) (by kernel_rfl) rfl (congrArg (Value.int .i64) (wrap_in (by omega) (by omega))) (by kernel_rfl) ?_
     refine RW.v ?_
     refine RW.nil ?_
     exact ⟨rfl, mm2 - 1, by omega, j + 1, (us.set j v21), (xss.set j ((xss.getD j []) ++ [(cs.getD j undef)])), (by omega), (pa_step hA (by omega) hx1 him (alr.2 j (by omega)) hr), (by rw [List.length_set]; exact hu1), (by rw [List.length_set]; exact hx1), H, rfl, rfl, rfl, rfl, rfl, rfl, rfl, rfl, rfl, rfl, rfl, rfl, rfl⟩
    ·have hc13b := hc13
     have hc13 := of_decide_eq_false hc13
     refine W.exit _ ?_
     refine seqQ_exit ?_
     refine rndQ_exit ?_
     replace hA : ∀ t, t < ws.length → AllZ F (xss.getD t []) (pieceC false (m.take (i + 1)) s t) := fun t ht => by have := hA t ht; rwa [if_pos (by omega)] at this
     refine blkQ_here ?_
     refine blkQ_normal ?_
     refine W.region ?_
     refine RW.valE (v' := .int .i64 (((i : Nat) : Int) + 1)) (by kernel_rfl) (by kernel_rfl) rfl (congrArg (Value.int .i64) (wrap_in (by omega) (by omega))) (by kernel_rfl) ?_
     refine RW.v ?_
     refine RW.nil ?_
     exact ⟨rfl, mm - 1, by omega, i + 1, F, us, xss, (by omega), le1, hA, hu1, hx1, H, rfl, rfl, rfl, rfl, rfl, rfl, rfl, rfl, rfl, rfl⟩
   ·have hc5b := hc5
    have hc5 := of_decide_eq_false hc5
    refine W.exit _ ?_
    refine seqQ_exit ?_
    refine rndQ_exit ?_
    rw [List.take_of_length_le (show m.length ≤ i by omega)] at hA
    obtain ⟨F, le, hrow, H⟩ := H.freezeR 0 rfl (n := ws.length) (s := 1) (by rw [hu1]; omega)
    dsimp only [setL, delL] at H
    replace le1 := fun b y h => le b y (le1 b y h)
    replace hA := fun t ht => (hA t ht).le le
    obtain ⟨F, le, hP, H⟩ := H.freezePE (hu1.trans hx1.symm)
    replace le1 := fun b y h => le b y (le1 b y h)
    replace hA := fun t ht => (hA t ht).le le
    replace hrow := hrow.le le
    rw [hu1] at hP
    obtain ⟨F2, hF2⟩ : ∃ F2, F2 = F := ⟨_, rfl⟩
    have le2 : Le F2 F := fun b y h => hF2 ▸ h
    rw [← hF2] at hA hrow hP
    clear hF2
    refine blkQ_here ?_
    refine W.seq (W.region ?_)
    refine RW.v ?_
    refine RW.nil ?_
    refine W.rg [(1, .string ⟨s.toArray⟩), (2, .bool false), (8, mv), (9, .pointer (some ⟨b2, 0, none⟩)), (11, um), (12, (.slice (some ⟨bp, 0, none⟩) ws.length ws.length)), (19, .slice none 0 0)] fun TA => ?_
    refine W.seq ?_
    refine W.seq (W.region ?_)
    refine RW.v ?_
    refine RW.len (by kernel_rfl) (by kernel_rfl) rfl rfl rfl rfl ((hrow.le le2).slf.len (e := 49) (by kernel_rfl)) (by kernel_rfl) ?_
    refine RW.v ?_
    refine RW.nil ?_
    refine W.rg [(1, .string ⟨s.toArray⟩), (2, .bool false), (8, mv), (9, .pointer (some ⟨b2, 0, none⟩)), (11, um), (19, .slice none 0 0), (74, (.slice (some ⟨bp, 0, none⟩) ws.length ws.length)), (75, .int .i64 (ws.length : Int)), (76, .int .i64 0)] fun TA => ?_
    refine W.block ?_
    replace H := H.nilSl 21 1
    refine W.loop (fun mm ta σ => ∃ (i : Nat) (F : Nat → Option Blk2) (v : Value) (out : List Int), (mm + i = ws.length) ∧ (Le F1 F) ∧ (Le F2 F) ∧ (out.length ≤ i * 61) ∧ (joinC false m s ws.length 0 = out ++ joinC false m s (ws.length - i) i) ∧ Lies G A F σ (.sl 21 1 v out.length (out.map runeV) :: (L)) ∧ ta 1 = .string ⟨s.toArray⟩ ∧ ta 2 = .bool false ∧ ta 8 = mv ∧ ta 9 = .pointer (some ⟨b2, 0, none⟩) ∧ ta 11 = um ∧ ta 19 = v ∧ ta 74 = (.slice (some ⟨bp, 0, none⟩) ws.length ws.length) ∧ ta 75 = .int .i64 (ws.length : Int) ∧ ta 76 = .int .i64 ((i : Nat) : Int)) ws.length ?_ ?_
    ·exact ⟨0, F, .slice none 0 0, [], (by omega), le1, le2, (Nat.zero_le _), rfl, H, rfl, rfl, rfl, rfl, rfl, rfl, rfl, rfl, rfl⟩
    clear H
    rintro mm ta _ ⟨i, F, v, out, hmi, le1, le2, hol, hT, H, e1, e2, e8, e9, e11, e19, e74, e75, e76⟩
    refine W.rst [(1, .string ⟨s.toArray⟩), (2, .bool false), (8, mv), (9, .pointer (some ⟨b2, 0, none⟩)), (11, um), (19, v), (74, (.slice (some ⟨bp, 0, none⟩) ws.length ws.length)), (75, .int .i64 (ws.length : Int)), (76, .int .i64 ((i : Nat) : Int))] ⟨e1, e2, e8, e9, e11, e19, e74, e75, e76, trivial⟩ fun TA => ?_
    clear e1 e2 e8 e9 e11 e19 e74 e75 e76
    refine W.seq (W.region ?_)
    refine RW.v ?_
    refine RW.nil ?_
    refine W.rg [(1, .string ⟨s.toArray⟩), (2, .bool false), (8, mv), (9, .pointer (some ⟨b2, 0, none⟩)), (11, um), (19, v), (74, (.slice (some ⟨bp, 0, none⟩) ws.length ws.length)), (75, .int .i64 (ws.length : Int)), (76, .int .i64 ((i : Nat) : Int)), (77, .bool (decide (((i : Nat) : Int) < (ws.length : Int))))] fun TA => ?_
    refine W.seq ?_
    refine W.cond rfl (fun hc23 => ?_) (fun hc23 => ?_)
    ·have hc23b := hc23
     have hc23 := of_decide_eq_true hc23
     have hiw : i < ws.length := by omega
     have hpl : (pieceC false m s i).length = m.length := List.length_map _
     have hxl : (xss.getD i []).length = (pieceC false m s i).length := (hA i (by omega)).1
     refine W.skip ?_
     refine W.seq ?_
     refine W.block ?_
     refine W.seq (W.region ?_)
     refine RW.v ?_
     refine RW.idxF (hrow.le le2).slf (by kernel_rfl) (by kernel_rfl) rfl Tryd.underlying53 (by kernel_rfl) rfl rfl ⟨by omega, by omega⟩ (by kernel_rfl) ?_
     intro b24 q25 r26 hF27 hE28
     rw [vals_at (l := us) (j := i) (i := ((i : Nat) : Int)) (by omega) (by omega)] at hE28
     refine RW.loads 1 (by kernel_rfl) (by kernel_rfl) rfl rfl (H.old _ _ hF27) hE28 rfl (by kernel_rfl) ?_
     iterate 2 refine RW.v ?_
     refine RW.nil ?_
     refine W.rg [(1, .string ⟨s.toArray⟩), (2, .bool false), (8, mv), (9, .pointer (some ⟨b2, 0, none⟩)), (11, um), (19, v), (20, .int .i64 ((i : Nat) : Int)), (21, (us.getD i undef)), (74, (.slice (some ⟨bp, 0, none⟩) ws.length ws.length)), (75, .int .i64 (ws.length : Int)), (76, .int .i64 ((i : Nat) : Int))] fun TA => ?_
     refine W.seq ?_
     refine W.drawn (by kernel_rfl) (by kernel_rfl) H.gn ?_
     have H29 := H
     refine RW.v ?_
     refine RW.loads 1 (by kernel_rfl) (by kernel_rfl) rfl rfl (H29.old _ _ (le1 _ _ hb7)) rfl rfl (by kernel_rfl) ?_
     refine RW.v ?_
     refine RW.idxF ((hP i (by omega)).le le2).slf (by kernel_rfl) (by kernel_rfl) rfl Tryd.underlying49 (by kernel_rfl) rfl rfl ⟨by omega, by omega⟩ (by kernel_rfl) ?_
     intro b30 q31 r32 hF33 hE34
     rw [vals_at (l := (xss.getD i [])) (j := 0) (i := 0) (by omega) (by have := ((hA i (by omega)).le le2).1; omega)] at hE34
     refine RW.loads 1 (by kernel_rfl) (by kernel_rfl) rfl rfl (H29.old _ _ hF33) hE34 rfl (by kernel_rfl) ?_
     refine RW.v ?_
     obtain ⟨sv35, hv36, hk37⟩ := slk_rest (P := Tryd.prog) (t := 49) (e := 50) (i := 1) ((hP i (by omega)).le le2) (by kernel_rfl) (by kernel_rfl) (by omega)
     rw [show ((1 : Nat) : Int) = 1 from by omega] at hv36
     rw [Nat.mul_one] at hk37
     refine RW.vop (v := sv35) (by kernel_rfl) (by kernel_rfl) (vop_slice rfl hv36) (by kernel_rfl) ?_
     have hrest : SlK F 1 sv35 ((pieceC false m s i).drop 1).length ((xss.getD i []).drop 1) := by rw [List.length_drop, ← hxl]; exact hk37
     have al1 := ((hA i (by omega)).le le2).drop 1
     have hpc : ∀ z ∈ (pieceC false m s i), z.length ≤ 60 ∧ ∀ c ∈ z, 0 ≤ c ∧ c ≤ 1114111 := piece_in hmm
     refine RW.cl ?_
     refine ((common_wc (fold := false) (xs := (pieceC false m s i).getD 0 []) (ls := (pieceC false m s i).drop 1) (((hA i (by omega)).le le2).2 0 (by omega)) hrest al1 (by have := (hpc _ (lst_mem (l := (pieceC false m s i)) (j := 0) (by omega))).1; omega) (by rw [List.length_drop]; omega) (hpc _ (lst_mem (by omega))).2 (fun y h => (hpc y (List.mem_of_mem_drop h)).2) H29).mono ?_)
     rintro cw _ ⟨hcw, H38⟩
     rw [← comC_ne (by omega)] at hcw
     have hcl : (comC false (pieceC false m s i)).length ≤ 60 := comT_len fun z hz => (hpc z hz).1
     refine RW.appFD H38 0 (e2 := 21) hcw.slf (by kernel_rfl) (by kernel_rfl) rfl rfl rfl rfl rfl rfl rfl (.inl rfl) (by kernel_rfl) (by kernel_rfl) (by kernel_rfl) (by decide) (runs_ones _) (by omega) (by kernel_rfl) ?_
     intro _ v39 H40
     dsimp only [setL] at H40
     refine RW.v ?_
     refine RW.nil ?_
     refine ⟨⟨by kernel_rfl, ⟨trivial, dyn_row (H29.old _ _ (le1 _ _ hb7)) (H40.old _ _ (le1 _ _ hb7)) ⟨fun h => Bool.noConfusion h, fun h => Bool.noConfusion h, fun h => Bool.noConfusion h, fun h => Bool.noConfusion h, fun h => Bool.noConfusion h, fun h => Bool.noConfusion h, fun h => Bool.noConfusion h, fun _ => H29.old _ _ (le1 _ _ hb7), fun _ => H38.old _ _ (le1 _ _ hb7), fun h => Bool.noConfusion h, trivial⟩, trivial, trivial, dyn_row (H29.old _ _ hF33) (H40.old _ _ hF33) ⟨fun h => Bool.noConfusion h, fun h => Bool.noConfusion h, fun h => Bool.noConfusion h, fun h => Bool.noConfusion h, fun h => Bool.noConfusion h, fun h => Bool.noConfusion h, fun h => Bool.noConfusion h, fun _ => H29.old _ _ hF33, fun _ => H38.old _ _ hF33, fun h => Bool.noConfusion h, trivial⟩, trivial, trivial, trivial, trivial, trivial, trivial⟩⟩, ?_⟩
     replace H := H40
     clear H29 H38 H40
     refine W.rg [(1, .string ⟨s.toArray⟩), (2, .bool false), (8, mv), (9, .pointer (some ⟨b2, 0, none⟩)), (11, um), (19, v39), (20, .int .i64 ((i : Nat) : Int)), (74, (.slice (some ⟨bp, 0, none⟩) ws.length ws.length)), (75, .int .i64 (ws.length : Int)), (76, .int .i64 ((i : Nat) : Int))] fun TA => ?_
     refine W.seq (W.region ?_)
     iterate 2 refine RW.v ?_
     refine RW.len (by kernel_rfl) (by kernel_rfl) rfl rfl rfl rfl ((hum.le le1).slf.len (e := 21) (by kernel_rfl)) (by kernel_rfl) ?_
     refine RW.v ?_
     refine RW.nil ?_
     refine W.rg [(1, .string ⟨s.toArray⟩), (2, .bool false), (8, mv), (9, .pointer (some ⟨b2, 0, none⟩)), (11, um), (19, v39), (20, .int .i64 ((i : Nat) : Int)), (74, (.slice (some ⟨bp, 0, none⟩) ws.length ws.length)), (75, .int .i64 (ws.length : Int)), (76, .int .i64 ((i : Nat) : Int)), (93, .bool (decide (((i : Nat) : Int) < (ms.length : Int))))] fun TA => ?_
     refine W.cond rfl (fun hc41 => ?_) (fun hc41 => ?_)
     ·have hc41b := hc41
      have hc41 := of_decide_eq_true hc41
      refine W.region ?_
      iterate 3 refine RW.v ?_
      refine RW.idxF (hum.le le1).slf (by kernel_rfl) (by kernel_rfl) rfl Tryd.underlying50 (by kernel_rfl) rfl rfl ⟨by omega, by omega⟩ (by kernel_rfl) ?_
      intro b42 q43 r44 hF45 hE46
      rw [runs_at (l := ms) (j := i) (i := ((i : Nat) : Int)) (by omega) (by omega)] at hE46
      refine RW.loads 1 (by kernel_rfl) (by kernel_rfl) rfl rfl (H.old _ _ hF45) hE46 rfl (by kernel_rfl) ?_
      refine RW.mkL H (x := .row ⟨[.int .i32 (ms.getD i 0)], 21, false⟩) (fm := fun b => .slice (some ⟨b, 0, none⟩) 1 1) (by kernel_rfl) (by kernel_rfl) (by kernel_rfl) (by kernel_rfl) ?_
      clear H; intro _ b47 _ H
      refine RW.appL H 1 0 (n := 1) (e2 := 21) (by kernel_rfl) (by kernel_rfl) rfl rfl rfl rfl rfl rfl rfl rfl (by kernel_rfl) (by kernel_rfl) (by kernel_rfl) (by decide) (by decide) rfl rfl (by omega) (by kernel_rfl) ?_
      clear H; intro _ v48 _ H
      dsimp only [setL, delL] at H
      refine RW.v ?_
      refine RW.nil ?_
      refine blkQ_normal ?_
      refine W.rg [(1, .string ⟨s.toArray⟩), (2, .bool false), (8, mv), (9, .pointer (some ⟨b2, 0, none⟩)), (11, um), (19, v48), (74, (.slice (some ⟨bp, 0, none⟩) ws.length ws.length)), (75, .int .i64 (ws.length : Int)), (76, .int .i64 ((i : Nat) : Int))] fun TA => ?_
      refine W.region ?_
      refine RW.valE (v' := .int .i64 (((i : Nat) : Int) + 1)) (by kernel_rfl) (by kernel_rfl) rfl (congrArg (Value.int .i64) (wrap_in (by omega) (by omega))) (by kernel_rfl) ?_
      refine RW.v ?_
      refine RW.nil ?_
      rw [show out.length + (comC false (pieceC false m s i)).length + 1 = (out ++ comC false (pieceC false m s i) ++ [ms.getD i 0]).length by rw [List.length_append, List.length_append]; rfl, show out.map runeV ++ (comC false (pieceC false m s i)).map runeV ++ [.int .i32 (ms.getD i 0)] = (out ++ comC false (pieceC false m s i) ++ [ms.getD i 0]).map runeV by rw [List.map_append, List.map_append]; rfl] at H
      exact ⟨rfl, mm - 1, by omega, i + 1, F, v48, (out ++ comC false (pieceC false m s i) ++ [ms.getD i 0]), (by omega), le1, le2, (by rw [List.length_append, List.length_append]; simp only [List.length_cons, List.length_nil]; omega), (by rw [hT, join_step hiw, ← hms, if_pos (by omega), ← List.append_assoc, ← List.append_assoc]), H, rfl, rfl, rfl, rfl, rfl, rfl, rfl, rfl, rfl⟩
     ·have hc41b := hc41
      have hc41 := of_decide_eq_false hc41
      refine W.skip ?_
      refine blkQ_normal ?_
      refine W.region ?_
      refine RW.valE (v' := .int .i64 (((i : Nat) : Int) + 1)) (by kernel_rfl) (by kernel_rfl) rfl (congrArg (Value.int .i64) (wrap_in (by omega) (by omega))) (by kernel_rfl) ?_
      refine RW.v ?_
      refine RW.nil ?_
      rw [show out.length + (comC false (pieceC false m s i)).length = (out ++ comC false (pieceC false m s i) ++ []).length by rw [List.append_nil, List.length_append], show out.map runeV ++ (comC false (pieceC false m s i)).map runeV = (out ++ comC false (pieceC false m s i) ++ []).map runeV by rw [List.append_nil, List.map_append]] at H
      exact ⟨rfl, mm - 1, by omega, i + 1, F, v39, (out ++ comC false (pieceC false m s i) ++ []), (by omega), le1, le2, (by rw [List.length_append, List.length_append]; simp only [List.length_cons, List.length_nil]; omega), (by rw [hT, join_step hiw, ← hms, if_neg (by omega), ← List.append_assoc, ← List.append_assoc]), H, rfl, rfl, rfl, rfl, rfl, rfl, rfl, rfl, rfl⟩
    ·have hc23b := hc23
     have hc23 := of_decide_eq_false hc23
     refine W.exit _ ?_
     refine seqQ_exit ?_
     refine rndQ_exit ?_
     have hJ : joinC false m s ws.length 0 = out := by rw [hT, show ws.length - i = 0 by omega]; exact List.append_nil _
     obtain ⟨F, le, hout, H⟩ := H.freezeK 0 rfl
     dsimp only [setL, delL] at H
     replace le1 := fun b y h => le b y (le1 b y h)
     replace le2 := fun b y h => le b y (le2 b y h)
     refine blkQ_here ?_
     refine W.seq ?_
     refine W.drawn (by kernel_rfl) (by kernel_rfl) H.gn ?_
     have H49 := H
     refine RW.v ?_
     by_cases hz : out = []
     ·rw [hz] at hout
      refine RW.vop (v := .string ⟨(encA []).toArray⟩) (by kernel_rfl) (by kernel_rfl) (vop_backZ hout rfl rfl rfl rfl rfl) (by kernel_rfl) ?_
      iterate 3 refine RW.v ?_
      refine RW.cl ?_
      refine ((status_wc (fold := false) (hmv.le le1) hml (fun x hx => Nat.le_trans (hmm x hx) (by decide)) (Nat.le_trans hs (by decide)) H49).mono ?_)
      rintro _ _ ⟨rfl, H50⟩
      iterate 2 refine RW.v ?_
      refine RW.nil ?_
      refine ⟨⟨by kernel_rfl, ⟨trivial, trivial, trivial, trivial, trivial, trivial, trivial, trivial, trivial⟩⟩, ?_⟩
      replace H := H50
      clear H49 H50
      refine W.ret ?_
      refine endG (by rfl) (by exact resL_tmp (by exact resL_tmp rfl)) ?_
      rw [show tryP false l s = encA [] by unfold tryP; rw [← hm, if_neg (fun e => by rw [e] at hmpos; exact absurd hmpos (Nat.lt_irrefl _)), ← hws, hJ, hz]]
      exact ⟨rfl, (H).back (fun b y h => le1 b y (le01 b y h))⟩
     ·have hob : ∀ c ∈ out, chB c = true := by rw [← hJ, hm, hws]; exact join_chars
      refine RW.backR H49 hout.slf hob hz (by kernel_rfl) (by kernel_rfl) rfl rfl rfl rfl rfl (by kernel_rfl) ?_
      intro b51 q52 r53 hF54 hE55
      iterate 3 refine RW.v ?_
      refine RW.cl ?_
      refine ((status_wc (fold := false) (hmv.le le1) hml (fun x hx => Nat.le_trans (hmm x hx) (by decide)) (Nat.le_trans hs (by decide)) H49).mono ?_)
      rintro _ _ ⟨rfl, H56⟩
      iterate 2 refine RW.v ?_
      refine RW.nil ?_
      refine ⟨⟨by kernel_rfl, ⟨trivial, dyn_row (H49.old _ _ hF54) (H56.old _ _ hF54) ⟨fun h => Bool.noConfusion h, fun h => Bool.noConfusion h, fun h => Bool.noConfusion h, fun h => Bool.noConfusion h, fun h => Bool.noConfusion h, fun _ => H49.old _ _ hF54, fun h => Bool.noConfusion h, fun h => Bool.noConfusion h, trivial⟩, trivial, trivial, trivial, trivial, trivial, trivial, trivial⟩⟩, ?_⟩
      replace H := H56
      clear H49 H56
      refine W.ret ?_
      refine endG (by rfl) (by exact resL_tmp (by exact resL_tmp rfl)) ?_
      rw [show tryP false l s = encA out by unfold tryP; rw [← hm, if_neg (fun e => by rw [e] at hmpos; exact absurd hmpos (Nat.lt_irrefl _)), ← hws, hJ]]
      exact ⟨rfl, (H).back (fun b y h => le1 b y (le01 b y h))⟩
end
end Go.Proofs.YtjcmdifpkafdkaaDoor
namespace Go.Proofs.YtjcmdifpkafdkaaDoor
open Go.Lib
set_option maxRecDepth 100000
theorem fold_keep {b d : Int} (h : foldOf b = d) (hd : delC d = true) : b = d := by
 unfold delC at hd
 have hd := of_decide_eq_true hd
 unfold foldOf at h
 have hu := up_cases b
 have hw := down_cases (upOf b)
 unfold NearP at hu hw
 omega
theorem del_fold {d : Int} (hd : delC d = true) : foldOf d = d := by
 unfold delC at hd
 rcases of_decide_eq_true hd with rfl | rfl | rfl | rfl | rfl | rfl <;> decide
theorem fold_del (a b : Int) (h : foldOf a = foldOf b) (ha : delC a = true) : a = b := by
 rw [del_fold ha] at h
 exact (fold_keep h.symm ha).symm
theorem key_del {fold : Bool} {a b : Int} (h : foldC fold a = foldC fold b) : delC a = delC b ∧ (delC a = true → a = b) := by
 have k : ∀ {a b : Int}, foldC fold a = foldC fold b → delC a = true → a = b := by
  intro a b h ha
  unfold foldC at h
  split at h
  ·exact fold_del a b h ha
  ·exact h
 refine ⟨?_, k h⟩
 cases ha : delC a with
 | true => rw [← k h ha, ha]
 | false =>
  cases hb : delC b with
  | false => rfl
  | true => rw [k h.symm hb, ha] at hb; cases hb
def freeD (w : List Int) : Prop := ∀ x ∈ w, delC x = false
theorem free_key {fold : Bool} : ∀ {a b : List Int}, keyC fold a = keyC fold b → freeD b → freeD a
 | [], _, _, _ => fun x hx => absurd hx (List.not_mem_nil)
 | x :: a, [], h, _ => by cases h
 | x :: a, y :: b, h, hb => fun z hz => by
  have h := List.cons.inj h
  rcases List.mem_cons.1 hz with rfl | hz
  ·rw [(key_del h.1).1]; exact hb y (List.mem_cons_self ..)
  ·exact free_key (b := b) h.2 (fun x hx => hb x (List.mem_cons_of_mem _ hx)) z hz
theorem free_take {w : List Int} (h : freeD w) (n : Nat) : freeD (w.take n) := fun x hx => h x (List.mem_of_mem_take hx)
theorem free_nil : freeD [] := fun x hx => absurd hx (List.not_mem_nil)
theorem beg_take {fold : Bool} {c w : List Int} (h : begC fold c w = true) : keyC fold (c.take w.length) = keyC fold w ∧ w.length ≤ c.length := by
 unfold begC at h
 rw [Bool.and_eq_true, decide_eq_true_iff, beq_iff_eq] at h
 exact ⟨h.2, h.1⟩
theorem beg_trans {fold : Bool} {a b c : List Int} (h : begC fold a b = true) (k : begC fold b c = true) : begC fold a c = true := beg_iff.2 ((beg_iff.1 k).trans (beg_iff.1 h))
theorem first_del : ∀ c : List Int, freeD c ∨ ∃ p m c', c = p ++ m :: c' ∧ freeD p ∧ delC m = true
 | [] => .inl free_nil
 | x :: c => by
  cases hx : delC x with
  | true => exact .inr ⟨[], x, c, rfl, free_nil, hx⟩
  | false =>
   rcases first_del c with h | ⟨p, m, c', rfl, hp, hm⟩
   ·exact .inl fun z hz => (List.mem_cons.1 hz).elim (fun e => e ▸ hx) (h z)
   ·exact .inr ⟨x :: p, m, c', rfl, fun z hz => (List.mem_cons.1 hz).elim (fun e => e ▸ hx) (hp z), hm⟩
theorem tw_free : ∀ {p : List Int} {m : Int} {c : List Int}, freeD p → delC m = true → (p ++ m :: c).takeWhile (fun x => !delC x) = p
 | [], m, c, _, hm => by rw [List.nil_append, List.takeWhile_cons_of_neg (by rw [hm]; exact Bool.false_ne_true)]
 | x :: p, m, c, hp, hm => by
  rw [List.cons_append, List.takeWhile_cons_of_pos (by rw [hp x (List.mem_cons_self ..)]; rfl), tw_free (fun z hz => hp z (List.mem_cons_of_mem _ hz)) hm]
theorem tw_all {c : List Int} (h : freeD c) : c.takeWhile (fun x => !delC x) = c := by
 induction c with
 | nil => rfl
 | cons x c ih => rw [List.takeWhile_cons_of_pos (by rw [h x (List.mem_cons_self ..)]; rfl), ih fun z hz => h z (List.mem_cons_of_mem _ hz)]
theorem end_first {p : List Int} {m : Int} {c : List Int} {n : Nat} (hp : freeD p) (hm : delC m = true) (hn : n ≤ p.length) : endC (p ++ m :: c) n = p.length := by
 unfold endC
 rw [List.drop_append_of_le_length hn, tw_free (fun z hz => hp z (List.mem_of_mem_drop hz)) hm, List.length_drop]
 omega
theorem end_free {c : List Int} {n : Nat} (hp : freeD c) (hn : n ≤ c.length) : endC c n = c.length := by
 unfold endC
 rw [tw_all (fun z hz => hp z (List.mem_of_mem_drop hz)), List.length_drop]
 omega
theorem beg_head {fold : Bool} {p c w : List Int} {m : Int} (hm : delC m = true) (hw : freeD w) (h : begC fold (p ++ m :: c) w = true) : begC fold p w = true := by
 have h := beg_iff.1 h
 by_cases hl : w.length ≤ p.length
 ·refine beg_iff.2 ?_
  unfold keyC at h ⊢
  rw [List.map_append] at h
  exact List.prefix_of_prefix_length_le h (List.prefix_append ..) (by rw [List.length_map, List.length_map]; exact hl)
 ·exfalso
  obtain ⟨t, ht⟩ := h
  obtain ⟨a, b, ha, hb, _⟩ := List.map_eq_append_iff.1 ht.symm
  have hab : (a.length = w.length) := by have := congrArg List.length hb; unfold keyC at this; rwa [List.length_map, List.length_map] at this
  have hx : a.getD p.length 0 = m := by
   have h1 := congrArg (fun q => List.getD q p.length 0) ha
   rw [List.getD_eq_getElem?_getD, List.getElem?_append_right (Nat.le_refl _), Nat.sub_self, List.getD_eq_getElem?_getD, List.getElem?_append_left (by omega), ← List.getD_eq_getElem?_getD] at h1
   exact h1.symm
  have hf := free_key hb hw m (by rw [← hx, List.getD_eq_getElem?_getD, List.getElem?_eq_getElem (by omega)]; exact List.getElem_mem _)
  rw [hm] at hf
  cases hf
theorem beg_app {fold : Bool} {p c w : List Int} (h : begC fold p w = true) : begC fold (p ++ c) w = true := by
 refine beg_iff.2 ((beg_iff.1 h).trans ?_)
 unfold keyC
 rw [List.map_append]
 exact List.prefix_append ..
theorem match_one {fold : Bool} {c w : List Int} {r : List (List Int)} : matchG fold c [w] [] = some r ↔ begC fold c w = true ∧ r = [c] := by
 unfold matchG
 cases begC fold c w
 ·exact ⟨fun h => (by cases h), fun h => (by cases h.1)⟩
 ·exact ⟨fun h => ⟨rfl, (Option.some.inj h).symm⟩, fun h => by rw [h.2]; rfl⟩
theorem match_two {fold : Bool} {c w : List Int} {ws : List (List Int)} {m : Int} {ms : List Int} {r : List (List Int)} (hw : freeD w) (hm : delC m = true) : matchG fold c (w :: ws) (m :: ms) = some r ↔ ∃ p c' r', c = p ++ m :: c' ∧ freeD p ∧ begC fold p w = true ∧ matchG fold c' ws ms = some r' ∧ r = p :: r' := by
 constructor
 ·intro h
  unfold matchG at h
  split at h
  ·cases h
  ·rename_i hb
   have hb : begC fold c w = true := by cases hx : begC fold c w <;> simp_all
   dsimp only at h
   rcases first_del c with hf | ⟨p, m', c', rfl, hp, hm'⟩
   ·rw [if_pos (.inl (end_free hf (beg_take hb).2))] at h
    cases h
   ·have hbp := beg_head hm' hw hb
    have hE := end_first (c := c') hp hm' (beg_take hbp).2
    rw [hE] at h
    split at h
    ·cases h
    ·rename_i hn
     have e : m' = m := by
      refine Classical.byContradiction fun e => hn (.inr ?_)
      rw [List.getD_eq_getElem?_getD, List.getElem?_append_right (Nat.le_refl _), Nat.sub_self]
      exact e
     subst e
     rw [show (p ++ m' :: c').drop (p.length + 1) = c' by rw [← List.drop_drop, List.drop_left]; rfl, List.take_left] at h
     obtain ⟨r', h1, h2⟩ := Option.map_eq_some_iff.1 h
     exact ⟨p, c', r', rfl, hp, hbp, h1, h2.symm⟩
 ·rintro ⟨p, c', r', rfl, hp, hb, hr, rfl⟩
  have hE := end_first (c := c') hp hm (beg_take hb).2
  unfold matchG
  rw [if_neg (by rw [beg_app hb]; exact Bool.noConfusion)]
  dsimp only
  rw [hE, if_neg ?_, show (p ++ m :: c').drop (p.length + 1) = c' by rw [← List.drop_drop, List.drop_left]; rfl, List.take_left, hr]
  ·rfl
  ·intro h
   rcases h with h | h
   ·rw [List.length_append, List.length_cons] at h; omega
   ·rw [List.getD_eq_getElem?_getD, List.getElem?_append_right (Nat.le_refl _), Nat.sub_self] at h
    exact h rfl
theorem parts_free : ∀ {s w : List Int}, freeD s → partsG w s = ([w ++ s], [])
 | [], w, _ => by rw [List.append_nil]; rfl
 | c :: s, w, h => by
  unfold partsG
  rw [if_neg (by rw [h c (List.mem_cons_self ..)]; exact Bool.noConfusion), parts_free (fun z hz => h z (List.mem_cons_of_mem _ hz)), List.append_assoc]
  rfl
theorem parts_first : ∀ {p w : List Int} {m : Int} {s : List Int}, freeD p → delC m = true → partsG w (p ++ m :: s) = ((w ++ p) :: (partsG [] s).1, m :: (partsG [] s).2)
 | [], w, m, s, _, hm => by
  rw [List.nil_append, List.append_nil, partsG, if_pos hm]
 | c :: p, w, m, s, h, hm => by
  rw [List.cons_append, partsG, if_neg (by rw [h c (List.mem_cons_self ..)]; exact Bool.noConfusion), parts_first (fun z hz => h z (List.mem_cons_of_mem _ hz)) hm, List.append_assoc]
  rfl
inductive GoodP : List (List Int) → List Int → Prop
 | one {w : List Int} (h : freeD w) : GoodP [w] []
 | cons {w : List Int} {m : Int} {ws : List (List Int)} {ms : List Int} (h : freeD w) (hm : delC m = true) (k : GoodP ws ms) : GoodP (w :: ws) (m :: ms)
theorem parts_good : ∀ (s w : List Int), freeD w → GoodP (partsG w s).1 (partsG w s).2
 | [], w, h => .one h
 | c :: s, w, h => by
  unfold partsG
  split
  ·next hc => exact .cons h hc (parts_good s [] free_nil)
  ·next hc => exact parts_good s (w ++ [c]) fun x hx => (List.mem_append.1 hx).elim (h x) fun hx => by rw [List.mem_singleton.1 hx]; exact Bool.eq_false_iff.2 hc
def preD (c : List Int) : List Int := c.takeWhile fun x => !delC x
def postD (c : List Int) : List Int := c.drop ((preD c).length + 1)
theorem pre_first {p c : List Int} {m : Int} (hp : freeD p) (hm : delC m = true) : preD (p ++ m :: c) = p := tw_free hp hm
theorem post_first {p c : List Int} {m : Int} (hp : freeD p) (hm : delC m = true) : postD (p ++ m :: c) = c := by
 unfold postD
 rw [pre_first hp hm, ← List.drop_drop, List.drop_left]
 rfl
def joinL (fold : Bool) : List Int → List (List Int) → List Int
 | [], cs => comC fold cs
 | m :: ms, cs => comC fold (cs.map preD) ++ m :: joinL fold ms (cs.map postD)
theorem com_iff {fold : Bool} {x : List Int} {xs : List (List Int)} {k : Nat} : k ≤ comN fold x xs ↔ k ≤ x.length ∧ ∀ y ∈ xs, keyC fold (x.take k) <+: keyC fold y := by
 unfold comN
 rw [foldl_min]
 constructor
 ·rintro ⟨h1, h2⟩
  exact ⟨h1, fun y hy => (lcp_iff.1 (h2 y hy)).2⟩
 ·rintro ⟨h1, h2⟩
  exact ⟨h1, fun y hy => lcp_iff.2 ⟨h1, h2 y hy⟩⟩
theorem com_beg {fold : Bool} : ∀ {cs : List (List Int)}, ∀ c ∈ cs, begC fold c (comC fold cs) = true
 | [], c, h => absurd h (List.not_mem_nil)
 | x :: xs, c, h => by
  have hc := com_iff.1 (Nat.le_refl (comN fold x xs))
  refine beg_iff.2 ?_
  rcases List.mem_cons.1 h with rfl | h
  ·show keyC fold (c.take _) <+: _
   unfold keyC
   rw [List.map_take]
   exact List.take_prefix ..
  ·exact hc.2 c h
theorem com_max {fold : Bool} {w : List Int} : ∀ {cs : List (List Int)}, cs ≠ [] → (∀ c ∈ cs, begC fold c w = true) → begC fold (comC fold cs) w = true
 | [], h, _ => absurd rfl h
 | x :: xs, _, h => by
  have h0 := beg_take (h x (List.mem_cons_self ..))
  have hle : w.length ≤ comN fold x xs := com_iff.2 ⟨h0.2, fun y hy => by rw [h0.1]; exact beg_iff.1 (h y (List.mem_cons_of_mem _ hy))⟩
  refine beg_iff.2 ?_
  show _ <+: keyC fold (x.take _)
  rw [← h0.1]
  unfold keyC
  rw [List.map_take, List.map_take]
  exact List.take_prefix_take_left hle
theorem com_free {fold : Bool} : ∀ {cs : List (List Int)}, (∀ c ∈ cs, freeD c) → freeD (comC fold cs)
 | [], _ => free_nil
 | x :: _, h => free_take (h x (List.mem_cons_self ..)) _
theorem beg_split {fold : Bool} {p z c : List Int} {m : Int} (hm : delC m = true) (h : begC fold c (p ++ m :: z) = true) : ∃ p' c', c = p' ++ m :: c' ∧ keyC fold p' = keyC fold p ∧ begC fold c' z = true := by
 obtain ⟨t, ht⟩ := beg_iff.1 h
 unfold keyC at ht
 rw [List.map_append, List.append_assoc] at ht
 obtain ⟨a, b, rfl, ha, hb⟩ := List.map_eq_append_iff.1 ht.symm
 rw [List.map_cons, List.cons_append] at hb
 obtain ⟨x, c', rfl, hx, hc⟩ := List.map_eq_cons_iff.1 hb
 obtain rfl := (key_del hx.symm).2 hm
 exact ⟨a, c', rfl, ha, beg_iff.2 ⟨t, hc.symm⟩⟩
theorem beg_match {fold : Bool} : ∀ (n : Nat) {z c : List Int}, z.length ≤ n → begC fold c z = true → (matchC fold c z).isSome = true := by
 intro n
 induction n with
 | zero =>
  intro z c hz h
  obtain rfl := List.eq_nil_of_length_eq_zero (Nat.le_zero.1 hz)
  exact Option.isSome_iff_exists.2 ⟨[c], match_one.2 ⟨h, rfl⟩⟩
 | succ n ih =>
  intro z c hz h
  unfold matchC partsC
  rcases first_del z with hf | ⟨p, m, z', rfl, hp, hm⟩
  ·rw [parts_free hf]
   exact Option.isSome_iff_exists.2 ⟨[c], match_one.2 ⟨h, rfl⟩⟩
  ·rw [parts_first hp hm]
   obtain ⟨p', c', rfl, hk, hb⟩ := beg_split hm h
   obtain ⟨r, hr⟩ := Option.isSome_iff_exists.1 (ih (z := z') (by rw [List.length_append, List.length_cons] at hz; omega) hb)
   exact Option.isSome_iff_exists.2 ⟨p' :: r, (match_two hp hm).2 ⟨p', c', r, rfl, free_key hk hp, beg_iff.2 (by rw [hk]; exact List.prefix_refl _), hr, rfl⟩⟩
theorem match_word {fold : Bool} {z c w : List Int} (hw : freeD w) (hz : begC fold z w = true) (h : (matchC fold c z).isSome = true) : begC fold c w = true := by
 obtain ⟨r, hr⟩ := Option.isSome_iff_exists.1 h
 unfold matchC partsC at hr
 rcases first_del z with hf | ⟨p, m, z', rfl, hp, hm⟩
 ·rw [parts_free hf] at hr
  exact beg_trans (match_one.1 hr).1 hz
 ·rw [parts_first hp hm] at hr
  obtain ⟨q, c', r', rfl, hq, hb, _, _⟩ := (match_two hp hm).1 hr
  exact beg_app (beg_trans hb (beg_head hm hw hz))
theorem com_same {fold : Bool} {p : List Int} : ∀ {cs : List (List Int)}, cs ≠ [] → cs.head? = some p → (∀ c ∈ cs, keyC fold c = keyC fold p) → comC fold cs = p
 | [], h, _, _ => absurd rfl h
 | x :: xs, _, h, k => by
  obtain rfl : x = p := Option.some.inj h
  have : x.length ≤ comN fold x xs := com_iff.2 ⟨Nat.le_refl _, fun y hy => by rw [List.take_length, k y (List.mem_cons_of_mem _ hy)]; exact List.prefix_refl _⟩
  show x.take _ = x
  exact List.take_of_length_le this
theorem com_zero {fold : Bool} {p z : List Int} {m : Int} (hm : delC m = true) (hp : freeD p) : ∀ {cs : List (List Int)}, comC fold cs = p ++ m :: z → comC fold (cs.map preD) = p ∧ comC fold (cs.map postD) = z
 | [], h => by
  have := congrArg List.length h
  rw [List.length_append, List.length_cons] at this
  exact absurd this.symm (by show _ ≠ 0; omega)
 | x :: xs, h => by
  have hall := com_beg (fold := fold) (cs := x :: xs)
  rw [h] at hall
  have hsp : ∀ c ∈ x :: xs, ∃ p' c', c = p' ++ m :: c' ∧ keyC fold p' = keyC fold p ∧ begC fold c' z = true := fun c hc => beg_split hm (hall c hc)
  have hkey : ∀ c ∈ x :: xs, keyC fold (preD c) = keyC fold p := fun c hc => by
   obtain ⟨p', c', rfl, hk, hb⟩ := hsp c hc
   rw [pre_first (free_key hk hp) hm, hk]
  -- the first begins so itself
  have hx : x.take (comN fold x xs) = p ++ m :: z := h
  obtain ⟨u, hu⟩ : ∃ u, x = p ++ m :: u ∧ z <+: u := by
   obtain ⟨t, ht⟩ : p ++ m :: z <+: x := by rw [← hx]; exact List.take_prefix ..
   exact ⟨z ++ t, by rw [← ht, List.append_assoc]; rfl, List.prefix_append ..⟩
  obtain ⟨rfl, hzu⟩ := hu
  have hN : comN fold (p ++ m :: u) xs = p.length + 1 + z.length := by
   have h1 := congrArg List.length hx
   have h2 := (com_iff.1 (Nat.le_refl (comN fold (p ++ m :: u) xs))).1
   rw [List.length_take] at h1
   rw [List.length_append, List.length_cons] at h1 h2
   rw [List.length_append, List.length_cons] at h1
   omega
  refine ⟨com_same (fun e => by cases e) ?_ ?_, ?_⟩
  ·show some (preD (p ++ m :: u)) = some p
   rw [pre_first hp hm]
  ·intro c hc
   obtain ⟨y, hy, rfl⟩ := List.mem_map.1 hc
   exact hkey y hy
  ·show comC fold (postD (p ++ m :: u) :: xs.map postD) = z
   rw [post_first hp hm]
   show u.take (comN fold u (xs.map postD)) = z
   have hle : ∀ k, p.length + 1 + k ≤ comN fold (p ++ m :: u) xs ↔ k ≤ comN fold u (xs.map postD) := by
    intro k
    rw [com_iff, com_iff, List.length_append, List.length_cons]
    refine and_congr (by omega) ⟨fun hk y hy => ?_, fun hk y hy => ?_⟩
    ·obtain ⟨c, hc, rfl⟩ := List.mem_map.1 hy
     obtain ⟨p', c', rfl, hk', hb⟩ := hsp c (List.mem_cons_of_mem _ hc)
     have := hk _ hc
     rw [post_first (free_key hk' hp) hm]
     rw [show p.length + 1 + k = p.length + (k + 1) by omega, List.take_length_add_append, List.take_succ_cons] at this
     unfold keyC at this hk'
     rw [List.map_append, List.map_append, List.map_cons, List.map_cons, hk', List.prefix_append_right_inj, List.cons_prefix_cons] at this
     exact this.2
    ·obtain ⟨p', c', rfl, hk', hb⟩ := hsp y (List.mem_cons_of_mem _ hy)
     have := hk _ (List.mem_map_of_mem hy)
     rw [post_first (free_key hk' hp) hm] at this
     rw [show p.length + 1 + k = p.length + (k + 1) by omega, List.take_length_add_append, List.take_succ_cons]
     unfold keyC at this hk' ⊢
     rw [List.map_append, List.map_append, List.map_cons, List.map_cons, hk', List.prefix_append_right_inj, List.cons_prefix_cons]
     exact ⟨rfl, this⟩
   have hcu : comN fold u (xs.map postD) = z.length := by
    have h1 := (hle z.length).1 (by omega)
    have h2 : ¬ z.length + 1 ≤ comN fold u (xs.map postD) := fun hh => by have := (hle (z.length + 1)).2 hh; omega
    omega
   rw [hcu]
   exact (List.prefix_iff_eq_take.1 hzu).symm
theorem com_again {fold : Bool} : ∀ (n : Nat) {z : List Int} {cs : List (List Int)}, z.length ≤ n → comC fold cs = z → joinL fold (partsC z).2 cs = z := by
 intro n
 induction n with
 | zero =>
  intro z cs hz h
  obtain rfl := List.eq_nil_of_length_eq_zero (Nat.le_zero.1 hz)
  exact h
 | succ n ih =>
  intro z cs hz h
  unfold partsC
  rcases first_del z with hf | ⟨p, m, z', rfl, hp, hm⟩
  ·rw [parts_free hf]
   exact h
  ·rw [parts_first hp hm]
   have h2 := com_zero hm hp h
   show comC fold (cs.map preD) ++ m :: joinL fold (partsG [] z').2 (cs.map postD) = _
   rw [h2.1]
   have := ih (z := z') (cs := cs.map postD) (by rw [List.length_append, List.length_cons] at hz; omega) h2.2
   unfold partsC at this
   rw [this]
theorem join_all {fold : Bool} {ws : List (List Int)} {ms : List Int} (hG : GoodP ws ms) : ∀ {cs : List (List Int)}, cs ≠ [] → (∀ c ∈ cs, (matchG fold c ws ms).isSome = true) →
  (∀ c ∈ cs, (matchC fold c (joinL fold ms cs)).isSome = true ∧ (joinL fold ms cs).length ≤ c.length) ∧ (∀ c, (matchC fold c (joinL fold ms cs)).isSome = true → (matchG fold c ws ms).isSome = true) ∧ joinL fold (partsC (joinL fold ms cs)).2 cs = joinL fold ms cs := by
 induction hG with
 | one hw =>
  rename_i w
  intro cs hne h
  have hb : ∀ c ∈ cs, begC fold c w = true := fun c hc => by
   obtain ⟨r, hr⟩ := Option.isSome_iff_exists.1 (h c hc)
   exact (match_one.1 hr).1
  show (∀ c ∈ cs, (matchC fold c (comC fold cs)).isSome = true ∧ (comC fold cs).length ≤ c.length) ∧ (∀ c, (matchC fold c (comC fold cs)).isSome = true → _) ∧ joinL fold (partsC (comC fold cs)).2 cs = comC fold cs
  refine ⟨fun c hc => ⟨beg_match _ (Nat.le_refl _) (com_beg c hc), (beg_take (com_beg (fold := fold) c hc)).2⟩, fun c hc => ?_, com_again _ (Nat.le_refl _) rfl⟩
  exact Option.isSome_iff_exists.2 ⟨[c], match_one.2 ⟨match_word hw (com_max hne hb) hc, rfl⟩⟩
 | cons hw hm _ ih =>
  rename_i w m ws ms _
  intro cs hne h
  have hsp : ∀ c ∈ cs, ∃ p c' r', c = p ++ m :: c' ∧ freeD p ∧ begC fold p w = true ∧ matchG fold c' ws ms = some r' := fun c hc => by
   obtain ⟨r, hr⟩ := Option.isSome_iff_exists.1 (h c hc)
   obtain ⟨p, c', r', h1, h2, h3, h4, _⟩ := (match_two hw hm).1 hr
   exact ⟨p, c', r', h1, h2, h3, h4⟩
  have hpre : ∀ p ∈ cs.map preD, freeD p ∧ begC fold p w = true := fun p hp => by
   obtain ⟨c, hc, rfl⟩ := List.mem_map.1 hp
   obtain ⟨p, c', r', rfl, h2, h3, _⟩ := hsp c hc
   rw [pre_first h2 hm]
   exact ⟨h2, h3⟩
  have hpost : ∀ c' ∈ cs.map postD, (matchG fold c' ws ms).isSome = true := fun c' hc => by
   obtain ⟨c, hcc, rfl⟩ := List.mem_map.1 hc
   obtain ⟨p, c', r', rfl, h2, _, h4⟩ := hsp c hcc
   rw [post_first h2 hm, h4]
   rfl
  have hne1 : cs.map preD ≠ [] := fun e => hne (List.map_eq_nil_iff.1 e)
  have hne2 : cs.map postD ≠ [] := fun e => hne (List.map_eq_nil_iff.1 e)
  obtain ⟨i1, i2, i3⟩ := ih hne2 hpost
  have hq : freeD (comC fold (cs.map preD)) := com_free fun p hp => (hpre p hp).1
  have hqw : begC fold (comC fold (cs.map preD)) w = true := com_max hne1 fun p hp => (hpre p hp).2
  show (∀ c ∈ cs, (matchC fold c (comC fold (cs.map preD) ++ m :: joinL fold ms (cs.map postD))).isSome = true ∧ (comC fold (cs.map preD) ++ m :: joinL fold ms (cs.map postD)).length ≤ c.length) ∧ (∀ c, (matchC fold c (comC fold (cs.map preD) ++ m :: joinL fold ms (cs.map postD))).isSome = true → _) ∧ joinL fold (partsC (comC fold (cs.map preD) ++ m :: joinL fold ms (cs.map postD))).2 cs = comC fold (cs.map preD) ++ m :: joinL fold ms (cs.map postD)
  generalize hz : joinL fold ms (cs.map postD) = z at i1 i2 i3 ⊢
  have hparts : partsC (comC fold (cs.map preD) ++ m :: z) = (comC fold (cs.map preD) :: (partsC z).1, m :: (partsC z).2) := by
   unfold partsC
   rw [parts_first hq hm]
   rfl
  have hmatch : ∀ c, matchC fold c (comC fold (cs.map preD) ++ m :: z) = matchG fold c (comC fold (cs.map preD) :: (partsC z).1) (m :: (partsC z).2) := fun c => by
   unfold matchC
   rw [hparts]
  refine ⟨fun c hc => ?_, fun c hc => ?_, ?_⟩
  ·obtain ⟨p, c', r', rfl, h2, h3, h4⟩ := hsp c hc
   have hm1 : p ∈ cs.map preD := List.mem_map.2 ⟨_, hc, pre_first h2 hm⟩
   have hm2 : c' ∈ cs.map postD := List.mem_map.2 ⟨_, hc, post_first h2 hm⟩
   have k := i1 c' hm2
   obtain ⟨r, hr⟩ := Option.isSome_iff_exists.1 k.1
   have hb := com_beg (fold := fold) p hm1
   refine ⟨?_, ?_⟩
   ·rw [hmatch]
    exact Option.isSome_iff_exists.2 ⟨p :: r, (match_two hq hm).2 ⟨p, c', r, rfl, h2, hb, hr, rfl⟩⟩
   ·have := (beg_take hb).2
    have := k.2
    rw [List.length_append, List.length_append, List.length_cons, List.length_cons]
    omega
  ·rw [hmatch] at hc
   obtain ⟨r, hr⟩ := Option.isSome_iff_exists.1 hc
   obtain ⟨p, c', r', rfl, h2, h3, h4, _⟩ := (match_two hq hm).1 hr
   obtain ⟨r2, hr2⟩ := Option.isSome_iff_exists.1 (i2 c' (by unfold matchC; rw [h4]; rfl))
   exact Option.isSome_iff_exists.2 ⟨p :: r2, (match_two hw hm).2 ⟨p, c', r2, rfl, h2, beg_trans h3 hqw, hr2, rfl⟩⟩
  ·rw [hparts]
   show comC fold (cs.map preD) ++ m :: joinL fold (partsC z).2 (cs.map postD) = _
   rw [i3]
def joinI (fold : Bool) (rs : List (List (List Int))) (ms : List Int) : Nat → Nat → List Int
 | 0, _ => []
 | n + 1, i => comC fold (rs.map fun r => r.getD i []) ++ (if i < ms.length then [ms.getD i 0] else []) ++ joinI fold rs ms n (i + 1)
theorem join_I {fold : Bool} {m : List (List UInt8)} {s : List UInt8} : ∀ n i, joinC fold m s n i = joinI fold (m.map fun c => (matchC fold (runes c) (runes s)).getD []) (partsC (runes s)).2 n i
 | 0, _ => rfl
 | n + 1, i => by
  unfold joinC joinI pieceC
  rw [join_I n (i + 1), List.map_map]
  rfl
theorem joinI_shift {fold : Bool} {rs : List (List (List Int))} {m : Int} {ms : List Int} : ∀ n i, joinI fold rs (m :: ms) n (i + 1) = joinI fold (rs.map List.tail) ms n i
 | 0, _ => rfl
 | n + 1, i => by
  unfold joinI
  rw [joinI_shift n (i + 1), List.map_map]
  have e : (fun r : List (List Int) => r.getD (i + 1) []) = (fun r => r.getD i []) ∘ List.tail := funext fun r => by cases r <;> simp
  rw [e, List.length_cons, List.getD_cons_succ]
  by_cases h : i < ms.length
  ·rw [if_pos h, if_pos (Nat.succ_lt_succ h)]
  ·rw [if_neg h, if_neg fun k => h (Nat.lt_of_succ_lt_succ k)]
theorem joinI_L {fold : Bool} {ws : List (List Int)} {ms : List Int} (hG : GoodP ws ms) : ∀ {cs : List (List Int)}, (∀ c ∈ cs, (matchG fold c ws ms).isSome = true) → joinI fold (cs.map fun c => (matchG fold c ws ms).getD []) ms ws.length 0 = joinL fold ms cs := by
 induction hG with
 | one hw =>
  rename_i w
  intro cs h
  show comC fold ((cs.map _).map _) ++ [] ++ [] = comC fold cs
  rw [List.append_nil, List.append_nil, List.map_map]
  congr 1
  refine (List.map_congr_left fun c hc => ?_).trans (List.map_id cs)
  obtain ⟨r, hr⟩ := Option.isSome_iff_exists.1 (h c hc)
  show ((matchG fold c [w] []).getD []).getD 0 [] = c
  rw [hr, (match_one.1 hr).2]
  rfl
 | cons hw hm _ ih =>
  rename_i w m ws ms _
  intro cs h
  have hsp : ∀ c ∈ cs, ∃ r', matchG fold c (w :: ws) (m :: ms) = some (preD c :: r') ∧ matchG fold (postD c) ws ms = some r' := fun c hc => by
   obtain ⟨r, hr⟩ := Option.isSome_iff_exists.1 (h c hc)
   obtain ⟨p, c', r', rfl, h2, h3, h4, h5⟩ := (match_two hw hm).1 hr
   rw [pre_first h2 hm, post_first h2 hm]
   exact ⟨r', by rw [hr, h5], h4⟩
  show comC fold ((cs.map _).map _) ++ [m] ++ joinI fold _ (m :: ms) ws.length 1 = comC fold (cs.map preD) ++ m :: joinL fold ms (cs.map postD)
  rw [joinI_shift, List.map_map, List.map_map, List.append_assoc]
  have e1 : cs.map ((fun r : List (List Int) => r.getD 0 []) ∘ fun c => (matchG fold c (w :: ws) (m :: ms)).getD []) = cs.map preD := List.map_congr_left fun c hc => by
   obtain ⟨r', h1, _⟩ := hsp c hc
   show ((matchG fold c (w :: ws) (m :: ms)).getD []).getD 0 [] = preD c
   rw [h1]
   rfl
  have e2 : cs.map (List.tail ∘ fun c => (matchG fold c (w :: ws) (m :: ms)).getD []) = (cs.map postD).map fun c => (matchG fold c ws ms).getD [] := by
   rw [List.map_map]
   refine List.map_congr_left fun c hc => ?_
   obtain ⟨r', h1, h2⟩ := hsp c hc
   show ((matchG fold c (w :: ws) (m :: ms)).getD []).tail = (matchG fold (postD c) ws ms).getD []
   rw [h1, h2]
   rfl
  rw [e1, e2, ih fun c hc => ?_]
  ·rfl
  ·obtain ⟨c0, h0, rfl⟩ := List.mem_map.1 hc
   obtain ⟨r', _, h2⟩ := hsp c0 h0
   rw [h2]
   rfl
theorem partC_valid2 {fold : Bool} {l : List (List UInt8)} {s : List UInt8} (h : partC fold l s ≠ []) : validD s = true := by
 cases hv : validD s with
 | true => rfl
 | false => exact absurd (by unfold partC; rw [hv]; rfl) h
theorem same_plain {fold : Bool} {l : List (List UInt8)} {s : List UInt8} (h : partC fold l s ≠ []) (h60 : ∀ x ∈ l, x.length ≤ 60) : (tryP fold l s).length ≤ 240 ∧ partC fold l (tryP fold l s) = partC fold l s ∧ tryP fold l (tryP fold l s) = tryP fold l s := by
 have hv := partC_valid2 h
 have hg := parts_good (runes s) [] free_nil
 have hms : ∀ c ∈ (partC fold l s).map runes, (matchG fold c (partsC (runes s)).1 (partsC (runes s)).2).isSome = true := fun c hc => by
  obtain ⟨x, hx, rfl⟩ := List.mem_map.1 hc
  exact (partC_good.1 x hx).2
 have hne : (partC fold l s).map runes ≠ [] := fun e => h (List.map_eq_nil_iff.1 e)
 have hjL := joinI_L hg hms
 obtain ⟨j1, j2, j3⟩ := join_all hg hne hms
 have hjc := join_chars (fold := fold) (l := l) (s := s)
 rw [join_I, show (partC fold l s).map (fun c => (matchC fold (runes c) (runes s)).getD []) = ((partC fold l s).map runes).map (fun c => (matchG fold c (partsG [] (runes s)).1 (partsG [] (runes s)).2).getD []) by rw [List.map_map]; rfl] at hjc
 have hjL' : joinI fold (((partC fold l s).map runes).map fun c => (matchG fold c (partsG [] (runes s)).1 (partsG [] (runes s)).2).getD []) (partsC (runes s)).2 (partsC (runes s)).1.length 0 = joinL fold (partsG [] (runes s)).2 ((partC fold l s).map runes) := hjL
 rw [hjL'] at hjc
 have ht : tryP fold l s = encA (joinL fold (partsG [] (runes s)).2 ((partC fold l s).map runes)) := by
  unfold tryP
  rw [if_neg h, join_I, show (partC fold l s).map (fun c => (matchC fold (runes c) (runes s)).getD []) = ((partC fold l s).map runes).map (fun c => (matchG fold c (partsG [] (runes s)).1 (partsG [] (runes s)).2).getD []) by rw [List.map_map]; rfl, hjL']
 generalize hz : joinL fold (partsG [] (runes s)).2 ((partC fold l s).map runes) = z at *
 obtain ⟨hvt, hrt⟩ := enc_back hjc
 have hp : partC fold l (tryP fold l s) = partC fold l s := by
  rw [ht]
  show (if validD (encA z) = true then _ else _) = (if validD s = true then _ else _)
  rw [if_pos hvt, if_pos hv, hrt]
  refine List.filter_congr fun c hc => ?_
  refine Bool.eq_iff_iff.2 ⟨fun hh => j2 _ hh, fun hh => ?_⟩
  refine (j1 (runes c) (List.mem_map_of_mem ?_)).1
  unfold partC
  rw [if_pos hv]
  exact List.mem_filter.2 ⟨hc, hh⟩
 refine ⟨?_, hp, ?_⟩
 ·obtain ⟨x, hx⟩ := List.exists_mem_of_ne_nil _ h
  have h1 := (j1 (runes x) (List.mem_map_of_mem hx)).2
  have h2 := runes_le x
  have h3 := h60 x (partC_good.1 x hx).1.2
  have h4 := encA_len z
  rw [ht]
  omega
 ·have hm2 : ∀ c ∈ (partC fold l s).map runes, (matchG fold c (partsG [] z).1 (partsG [] z).2).isSome = true := fun c hc => (j1 c hc).1
  have hjL2 := joinI_L (parts_good z [] free_nil) hm2
  have e : tryP fold l (tryP fold l s) = encA (joinC fold (partC fold l s) (tryP fold l s) (partsC (runes (tryP fold l s))).1.length 0) := by
   show (if partC fold l (tryP fold l s) = [] then _ else _) = _
   rw [hp, if_neg h]
  rw [e, join_I, ht, hrt, show (partC fold l s).map (fun c => (matchC fold (runes c) z).getD []) = ((partC fold l s).map runes).map (fun c => (matchG fold c (partsG [] z).1 (partsG [] z).2).getD []) by rw [List.map_map]; rfl]
  exact congrArg encA (hjL2.trans j3)
end Go.Proofs.YtjcmdifpkafdkaaDoor
namespace Go.Proofs.YtjcmdifpkafdkaaDoor
open Go.Lib
set_option maxRecDepth 100000
theorem status_z {fold : Bool} {m : List (List UInt8)} {s : List UInt8} : statusC fold m s = 0 ↔ m = [] := by
 unfold statusC
 constructor
 ·intro h
  split at h
  ·assumption
  ·split at h
   ·cases h
   ·split at h <;> cases h
 ·intro h
  rw [if_pos h]
set_option maxHeartbeats 16000000 in
theorem csame_law {G : Nat} {σ0 : Mem} {v1 : Value} {l : List (List UInt8)} {s : List UInt8} {fold : Bool} (hG : G ≤ σ0.next) (hno : σ0.abs = Abs.no) (h16 : 16 ≤ G) (hU : U8F σ0.get) (CK : ∀ σ', (∀ b y, σ0.get b = some y → σ'.get b = some y) → SCall G Tryd.prog 6 #[] σ' (.bool true) σ') (hl0 : l.length ≤ 9223372036854775807) (h1 : SlF σ0.get 1 v1 l.length (l.map strV)) :
  WC G Tryd.prog 7 #[v1, .string ⟨s.toArray⟩, .bool fold] σ0 fun v _ => v = .bool true := by
 have H := Lies.start hG hno
 generalize σ0.get = F0 at H h1 hU CK
 obtain ⟨F, hF⟩ : ∃ F, F = F0 := ⟨_, rfl⟩
 have le0 : Le F0 F := fun b y h => hF ▸ h
 rw [← hF] at H
 clear hF
 refine WC.enter (fn := Tryd.f7) Tryd.func7 rfl ?_
 refine W.rg [(0, v1), (1, .string ⟨s.toArray⟩), (2, .bool fold)] fun TA => ?_
 refine W.seq (W.region ?_)
 refine RW.v ?_
 refine RW.nil ?_
 refine W.rg [(0, v1), (1, .string ⟨s.toArray⟩), (2, .bool fold)] fun TA => ?_
 refine W.seq (W.region ?_)
 refine RW.cl ?_
 refine ⟨_, _, (CK _ fun b y h => H.old _ _ (le0 b y h)), ?_⟩
 refine RW.v ?_
 refine RW.nil ?_
 refine W.rg [(0, v1), (1, .string ⟨s.toArray⟩), (2, .bool fold), (7, .bool true)] fun TA => ?_
 refine W.seq ?_
 refine W.seq (W.region ?_)
 iterate 2 refine RW.v ?_
 refine RW.cl ?_
 refine ((light_wc (h1.le le0) hl0 H).mono ?_)
 clear H
 rintro _ _ ⟨lb, rfl, hlb, H⟩
 refine RW.v ?_
 refine RW.nil ?_
 refine W.rg [(0, v1), (1, .string ⟨s.toArray⟩), (2, .bool fold), (7, .bool true), (17, .bool (!lb))] fun TA => ?_
 refine W.cond rfl (fun hc1 => ?_) (fun hc1 => ?_)
 ·have hc1b := hc1
  refine W.seq (W.region ?_)
  iterate 2 refine RW.v ?_
  refine RW.nil ?_
  refine W.ret ?_
  refine seqQ_ret ?_
  refine endG (by rfl) (by exact resL_tmp rfl) ?_
  exact rfl
 ·have hc1b := hc1
  obtain ⟨hl40, hx60, hs60⟩ := hlb (by simpa using hc1b)
  have hl : l.length ≤ 1000000 := by omega
  have hsm : ∀ x ∈ l, x.length ≤ 1000000 := fun x hx => Nat.le_trans (hx60 x hx) (by decide)
  have hs : s.length ≤ 1000000 := by omega
  refine W.skip ?_
  refine W.seq (W.region ?_)
  iterate 3 refine RW.v ?_
  refine RW.cl ?_
  refine ((TryPartial_wc (fold := fold) (hU.le le0) h16 (h1.le le0) hl hx60 (Nat.le_trans hs60 (by decide)) H).mono ?_)
  clear H
  rintro _ _ ⟨rfl, H⟩
  obtain ⟨t, ht⟩ : ∃ t, t = tryP fold l s := ⟨_, rfl⟩
  obtain ⟨M, hM⟩ : ∃ M, M = partC fold l s := ⟨_, rfl⟩
  obtain ⟨n, hn⟩ : ∃ n, n = statusC fold M s := ⟨_, rfl⟩
  have hMl : M.length ≤ 1000000 := by rw [hM]; exact Nat.le_trans partC_len hl
  rw [← ht, ← hM, ← hn]
  iterate 5 refine RW.v ?_
  refine RW.nil ?_
  refine W.rg [(0, v1), (1, .string ⟨s.toArray⟩), (2, .bool fold), (7, .bool true), (8, .string ⟨t.toArray⟩), (9, .int .i64 n)] fun TA => ?_
  refine W.seq (W.region ?_)
  iterate 3 refine RW.v ?_
  refine RW.cl ?_
  refine ((Partial_wc (fold := fold) (hU.le le0) h16 (h1.le le0) hl hsm (Nat.le_trans hs60 (by decide)) H).mono ?_)
  clear H
  rintro u1 _ ⟨F, le, hu1, H⟩
  replace le0 := fun b y h => le b y (le0 b y h)
  rw [← hM] at hu1
  refine RW.v ?_
  refine RW.nil ?_
  refine W.rg [(0, v1), (2, .bool fold), (7, .bool true), (8, .string ⟨t.toArray⟩), (9, .int .i64 n), (10, u1)] fun TA => ?_
  refine W.seq ?_
  refine W.seq (W.region ?_)
  iterate 2 refine RW.v ?_
  refine RW.nil ?_
  refine W.rg [(0, v1), (2, .bool fold), (7, .bool true), (8, .string ⟨t.toArray⟩), (10, u1), (31, .bool (n == 0))] fun TA => ?_
  refine W.cond rfl (fun hc2 => ?_) (fun hc2 => ?_)
  ·have hc2b := hc2
   have hc2 := eq_of_beq hc2
   have hM0 : M = [] := status_z.1 (hn.symm.trans hc2)
   have ht0 : t = [] := by rw [ht]; unfold tryP; rw [← hM, if_pos hM0]
   have hMz : M.length = 0 := by rw [hM0]; rfl
   refine W.seq (W.region ?_)
   iterate 2 refine RW.v ?_
   refine RW.val (by rfl) (by kernel_rfl) rfl (by kernel_rfl) ?_
   refine RW.vop (v := .bool true) (by rfl) (by kernel_rfl) (vop_sEq rfl rfl rfl (by rw [ht0]; rfl)) (by kernel_rfl) ?_
   iterate 2 refine RW.v ?_
   refine RW.val (by rfl) (by kernel_rfl) rfl (by kernel_rfl) ?_
   refine RW.len (by rfl) (by kernel_rfl) rfl rfl rfl rfl (hu1.len (e := 9) (by kernel_rfl)) (by kernel_rfl) ?_
   refine RW.valE (v' := .bool true) (by rfl) (by kernel_rfl) rfl (congrArg Value.bool (beq_iff_eq.2 (by omega))) (by kernel_rfl) ?_
   iterate 2 refine RW.v ?_
   refine RW.nil ?_
   refine W.ret ?_
   refine seqQ_ret ?_
   refine endG (by rfl) (by exact resL_tmp rfl) ?_
   exact rfl
  ·have hc2b := hc2
   have hc2 := ne_of_beq_false hc2
   have hMn : M ≠ [] := fun e => hc2 (hn.trans (status_z.2 e))
   have hMp : 0 < M.length := List.length_pos_iff.2 hMn
   obtain ⟨h240, hP, hT⟩ := same_plain (fold := fold) (s := s) (by rw [← hM]; exact hMn) hx60
   rw [← ht] at h240 hP hT
   rw [← hM] at hP
   have htl : t.length ≤ 16000 := Nat.le_trans h240 (by decide)
   refine W.skip ?_
   refine W.seq (W.region ?_)
   iterate 3 refine RW.v ?_
   refine RW.cl ?_
   refine ((TryPartial_wc (fold := fold) (hU.le le0) h16 (h1.le le0) hl hx60 htl H).mono ?_)
   clear H
   rintro _ _ ⟨rfl, H⟩
   rw [hT, hP]
   obtain ⟨k, hk⟩ : ∃ k, k = statusC fold M t := ⟨_, rfl⟩
   rw [← hk]
   have hk0 : k ≠ 0 := fun e => hMn (status_z.1 (hk.symm.trans e))
   iterate 5 refine RW.v ?_
   refine RW.nil ?_
   refine W.rg [(0, v1), (2, .bool fold), (7, .bool true), (8, .string ⟨t.toArray⟩), (10, u1), (11, .string ⟨t.toArray⟩), (12, .int .i64 k)] fun TA => ?_
   refine W.seq (W.region ?_)
   iterate 2 refine RW.v ?_
   refine RW.val (by rfl) (by kernel_rfl) rfl (by kernel_rfl) ?_
   refine RW.len (by rfl) (by kernel_rfl) rfl rfl rfl rfl (hu1.len (e := 9) (by kernel_rfl)) (by kernel_rfl) ?_
   refine RW.valE (v' := .bool true) (by rfl) (by kernel_rfl) rfl (congrArg Value.bool (decide_eq_true (by omega))) (by kernel_rfl) ?_
   iterate 2 refine RW.v ?_
   refine RW.val (by rfl) (by kernel_rfl) rfl (by kernel_rfl) ?_
   refine RW.val (by rfl) (by kernel_rfl) rfl (by kernel_rfl) ?_
   refine RW.val (by rfl) (by kernel_rfl) rfl (by kernel_rfl) ?_
   refine RW.cl (hw := by rfl) ?_
   refine ((Partial_wc (fold := fold) (hU.le le0) h16 (h1.le le0) hl hsm htl H).mono ?_)
   clear H
   rintro u2 _ ⟨F, le, hu2, H⟩
   replace le0 := fun b y h => le b y (le0 b y h)
   replace hu1 := hu1.le le
   rw [hP] at hu2
   refine RW.val (by rfl) (by kernel_rfl) rfl (by kernel_rfl) ?_
   refine RW.cl (hw := by rfl) ?_
   refine ((same_wcS hu2 hu1 hMl H).mono ?_)
   clear H
   rintro _ _ ⟨rfl, H⟩
   rw [decide_eq_true (rfl : M = M)]
   iterate 2 refine RW.v ?_
   refine RW.val (by rfl) (by kernel_rfl) rfl (by kernel_rfl) ?_
   refine RW.val (by rfl) (by kernel_rfl) rfl (by kernel_rfl) ?_
   refine RW.vop (v := .bool true) (by rfl) (by kernel_rfl) (vop_sEq rfl rfl rfl (beq_self_eq_true _)) (by kernel_rfl) ?_
   iterate 2 refine RW.v ?_
   refine RW.val (by rfl) (by kernel_rfl) rfl (by kernel_rfl) ?_
   refine RW.valE (v' := .bool true) (by rfl) (by kernel_rfl) rfl (congrArg Value.bool (bne_iff_ne.2 (by exact hk0))) (by kernel_rfl) ?_
   iterate 2 refine RW.v ?_
   refine RW.nil ?_
   refine W.ret ?_
   refine endG (by rfl) (by exact resL_tmp rfl) ?_
   exact rfl
end Go.Proofs.YtjcmdifpkafdkaaDoor
