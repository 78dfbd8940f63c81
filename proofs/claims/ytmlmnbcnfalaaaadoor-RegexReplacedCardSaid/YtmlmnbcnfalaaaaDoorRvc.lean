/-
 A template filled. Conditions: none.
-/
import Derived.Test.YtmlmnbcnfalaaaaDoorN2
namespace Go.Proofs.YtmlmnbcnfalaaaaDoor
open Go.Lib
set_option maxRecDepth 100000
open Go.RowKit
theorem s_ptext {G : Nat} {σ : Mem} {F : Nat → Option Blk2} {v1 : Value} {xs : List Int} (ho : ∀ b y, F b = some y → σ.get b = some y) (h : SlF F 1 v1 xs.length (xs.map (Value.int .i64))) (hl : xs.length ≤ 65536) (hx : ∀ x ∈ xs, -9223372036854775808 ≤ x ∧ x ≤ 9223372036854775807) : SCall G Tryd.prog 52 #[v1] σ (.tuple #[.string ⟨(textOf xs).toArray⟩, .int .i64 (textE xs)]) σ :=
 read_call (rest := []) (h.le ho) (fun y hy => by obtain ⟨u, _, rfl⟩ := List.mem_map.1 hy; rfl) rfl rfl fun w a' ⟨A, c, e, _, hA⟩ => by
  subst e
  by_cases h0 : xs.length = 0
  ·obtain rfl := List.eq_nil_of_length_eq_zero h0
   refine (text_empty A c w).mono ?_
   rintro e w' ⟨rfl, rfl⟩
   exact ⟨rfl, Below.refl _ _⟩
  ·obtain ⟨B, off, rfl, hc⟩ := hA (by omega)
   refine text_walk B off c xs w (by omega) hl ?_ hx fun j y hj => hc j _ (by rw [List.getElem?_map, hj]; rfl)
   obtain ⟨x, hx⟩ : ∃ x, xs[0]? = some x := ⟨_, List.getElem?_eq_getElem (by omega)⟩
   have := hc 0 _ (by rw [List.getElem?_map, hx]; rfl)
   unfold World.cell? at this
   split at this
   ·rename_i h1
    exact (Array.getElem?_eq_some_iff.1 h1).1
   ·cases this
section
variable {t l o : List Int} {gs : List (Int × Int)} {Q : Option (List Int)} {i : Nat} {x y : Int}
theorem rep_id {q : Option (List Int)} : q.map ([] ++ ·) = q := by cases q <;> rfl
theorem rep_step1 (hi : i < l.length) (hx : x = l.getD i 0) (hT : Q = (repM t gs (l.drop i)).map (o ++ ·)) (h : x ≠ 92) : Q = (repM t gs (l.drop (i + 1))).map ((o ++ [x]) ++ ·) := by
 rw [hT, drop_x hi hx, rep_one h, Option.map_map]
 congr 1
 funext z
 show o ++ ([x] ++ z) = _
 rw [List.append_assoc]
theorem rep_step2 {p : List Int} (hi : i < l.length) (hi2 : i + 1 < l.length) (hx : x = l.getD i 0) (hy : y = l.getD (i + 1) 0) (hT : Q = (repM t gs (l.drop i)).map (o ++ ·)) (h : x = 92) (he : escM t gs y = some p) : Q = (repM t gs (l.drop (i + 1 + 1))).map ((o ++ p) ++ ·) := by
 rw [hT, drop_x hi hx, drop_x hi2 hy, h, rep_esc2, he]
 show ((repM t gs (l.drop (i + 1 + 1))).map (p ++ ·)).map (o ++ ·) = _
 rw [Option.map_map]
 congr 1
 funext z
 show o ++ (p ++ z) = _
 rw [List.append_assoc]
theorem rep_stopA (hi : i < l.length) (hx : x = l.getD i 0) (hT : Q = (repM t gs (l.drop i)).map (o ++ ·)) (h : x = 92) (he : l.length ≤ i + 1) : Q = none := by
 rw [hT, drop_x hi hx, List.drop_eq_nil_of_le he, h]
 rfl
theorem rep_stopB (hi : i < l.length) (hi2 : i + 1 < l.length) (hx : x = l.getD i 0) (hy : y = l.getD (i + 1) 0) (hT : Q = (repM t gs (l.drop i)).map (o ++ ·)) (h : x = 92) (he : escM t gs y = none) : Q = none := by
 rw [hT, drop_x hi hx, drop_x hi2 hy, h, rep_esc2, he]
 rfl
theorem esc92 (h : y = 92) : escM t gs y = some [92] := by unfold escM; rw [if_pos h]
theorem esc38 {p : List Int} (h : y ≠ 92) (h2 : y = 38) (hp : p = partM t gs 0) : escM t gs y = some p := by unfold escM; rw [if_neg h, if_pos h2, hp]
theorem escNum {p : List Int} (h : y ≠ 92) (h2 : y ≠ 38) (h3 : 49 ≤ y) (h4 : y ≤ 57) (hp : p = partM t gs (y - 48).toNat) : escM t gs y = some p := by unfold escM; rw [if_neg h, if_neg h2, if_pos ⟨h3, h4⟩, hp]
theorem esc_none (h : y ≠ 92) (h2 : y ≠ 38) (h3 : ¬(49 ≤ y ∧ y ≤ 57)) : escM t gs y = none := by unfold escM; rw [if_neg h, if_neg h2, if_neg h3]
theorem rep_chars {a s : List UInt8} (hQ : Q = repM t gs l) (hQo : Q = some o) (hl : l = runes a) (ht : t = runes s) (hva : validD a = true) (hvs : validD s = true) : ∀ c ∈ o, chB c = true := fun c hc => by
 rcases (rep_ok (hQ.symm.trans hQo)).1 c hc with rfl | h | h
 ·rfl
 ·rw [ht] at h; exact valid_ch hvs c h
 ·rw [hl] at h; exact valid_ch hva c h
theorem char_bnd {c : Int} (h : chB c = true) : -9223372036854775808 ≤ c ∧ c ≤ 9223372036854775807 := by
 have := chB_iff.1 h
 omega
theorem repl_val {a s x : List UInt8} {e : Int} (h : replM a s gs = (x, e)) : Value.tuple #[.string ⟨x.toArray⟩, .int .i64 e] = .tuple #[.string ⟨(replM a s gs).1.toArray⟩, .int .i64 (replM a s gs).2] := by rw [h]
theorem repl_no {a s : List UInt8} (h : ¬(validD a = true ∧ validD s = true)) : replM a s gs = ([], 5) := by unfold replM; rw [if_neg h]
theorem repl_yes {a s : List UInt8} (h1 : validD a = true) (h2 : validD s = true) (h : repM (runes s) gs (runes a) = some o) : replM a s gs = (encA o, 0) := by unfold replM; rw [if_pos ⟨h1, h2⟩, h]
theorem repl_none {a s : List UInt8} (h1 : validD a = true) (h2 : validD s = true) (h : repM (runes s) gs (runes a) = none) : replM a s gs = ([], 5) := by unfold replM; rw [if_pos ⟨h1, h2⟩, h]
end
set_option maxHeartbeats 8000000 in
theorem replace_wc {G : Nat} {A : Abs} {σ : Mem} {F : Nat → Option Blk2} {L : List Ent} {gv : Value} {gs : List (Int × Int)} {a s : List UInt8} (hU : U8F F) (h16 : 16 ≤ G) (hg : SlF F 2 gv gs.length (gC gs)) (ha4 : a.length ≤ 400) (hs2 : s.length ≤ 200) (H : Lies G A F σ L) : WC G Tryd.prog 33 #[.string ⟨a.toArray⟩, .string ⟨s.toArray⟩, gv] σ fun v σ' => v = .tuple #[.string ⟨(replM a s gs).1.toArray⟩, .int .i64 (replM a s gs).2] ∧ Lies G A F σ' L := by
 have ha : a.length ≤ 1000000 := by omega
 have hs : s.length ≤ 1000000 := by omega
 cases hva : validD a with
 | false =>
  cases hvs : validD s with
  | false =>
   obtain ⟨F0, hF⟩ : ∃ F0, F0 = F := ⟨_, rfl⟩
   have le0 : Le F0 F := fun b y h => hF ▸ h
   rw [← hF] at hg hU ⊢
   refine WC.enter (fn := Tryd.f33) Tryd.func33 rfl ?_
   refine W.rg [(0, .string ⟨a.toArray⟩), (1, .string ⟨s.toArray⟩), (2, gv)] fun TA => ?_
   refine W.seq (W.region ?_)
   refine RW.mk H (.row ⟨(gv).cells.toList, 32, false⟩) ?_
   clear H; intro _ b1 _ H
   rw [(slf_one (hg.le le0))] at H
   iterate 2 refine RW.v ?_
   refine RW.nil ?_
   refine W.rg [(0, .string ⟨a.toArray⟩), (1, .string ⟨s.toArray⟩), (5, .pointer (some ⟨b1, 0, none⟩))] fun TA => ?_
   refine W.seq (W.region ?_)
   refine RW.v ?_
   refine RW.cl ?_
   refine ((plistno_wc hva (hU.le le0) h16 ha H).mono ?_)
   clear H
   rintro _ _ ⟨rfl, H⟩
   iterate 5 refine RW.v ?_
   refine RW.nil ?_
   refine W.rg [(1, .string ⟨s.toArray⟩), (5, .pointer (some ⟨b1, 0, none⟩)), (8, .slice none 0 0), (9, .int .i64 5)] fun TA => ?_
   refine W.seq (W.region ?_)
   refine RW.v ?_
   refine RW.cl ?_
   refine ((plistno_wc hvs (hU.le le0) h16 hs H).mono ?_)
   clear H
   rintro _ _ ⟨rfl, H⟩
   iterate 3 refine RW.v ?_
   refine RW.mk H (.row ⟨[.slice none 0 0], 40, false⟩) ?_
   clear H; intro _ b2 _ H
   refine RW.st H 0 [.slice none 0 0] [.slice none 0 0] ?_
   clear H; intro _ _ H; dsimp only [setL, delL] at H
   refine RW.v ?_
   refine RW.nil ?_
   refine W.rg [(5, .pointer (some ⟨b1, 0, none⟩)), (8, .slice none 0 0), (9, .int .i64 5), (10, .pointer (some ⟨b2, 0, none⟩)), (11, .int .i64 5)] fun TA => ?_
   refine W.seq ?_
   refine W.seq (W.region ?_)
   iterate 3 refine RW.v ?_
   iterate 2 refine RW.s ?_
   refine RW.v ?_
   refine RW.nil ?_
   refine W.c1 ?_
   refine W.seq (W.region ?_)
   iterate 2 refine RW.v ?_
   refine RW.nil ?_
   replace H := ((H.del 1).del 0)
   dsimp only [setL, delL] at H
   refine W.ret ?_
   refine seqQ_ret ?_
   refine endG (by rfl) (by exact resL_tmp (by exact resL_tmp rfl)) ?_
   have er : replM a s gs = ([], 5) := repl_no (fun e => by have := e.1; rw [hva] at this; cases this)
   exact ⟨repl_val er, (H).back le0⟩
  | true =>
   obtain ⟨F0, hF⟩ : ∃ F0, F0 = F := ⟨_, rfl⟩
   have le0 : Le F0 F := fun b y h => hF ▸ h
   rw [← hF] at hg hU ⊢
   refine WC.enter (fn := Tryd.f33) Tryd.func33 rfl ?_
   refine W.rg [(0, .string ⟨a.toArray⟩), (1, .string ⟨s.toArray⟩), (2, gv)] fun TA => ?_
   refine W.seq (W.region ?_)
   refine RW.mk H (.row ⟨(gv).cells.toList, 32, false⟩) ?_
   clear H; intro _ b1 _ H
   rw [(slf_one (hg.le le0))] at H
   iterate 2 refine RW.v ?_
   refine RW.nil ?_
   refine W.rg [(0, .string ⟨a.toArray⟩), (1, .string ⟨s.toArray⟩), (5, .pointer (some ⟨b1, 0, none⟩))] fun TA => ?_
   refine W.seq (W.region ?_)
   refine RW.v ?_
   refine RW.cl ?_
   refine ((plistno_wc hva (hU.le le0) h16 ha H).mono ?_)
   clear H
   rintro _ _ ⟨rfl, H⟩
   iterate 5 refine RW.v ?_
   refine RW.nil ?_
   refine W.rg [(1, .string ⟨s.toArray⟩), (5, .pointer (some ⟨b1, 0, none⟩)), (8, .slice none 0 0), (9, .int .i64 5)] fun TA => ?_
   refine W.seq (W.region ?_)
   refine RW.v ?_
   refine RW.cl ?_
   refine ((plist_wc hvs (hU.le le0) h16 hs H).mono ?_)
   clear H
   rintro _ _ ⟨F, tv, le, rfl, htv, H⟩
   replace le0 := fun b y h => le b y (le0 b y h)
   clear le
   obtain ⟨t, ht⟩ : ∃ t, t = runes s := ⟨_, rfl⟩
   rw [← ht] at htv
   have htl : t.length ≤ 200 := by rw [ht]; exact Nat.le_trans (runes_le _) hs2
   iterate 3 refine RW.v ?_
   refine RW.mk H (.row ⟨[.slice none 0 0], 40, false⟩) ?_
   clear H; intro _ b2 _ H
   refine RW.stL H 0 (vs := [tv]) (cs' := [tv]) (by kernel_rfl) (by kernel_rfl) rfl rfl rfl (slf_one htv.slf) (slf_all htv.slf) (by kernel_rfl) (Nat.le_of_ble_eq_true rfl) rfl (by kernel_rfl) ?_
   clear H; intro _ _ H; dsimp only [setL, delL] at H
   refine RW.v ?_
   refine RW.nil ?_
   refine W.rg [(5, .pointer (some ⟨b1, 0, none⟩)), (8, .slice none 0 0), (9, .int .i64 5), (10, .pointer (some ⟨b2, 0, none⟩)), (11, .int .i64 0)] fun TA => ?_
   refine W.seq ?_
   refine W.seq (W.region ?_)
   iterate 3 refine RW.v ?_
   iterate 2 refine RW.s ?_
   refine RW.v ?_
   refine RW.nil ?_
   refine W.c1 ?_
   refine W.seq (W.region ?_)
   iterate 2 refine RW.v ?_
   refine RW.nil ?_
   replace H := ((H.del 1).del 0)
   dsimp only [setL, delL] at H
   refine W.ret ?_
   refine seqQ_ret ?_
   refine endG (by rfl) (by exact resL_tmp (by exact resL_tmp rfl)) ?_
   have er : replM a s gs = ([], 5) := repl_no (fun e => by have := e.1; rw [hva] at this; cases this)
   exact ⟨repl_val er, (H).back le0⟩
 | true =>
  cases hvs : validD s with
  | false =>
   obtain ⟨F0, hF⟩ : ∃ F0, F0 = F := ⟨_, rfl⟩
   have le0 : Le F0 F := fun b y h => hF ▸ h
   rw [← hF] at hg hU ⊢
   refine WC.enter (fn := Tryd.f33) Tryd.func33 rfl ?_
   refine W.rg [(0, .string ⟨a.toArray⟩), (1, .string ⟨s.toArray⟩), (2, gv)] fun TA => ?_
   refine W.seq (W.region ?_)
   refine RW.mk H (.row ⟨(gv).cells.toList, 32, false⟩) ?_
   clear H; intro _ b1 _ H
   rw [(slf_one (hg.le le0))] at H
   iterate 2 refine RW.v ?_
   refine RW.nil ?_
   refine W.rg [(0, .string ⟨a.toArray⟩), (1, .string ⟨s.toArray⟩), (5, .pointer (some ⟨b1, 0, none⟩))] fun TA => ?_
   refine W.seq (W.region ?_)
   refine RW.v ?_
   refine RW.cl ?_
   refine ((plist_wc hva (hU.le le0) h16 ha H).mono ?_)
   clear H
   rintro _ _ ⟨F, lv, le, rfl, hlv, H⟩
   replace le0 := fun b y h => le b y (le0 b y h)
   clear le
   obtain ⟨l, hl⟩ : ∃ l, l = runes a := ⟨_, rfl⟩
   rw [← hl] at hlv
   have hll : l.length ≤ 400 := by rw [hl]; exact Nat.le_trans (runes_le _) ha4
   iterate 5 refine RW.v ?_
   refine RW.nil ?_
   refine W.rg [(1, .string ⟨s.toArray⟩), (5, .pointer (some ⟨b1, 0, none⟩)), (8, lv), (9, .int .i64 0)] fun TA => ?_
   refine W.seq (W.region ?_)
   refine RW.v ?_
   refine RW.cl ?_
   refine ((plistno_wc hvs (hU.le le0) h16 hs H).mono ?_)
   clear H
   rintro _ _ ⟨rfl, H⟩
   iterate 3 refine RW.v ?_
   refine RW.mk H (.row ⟨[.slice none 0 0], 40, false⟩) ?_
   clear H; intro _ b2 _ H
   refine RW.st H 0 [.slice none 0 0] [.slice none 0 0] ?_
   clear H; intro _ _ H; dsimp only [setL, delL] at H
   refine RW.v ?_
   refine RW.nil ?_
   refine W.rg [(5, .pointer (some ⟨b1, 0, none⟩)), (8, lv), (9, .int .i64 0), (10, .pointer (some ⟨b2, 0, none⟩)), (11, .int .i64 5)] fun TA => ?_
   refine W.seq ?_
   refine W.seq (W.region ?_)
   iterate 3 refine RW.v ?_
   iterate 2 refine RW.w ?_
   refine RW.v ?_
   refine RW.nil ?_
   refine W.c1 ?_
   refine W.seq (W.region ?_)
   iterate 2 refine RW.v ?_
   refine RW.nil ?_
   replace H := ((H.del 1).del 0)
   dsimp only [setL, delL] at H
   refine W.ret ?_
   refine seqQ_ret ?_
   refine endG (by rfl) (by exact resL_tmp (by exact resL_tmp rfl)) ?_
   have er : replM a s gs = ([], 5) := repl_no (fun e => by have := e.2; rw [hvs] at this; cases this)
   exact ⟨repl_val er, (H).back le0⟩
  | true =>
   obtain ⟨F0, hF⟩ : ∃ F0, F0 = F := ⟨_, rfl⟩
   have le0 : Le F0 F := fun b y h => hF ▸ h
   rw [← hF] at hg hU ⊢
   refine WC.enter (fn := Tryd.f33) Tryd.func33 rfl ?_
   refine W.rg [(0, .string ⟨a.toArray⟩), (1, .string ⟨s.toArray⟩), (2, gv)] fun TA => ?_
   refine W.seq (W.region ?_)
   refine RW.mk H (.row ⟨(gv).cells.toList, 32, false⟩) ?_
   clear H; intro _ b1 _ H
   rw [(slf_one (hg.le le0))] at H
   iterate 2 refine RW.v ?_
   refine RW.nil ?_
   refine W.rg [(0, .string ⟨a.toArray⟩), (1, .string ⟨s.toArray⟩), (5, .pointer (some ⟨b1, 0, none⟩))] fun TA => ?_
   refine W.seq (W.region ?_)
   refine RW.v ?_
   refine RW.cl ?_
   refine ((plist_wc hva (hU.le le0) h16 ha H).mono ?_)
   clear H
   rintro _ _ ⟨F, lv, le, rfl, hlv, H⟩
   replace le0 := fun b y h => le b y (le0 b y h)
   clear le
   obtain ⟨l, hl⟩ : ∃ l, l = runes a := ⟨_, rfl⟩
   rw [← hl] at hlv
   have hll : l.length ≤ 400 := by rw [hl]; exact Nat.le_trans (runes_le _) ha4
   iterate 5 refine RW.v ?_
   refine RW.nil ?_
   refine W.rg [(1, .string ⟨s.toArray⟩), (5, .pointer (some ⟨b1, 0, none⟩)), (8, lv), (9, .int .i64 0)] fun TA => ?_
   refine W.seq (W.region ?_)
   refine RW.v ?_
   refine RW.cl ?_
   refine ((plist_wc hvs (hU.le le0) h16 hs H).mono ?_)
   clear H
   rintro _ _ ⟨F, tv, le, rfl, htv, H⟩
   replace le0 := fun b y h => le b y (le0 b y h)
   replace hlv := hlv.le le
   clear le
   obtain ⟨t, ht⟩ : ∃ t, t = runes s := ⟨_, rfl⟩
   rw [← ht] at htv
   have htl : t.length ≤ 200 := by rw [ht]; exact Nat.le_trans (runes_le _) hs2
   iterate 3 refine RW.v ?_
   refine RW.mk H (.row ⟨[.slice none 0 0], 40, false⟩) ?_
   clear H; intro _ b2 _ H
   refine RW.stL H 0 (vs := [tv]) (cs' := [tv]) (by kernel_rfl) (by kernel_rfl) rfl rfl rfl (slf_one htv.slf) (slf_all htv.slf) (by kernel_rfl) (Nat.le_of_ble_eq_true rfl) rfl (by kernel_rfl) ?_
   clear H; intro _ _ H; dsimp only [setL, delL] at H
   refine RW.v ?_
   refine RW.nil ?_
   refine W.rg [(5, .pointer (some ⟨b1, 0, none⟩)), (8, lv), (9, .int .i64 0), (10, .pointer (some ⟨b2, 0, none⟩)), (11, .int .i64 0)] fun TA => ?_
   refine W.seq ?_
   refine W.seq (W.region ?_)
   iterate 3 refine RW.v ?_
   iterate 2 refine RW.w ?_
   refine RW.v ?_
   refine RW.nil ?_
   refine W.c0 ?_
   refine W.skip ?_
   refine W.seq (W.region ?_)
   refine RW.val (v := .func (.func 50) #[] #[.pointer (some ⟨b1, 0, none⟩), .pointer (some ⟨b2, 0, none⟩)]) (by kernel_rfl) (by kernel_rfl) (by kernel_rfl) (by kernel_rfl) ?_
   refine RW.v ?_
   refine RW.nil ?_
   refine W.rg [(8, lv), (12, .func (.func 50) #[] #[.pointer (some ⟨b1, 0, none⟩), .pointer (some ⟨b2, 0, none⟩)])] fun TA => ?_
   refine W.seq (W.region ?_)
   refine RW.mk H (.row ⟨[.slice none 0 0], 40, false⟩) ?_
   clear H; intro _ b3 _ H
   refine RW.nil ?_
   refine W.rg [(8, lv), (12, .func (.func 50) #[] #[.pointer (some ⟨b1, 0, none⟩), .pointer (some ⟨b2, 0, none⟩)]), (13, .pointer (some ⟨b3, 0, none⟩))] fun TA => ?_
   refine W.seq (W.region ?_)
   refine RW.mk H (.row ⟨[.bool false], 4, false⟩) ?_
   clear H; intro _ b4 _ H
   refine RW.st H 0 [.bool false] [.bool false] ?_
   clear H; intro _ _ H; dsimp only [setL, delL] at H
   refine RW.nil ?_
   refine W.rg [(8, lv), (12, .func (.func 50) #[] #[.pointer (some ⟨b1, 0, none⟩), .pointer (some ⟨b2, 0, none⟩)]), (13, .pointer (some ⟨b3, 0, none⟩)), (14, .pointer (some ⟨b4, 0, none⟩))] fun TA => ?_
   refine W.seq (W.region ?_)
   refine RW.val (v := .func (.func 51) #[] #[.pointer (some ⟨b4, 0, none⟩), .pointer (some ⟨b3, 0, none⟩)]) (by kernel_rfl) (by kernel_rfl) (by kernel_rfl) (by kernel_rfl) ?_
   refine RW.v ?_
   refine RW.nil ?_
   refine W.rg [(8, lv), (12, .func (.func 50) #[] #[.pointer (some ⟨b1, 0, none⟩), .pointer (some ⟨b2, 0, none⟩)]), (13, .pointer (some ⟨b3, 0, none⟩)), (14, .pointer (some ⟨b4, 0, none⟩)), (15, .func (.func 51) #[] #[.pointer (some ⟨b4, 0, none⟩), .pointer (some ⟨b3, 0, none⟩)])] fun TA => ?_
   refine W.seq ?_
   refine W.seq (W.region ?_)
   refine RW.v ?_
   refine RW.nil ?_
   refine W.rg [(8, lv), (12, .func (.func 50) #[] #[.pointer (some ⟨b1, 0, none⟩), .pointer (some ⟨b2, 0, none⟩)]), (13, .pointer (some ⟨b3, 0, none⟩)), (14, .pointer (some ⟨b4, 0, none⟩)), (15, .func (.func 51) #[] #[.pointer (some ⟨b4, 0, none⟩), .pointer (some ⟨b3, 0, none⟩)]), (16, .int .i64 0)] fun TA => ?_
   refine W.block ?_
   replace H := H.nilSl 3 1
   obtain ⟨Q, hQ⟩ : ∃ Q, Q = repM t gs l := ⟨_, rfl⟩
   have hT0 : Q = (repM t gs (l.drop 0)).map ([] ++ ·) := by rw [hQ]; exact rep_id.symm
   refine W.loop (fun mm ta σ => ∃ (i : Nat) (o : List Int) (u : Value), (l.length ≤ mm + i) ∧ (i ≤ l.length) ∧ (Q = (repM t gs (l.drop i)).map (o ++ ·)) ∧ (2 * o.length ≤ i * 202) ∧ Lies G A F σ (.sl 3 1 u o.length (o.map (Value.int .i64)) :: .at_ b4 (.row ⟨[.bool false], 4, false⟩) :: .at_ b3 (.row ⟨[u], 40, false⟩) :: .at_ b2 (.row ⟨[tv], 40, false⟩) :: .at_ b1 (.row ⟨[gv], 32, false⟩) :: (L)) ∧ ta 8 = lv ∧ ta 12 = .func (.func 50) #[] #[.pointer (some ⟨b1, 0, none⟩), .pointer (some ⟨b2, 0, none⟩)] ∧ ta 13 = .pointer (some ⟨b3, 0, none⟩) ∧ ta 14 = .pointer (some ⟨b4, 0, none⟩) ∧ ta 15 = .func (.func 51) #[] #[.pointer (some ⟨b4, 0, none⟩), .pointer (some ⟨b3, 0, none⟩)] ∧ ta 16 = .int .i64 ((i : Nat) : Int)) l.length ?_ ?_
   ·exact ⟨0, [], .slice none 0 0, (by omega), (Nat.zero_le _), hT0, (Nat.le_refl _), H, rfl, rfl, rfl, rfl, rfl, rfl⟩
   clear H
   rintro mm ta _ ⟨i, o, u, hm, hil, hT, hol, H, e8, e12, e13, e14, e15, e16⟩
   refine W.rst [(8, lv), (12, .func (.func 50) #[] #[.pointer (some ⟨b1, 0, none⟩), .pointer (some ⟨b2, 0, none⟩)]), (13, .pointer (some ⟨b3, 0, none⟩)), (14, .pointer (some ⟨b4, 0, none⟩)), (15, .func (.func 51) #[] #[.pointer (some ⟨b4, 0, none⟩), .pointer (some ⟨b3, 0, none⟩)]), (16, .int .i64 ((i : Nat) : Int))] ⟨e8, e12, e13, e14, e15, e16, trivial⟩ fun TA => ?_
   clear e8 e12 e13 e14 e15 e16
   obtain ⟨x, hx⟩ : ∃ x, x = l.getD i 0 := ⟨_, rfl⟩
   obtain ⟨y, hy⟩ : ∃ y, y = l.getD (i + 1) 0 := ⟨_, rfl⟩
   refine W.seq ?_
   refine W.seq (W.region ?_)
   iterate 2 refine RW.v ?_
   refine RW.len (by kernel_rfl) (by kernel_rfl) rfl rfl rfl rfl (hlv.slf.len (e := 3) (by kernel_rfl)) (by kernel_rfl) ?_
   refine RW.v ?_
   refine RW.nil ?_
   refine W.rg [(8, lv), (12, .func (.func 50) #[] #[.pointer (some ⟨b1, 0, none⟩), .pointer (some ⟨b2, 0, none⟩)]), (13, .pointer (some ⟨b3, 0, none⟩)), (14, .pointer (some ⟨b4, 0, none⟩)), (15, .func (.func 51) #[] #[.pointer (some ⟨b4, 0, none⟩), .pointer (some ⟨b3, 0, none⟩)]), (16, .int .i64 ((i : Nat) : Int)), (39, .bool (decide (((i : Nat) : Int) < (l.length : Int))))] fun TA => ?_
   refine W.cond rfl (fun hc5 => ?_) (fun hc5 => ?_)
   ·have hc5b := hc5
    have hc5 := of_decide_eq_true hc5
    have hir : i < l.length := by omega
    refine W.skip ?_
    refine W.seq ?_
    refine W.block ?_
    refine W.seq (W.region ?_)
    iterate 2 refine RW.v ?_
    refine RW.idxF hlv.slf (by kernel_rfl) (by kernel_rfl) rfl Tryd.underlying40 (by kernel_rfl) rfl rfl ⟨by omega, by omega⟩ (by kernel_rfl) ?_
    intro b6 q7 r8 hF9 hE10
    rw [intz_x (l := l) (j := i) (i := ((i : Nat) : Int)) hx (by omega) (by omega)] at hE10
    refine RW.loads 1 (by kernel_rfl) (by kernel_rfl) rfl rfl (H.old _ _ hF9) hE10 rfl (by kernel_rfl) ?_
    refine RW.v ?_
    refine RW.nil ?_
    refine W.rg [(8, lv), (12, .func (.func 50) #[] #[.pointer (some ⟨b1, 0, none⟩), .pointer (some ⟨b2, 0, none⟩)]), (13, .pointer (some ⟨b3, 0, none⟩)), (14, .pointer (some ⟨b4, 0, none⟩)), (15, .func (.func 51) #[] #[.pointer (some ⟨b4, 0, none⟩), .pointer (some ⟨b3, 0, none⟩)]), (16, .int .i64 ((i : Nat) : Int)), (17, .int .i64 x)] fun TA => ?_
    refine W.seq ?_
    refine W.seq (W.region ?_)
    iterate 2 refine RW.v ?_
    refine RW.nil ?_
    refine W.rg [(8, lv), (12, .func (.func 50) #[] #[.pointer (some ⟨b1, 0, none⟩), .pointer (some ⟨b2, 0, none⟩)]), (13, .pointer (some ⟨b3, 0, none⟩)), (14, .pointer (some ⟨b4, 0, none⟩)), (15, .func (.func 51) #[] #[.pointer (some ⟨b4, 0, none⟩), .pointer (some ⟨b3, 0, none⟩)]), (16, .int .i64 ((i : Nat) : Int)), (17, .int .i64 x), (47, .bool (x != 92))] fun TA => ?_
    refine W.cond rfl (fun hc11 => ?_) (fun hc11 => ?_)
    ·have hc11b := hc11
     have hc11 := bne_iff_ne.1 hc11
     have hx92 := hc11
     refine W.seq (W.region ?_)
     iterate 2 refine RW.v ?_
     refine RW.mkL H (x := .row ⟨[.int .i64 x], 3, false⟩) (fm := fun b => .slice (some ⟨b, 0, none⟩) 1 1) (by kernel_rfl) (by kernel_rfl) (by kernel_rfl) (by kernel_rfl) ?_
     clear H; intro _ b12 _ H
     refine RW.cl ?_
     refine WC.enter (fn := Tryd.f51) Tryd.func51 rfl ?_
     refine W.rg [(0, .slice (some ⟨b12, 0, none⟩) 1 1), (1, .pointer (some ⟨b4, 0, none⟩)), (2, .pointer (some ⟨b3, 0, none⟩))] fun TA => ?_
     refine W.seq (W.region ?_)
     refine RW.ld H 2 1 ?_
     refine RW.v ?_
     refine RW.ldL H 3 1 (by rfl) (by kernel_rfl) rfl rfl rfl rfl rfl (by kernel_rfl) ?_
     refine RW.len (by rfl) (by kernel_rfl) rfl rfl rfl rfl ((H.sl 1 rfl).len (by kernel_rfl)) (by kernel_rfl) ?_
     iterate 2 refine RW.w ?_
     refine RW.valE (v' := .int .i64 (((o.length + 1) : Nat) : Int)) (by rfl) (by kernel_rfl) rfl (congrArg (Value.int .i64) ((wrap_in (by omega) (by omega)).trans (by omega))) (by kernel_rfl) ?_
     refine RW.valE (v' := .bool false) (by rfl) (by kernel_rfl) rfl (congrArg Value.bool (decide_eq_false (by omega))) (by kernel_rfl) ?_
     refine RW.v ?_
     refine RW.st H 2 [.bool false] [.bool false] ?_
     clear H; intro _ _ H; dsimp only [setL, delL] at H
     refine RW.nil ?_
     refine W.rg [(0, .slice (some ⟨b12, 0, none⟩) 1 1), (1, .pointer (some ⟨b4, 0, none⟩)), (2, .pointer (some ⟨b3, 0, none⟩))] fun TA => ?_
     refine W.seq (W.region ?_)
     refine RW.ld H 2 1 ?_
     refine RW.v ?_
     refine RW.nil ?_
     refine W.c1 ?_
     refine W.region ?_
     refine RW.ld H 3 1 ?_
     refine RW.v ?_
     refine RW.appL H 1 0 (n := 1) (e2 := 3) (by kernel_rfl) (by kernel_rfl) rfl rfl rfl rfl rfl rfl rfl rfl (by kernel_rfl) (by kernel_rfl) (by kernel_rfl) (by decide) (by decide) rfl rfl (by omega) (by kernel_rfl) ?_
     clear H; intro _ v13 _ H
     dsimp only [setL, delL] at H
     rw [ints_snoc, show o.length + 1 = (o ++ [x]).length by rw [List.length_append]; rfl] at H
     refine RW.stL H 2 (vs := [v13]) (cs' := [v13]) (by kernel_rfl) (by kernel_rfl) rfl rfl rfl (H.sl 0 rfl).one (gr_all (H.sl 0 rfl)) (by kernel_rfl) (Nat.le_of_ble_eq_true rfl) rfl (by kernel_rfl) ?_
     clear H; intro _ _ H; dsimp only [setL, delL] at H
     refine RW.nil ?_
     refine endG (by rfl) (by exact rfl) ?_
     refine RW.nil ?_
     refine W.rg [(8, lv), (12, .func (.func 50) #[] #[.pointer (some ⟨b1, 0, none⟩), .pointer (some ⟨b2, 0, none⟩)]), (13, .pointer (some ⟨b3, 0, none⟩)), (14, .pointer (some ⟨b4, 0, none⟩)), (15, .func (.func 51) #[] #[.pointer (some ⟨b4, 0, none⟩), .pointer (some ⟨b3, 0, none⟩)]), (16, .int .i64 ((i : Nat) : Int))] fun TA => ?_
     refine W.exit _ ?_
     refine seqQ_exit ?_
     refine blkQ_here ?_
     refine W.region ?_
     refine RW.v ?_
     refine RW.valE (v' := .int .i64 (((i + 1) : Nat) : Int)) (by kernel_rfl) (by kernel_rfl) rfl (congrArg (Value.int .i64) ((wrap_in (by omega) (by omega)).trans (by omega))) (by kernel_rfl) ?_
     refine RW.v ?_
     refine RW.nil ?_
     exact ⟨rfl, mm - 1, by omega, i + 1, o ++ [x], v13, (by omega), (by omega), (rep_step1 hir hx hT hx92), (by rw [List.length_append, List.length_singleton]; omega), H, rfl, rfl, rfl, rfl, rfl, rfl⟩
    ·have hc11b := hc11
     have hc11 := (bne_eq_false_iff_eq.1) hc11
     have hx92 := hc11
     refine W.skip ?_
     refine W.seq (W.region ?_)
     refine RW.v ?_
     refine RW.valE (v' := .int .i64 (((i + 1) : Nat) : Int)) (by kernel_rfl) (by kernel_rfl) rfl (congrArg (Value.int .i64) ((wrap_in (by omega) (by omega)).trans (by omega))) (by kernel_rfl) ?_
     refine RW.v ?_
     refine RW.nil ?_
     refine W.rg [(8, lv), (12, .func (.func 50) #[] #[.pointer (some ⟨b1, 0, none⟩), .pointer (some ⟨b2, 0, none⟩)]), (13, .pointer (some ⟨b3, 0, none⟩)), (14, .pointer (some ⟨b4, 0, none⟩)), (15, .func (.func 51) #[] #[.pointer (some ⟨b4, 0, none⟩), .pointer (some ⟨b3, 0, none⟩)]), (16, .int .i64 (((i + 1) : Nat) : Int))] fun TA => ?_
     refine W.block ?_
     refine W.seq (W.region ?_)
     iterate 2 refine RW.v ?_
     refine RW.len (by kernel_rfl) (by kernel_rfl) rfl rfl rfl rfl (hlv.slf.len (e := 3) (by kernel_rfl)) (by kernel_rfl) ?_
     iterate 2 refine RW.v ?_
     refine RW.both _ _ rfl rfl rfl (fun hc14 => ?_) (fun hc14 => ?_)
     ·have hc14b := hc14
      have hc14 := of_decide_eq_true hc14
      have hir2 : i + 1 < l.length := by omega
      iterate 2 refine RW.w ?_
      refine RW.idxF hlv.slf (by rfl) (by kernel_rfl) rfl Tryd.underlying40 (by kernel_rfl) rfl rfl ⟨by omega, by omega⟩ (by kernel_rfl) ?_
      intro b15 q16 r17 hF18 hE19
      rw [intz_x (l := l) (j := (i + 1)) (i := (((i + 1) : Nat) : Int)) hy (by omega) (by omega)] at hE19
      refine RW.loads 1 (by rfl) (by kernel_rfl) rfl rfl (H.old _ _ hF18) hE19 rfl (by kernel_rfl) ?_
      refine RW.w ?_
      iterate 2 refine RW.v ?_
      refine RW.nil ?_
      refine W.rg [(8, lv), (12, .func (.func 50) #[] #[.pointer (some ⟨b1, 0, none⟩), .pointer (some ⟨b2, 0, none⟩)]), (13, .pointer (some ⟨b3, 0, none⟩)), (14, .pointer (some ⟨b4, 0, none⟩)), (15, .func (.func 51) #[] #[.pointer (some ⟨b4, 0, none⟩), .pointer (some ⟨b3, 0, none⟩)]), (16, .int .i64 (((i + 1) : Nat) : Int)), (54, .bool (y == 92))] fun TA => ?_
      refine W.cond rfl (fun hc20 => ?_) (fun hc20 => ?_)
      ·have hc20b := hc20
       have hc20 := eq_of_beq hc20
       refine W.region ?_
       refine RW.v ?_
       refine RW.mkL H (x := .row ⟨[.int .i64 92], 3, false⟩) (fm := fun b => .slice (some ⟨b, 0, none⟩) 1 1) (by kernel_rfl) (by kernel_rfl) (by kernel_rfl) (by kernel_rfl) ?_
       clear H; intro _ b21 _ H
       refine RW.cl ?_
       refine WC.enter (fn := Tryd.f51) Tryd.func51 rfl ?_
       refine W.rg [(0, .slice (some ⟨b21, 0, none⟩) 1 1), (1, .pointer (some ⟨b4, 0, none⟩)), (2, .pointer (some ⟨b3, 0, none⟩))] fun TA => ?_
       refine W.seq (W.region ?_)
       refine RW.ld H 2 1 ?_
       refine RW.v ?_
       refine RW.ldL H 3 1 (by rfl) (by kernel_rfl) rfl rfl rfl rfl rfl (by kernel_rfl) ?_
       refine RW.len (by rfl) (by kernel_rfl) rfl rfl rfl rfl ((H.sl 1 rfl).len (by kernel_rfl)) (by kernel_rfl) ?_
       iterate 2 refine RW.w ?_
       refine RW.valE (v' := .int .i64 (((o.length + 1) : Nat) : Int)) (by rfl) (by kernel_rfl) rfl (congrArg (Value.int .i64) ((wrap_in (by omega) (by omega)).trans (by omega))) (by kernel_rfl) ?_
       refine RW.valE (v' := .bool false) (by rfl) (by kernel_rfl) rfl (congrArg Value.bool (decide_eq_false (by omega))) (by kernel_rfl) ?_
       refine RW.v ?_
       refine RW.st H 2 [.bool false] [.bool false] ?_
       clear H; intro _ _ H; dsimp only [setL, delL] at H
       refine RW.nil ?_
       refine W.rg [(0, .slice (some ⟨b21, 0, none⟩) 1 1), (1, .pointer (some ⟨b4, 0, none⟩)), (2, .pointer (some ⟨b3, 0, none⟩))] fun TA => ?_
       refine W.seq (W.region ?_)
       refine RW.ld H 2 1 ?_
       refine RW.v ?_
       refine RW.nil ?_
       refine W.c1 ?_
       refine W.region ?_
       refine RW.ld H 3 1 ?_
       refine RW.v ?_
       refine RW.appL H 1 0 (n := 1) (e2 := 3) (by kernel_rfl) (by kernel_rfl) rfl rfl rfl rfl rfl rfl rfl rfl (by kernel_rfl) (by kernel_rfl) (by kernel_rfl) (by decide) (by decide) rfl rfl (by omega) (by kernel_rfl) ?_
       clear H; intro _ v22 _ H
       dsimp only [setL, delL] at H
       rw [ints_snoc, show o.length + 1 = (o ++ [92]).length by rw [List.length_append]; rfl] at H
       refine RW.stL H 2 (vs := [v22]) (cs' := [v22]) (by kernel_rfl) (by kernel_rfl) rfl rfl rfl (H.sl 0 rfl).one (gr_all (H.sl 0 rfl)) (by kernel_rfl) (Nat.le_of_ble_eq_true rfl) rfl (by kernel_rfl) ?_
       clear H; intro _ _ H; dsimp only [setL, delL] at H
       refine RW.nil ?_
       refine endG (by rfl) (by exact rfl) ?_
       refine RW.nil ?_
       refine blkQ_normal ?_
       refine blkQ_normal ?_
       refine W.rg [(8, lv), (12, .func (.func 50) #[] #[.pointer (some ⟨b1, 0, none⟩), .pointer (some ⟨b2, 0, none⟩)]), (13, .pointer (some ⟨b3, 0, none⟩)), (14, .pointer (some ⟨b4, 0, none⟩)), (15, .func (.func 51) #[] #[.pointer (some ⟨b4, 0, none⟩), .pointer (some ⟨b3, 0, none⟩)]), (16, .int .i64 (((i + 1) : Nat) : Int))] fun TA => ?_
       refine W.region ?_
       refine RW.v ?_
       refine RW.valE (v' := .int .i64 ((((i + 1) + 1) : Nat) : Int)) (by kernel_rfl) (by kernel_rfl) rfl (congrArg (Value.int .i64) ((wrap_in (by omega) (by omega)).trans (by omega))) (by kernel_rfl) ?_
       refine RW.v ?_
       refine RW.nil ?_
       exact ⟨rfl, mm - 2, by omega, i + 1 + 1, o ++ [92], v22, (by omega), (by omega), (rep_step2 hir hir2 hx hy hT hx92 (esc92 hc20)), (by rw [List.length_append]; simp only [List.length_singleton]; omega), H, rfl, rfl, rfl, rfl, rfl, rfl⟩
      ·have hc20b := hc20
       have hc20 := ne_of_beq_false hc20
       refine W.seq (W.region ?_)
       iterate 2 refine RW.v ?_
       refine RW.len (by kernel_rfl) (by kernel_rfl) rfl rfl rfl rfl (hlv.slf.len (e := 3) (by kernel_rfl)) (by kernel_rfl) ?_
       refine RW.valE (v' := .bool true) (by kernel_rfl) (by kernel_rfl) rfl (congrArg Value.bool (decide_eq_true (by omega))) (by kernel_rfl) ?_
       refine RW.v ?_
       iterate 2 refine RW.w ?_
       refine RW.idxF hlv.slf (by rfl) (by kernel_rfl) rfl Tryd.underlying40 (by kernel_rfl) rfl rfl ⟨by omega, by omega⟩ (by kernel_rfl) ?_
       intro b23 q24 r25 hF26 hE27
       rw [intz_x (l := l) (j := (i + 1)) (i := (((i + 1) : Nat) : Int)) hy (by omega) (by omega)] at hE27
       refine RW.loads 1 (by rfl) (by kernel_rfl) rfl rfl (H.old _ _ hF26) hE27 rfl (by kernel_rfl) ?_
       refine RW.w ?_
       iterate 2 refine RW.v ?_
       refine RW.nil ?_
       refine W.rg [(8, lv), (12, .func (.func 50) #[] #[.pointer (some ⟨b1, 0, none⟩), .pointer (some ⟨b2, 0, none⟩)]), (13, .pointer (some ⟨b3, 0, none⟩)), (14, .pointer (some ⟨b4, 0, none⟩)), (15, .func (.func 51) #[] #[.pointer (some ⟨b4, 0, none⟩), .pointer (some ⟨b3, 0, none⟩)]), (16, .int .i64 (((i + 1) : Nat) : Int)), (69, .bool (y == 38))] fun TA => ?_
       refine W.cond rfl (fun hc28 => ?_) (fun hc28 => ?_)
       ·have hc28b := hc28
        have hc28 := eq_of_beq hc28
        refine W.region ?_
        iterate 2 refine RW.v ?_
        replace H := H.front 3 rfl
        dsimp only [setL, delL] at H
        replace H := H.front 4 rfl
        dsimp only [setL, delL] at H
        refine RW.cl ?_
        refine ((part_wc (k := 0) (hg.le le0) htv (by omega) H).mono ?_)
        clear H
        rintro pv _ ⟨hp, H⟩
        obtain ⟨p, hpd⟩ : ∃ p, p = partM t gs 0 := ⟨_, rfl⟩
        rw [← hpd] at hp
        have hpl : p.length ≤ t.length := by rw [hpd]; exact part_len _
        refine RW.cl ?_
        refine WC.enter (fn := Tryd.f51) Tryd.func51 rfl ?_
        refine W.rg [(0, pv), (1, .pointer (some ⟨b4, 0, none⟩)), (2, .pointer (some ⟨b3, 0, none⟩))] fun TA => ?_
        refine W.seq (W.region ?_)
        refine RW.ld H 3 1 ?_
        refine RW.v ?_
        refine RW.ldL H 4 1 (by rfl) (by kernel_rfl) rfl rfl rfl rfl rfl (by kernel_rfl) ?_
        refine RW.len (by rfl) (by kernel_rfl) rfl rfl rfl rfl ((H.sl 2 rfl).len (by kernel_rfl)) (by kernel_rfl) ?_
        refine RW.w ?_
        refine RW.len (by rfl) (by kernel_rfl) rfl rfl rfl rfl (hp.len (e := 3) (by kernel_rfl)) (by kernel_rfl) ?_
        refine RW.valE (v' := .int .i64 (((o.length + p.length) : Nat) : Int)) (by rfl) (by kernel_rfl) rfl (congrArg (Value.int .i64) ((wrap_in (by omega) (by omega)).trans (by omega))) (by kernel_rfl) ?_
        refine RW.valE (v' := .bool false) (by rfl) (by kernel_rfl) rfl (congrArg Value.bool (decide_eq_false (by omega))) (by kernel_rfl) ?_
        refine RW.v ?_
        refine RW.st H 3 [.bool false] [.bool false] ?_
        clear H; intro _ _ H; dsimp only [setL, delL] at H
        refine RW.nil ?_
        refine W.rg [(0, pv), (1, .pointer (some ⟨b4, 0, none⟩)), (2, .pointer (some ⟨b3, 0, none⟩))] fun TA => ?_
        refine W.seq (W.region ?_)
        refine RW.ld H 3 1 ?_
        refine RW.v ?_
        refine RW.nil ?_
        refine W.c1 ?_
        refine W.region ?_
        refine RW.ld H 4 1 ?_
        refine RW.v ?_
        refine RW.appF H 2 (e2 := 3) hp (by kernel_rfl) (by kernel_rfl) rfl rfl rfl rfl rfl rfl rfl (by kernel_rfl) (by kernel_rfl) (by kernel_rfl) (by decide) (intz_ones _) (by omega) (by kernel_rfl) ?_
        clear H; intro _ v29 _ H
        dsimp only [setL, delL] at H
        rw [← List.map_append, ← List.length_append] at H
        refine RW.stL H 4 (vs := [v29]) (cs' := [v29]) (by kernel_rfl) (by kernel_rfl) rfl rfl rfl (H.sl 2 rfl).one (gr_all (H.sl 2 rfl)) (by kernel_rfl) (Nat.le_of_ble_eq_true rfl) rfl (by kernel_rfl) ?_
        clear H; intro _ _ H; dsimp only [setL, delL] at H
        refine RW.nil ?_
        refine endG (by rfl) (by exact rfl) ?_
        refine RW.nil ?_
        refine blkQ_normal ?_
        refine blkQ_normal ?_
        refine W.rg [(8, lv), (12, .func (.func 50) #[] #[.pointer (some ⟨b1, 0, none⟩), .pointer (some ⟨b2, 0, none⟩)]), (13, .pointer (some ⟨b3, 0, none⟩)), (14, .pointer (some ⟨b4, 0, none⟩)), (15, .func (.func 51) #[] #[.pointer (some ⟨b4, 0, none⟩), .pointer (some ⟨b3, 0, none⟩)]), (16, .int .i64 (((i + 1) : Nat) : Int))] fun TA => ?_
        refine W.region ?_
        refine RW.v ?_
        refine RW.valE (v' := .int .i64 ((((i + 1) + 1) : Nat) : Int)) (by kernel_rfl) (by kernel_rfl) rfl (congrArg (Value.int .i64) ((wrap_in (by omega) (by omega)).trans (by omega))) (by kernel_rfl) ?_
        refine RW.v ?_
        refine RW.nil ?_
        replace H := H.front 1 rfl
        dsimp only [delL] at H
        replace H := H.front 4 rfl
        dsimp only [delL] at H
        replace H := H.front 4 rfl
        dsimp only [delL] at H
        replace H := H.front 4 rfl
        dsimp only [delL] at H
        exact ⟨rfl, mm - 2, by omega, i + 1 + 1, o ++ p, v29, (by omega), (by omega), (rep_step2 hir hir2 hx hy hT hx92 (esc38 hc20 hc28 hpd)), (by rw [List.length_append]; skip; omega), H, rfl, rfl, rfl, rfl, rfl, rfl⟩
       ·have hc28b := hc28
        have hc28 := ne_of_beq_false hc28
        refine W.seq (W.region ?_)
        iterate 2 refine RW.v ?_
        refine RW.len (by kernel_rfl) (by kernel_rfl) rfl rfl rfl rfl (hlv.slf.len (e := 3) (by kernel_rfl)) (by kernel_rfl) ?_
        refine RW.valE (v' := .bool true) (by kernel_rfl) (by kernel_rfl) rfl (congrArg Value.bool (decide_eq_true (by omega))) (by kernel_rfl) ?_
        refine RW.v ?_
        iterate 2 refine RW.w ?_
        refine RW.idxF hlv.slf (by rfl) (by kernel_rfl) rfl Tryd.underlying40 (by kernel_rfl) rfl rfl ⟨by omega, by omega⟩ (by kernel_rfl) ?_
        intro b30 q31 r32 hF33 hE34
        rw [intz_x (l := l) (j := (i + 1)) (i := (((i + 1) : Nat) : Int)) hy (by omega) (by omega)] at hE34
        refine RW.loads 1 (by rfl) (by kernel_rfl) rfl rfl (H.old _ _ hF33) hE34 rfl (by kernel_rfl) ?_
        refine RW.w ?_
        iterate 2 refine RW.v ?_
        refine RW.both _ _ rfl rfl rfl (fun hc35 => ?_) (fun hc35 => ?_)
        ·have hc35b := hc35
         have hc35 := of_decide_eq_true hc35
         iterate 2 refine RW.w ?_
         refine RW.idxF hlv.slf (by rfl) (by kernel_rfl) rfl Tryd.underlying40 (by kernel_rfl) rfl rfl ⟨by omega, by omega⟩ (by kernel_rfl) ?_
         intro b36 q37 r38 hF39 hE40
         rw [intz_x (l := l) (j := (i + 1)) (i := (((i + 1) : Nat) : Int)) hy (by omega) (by omega)] at hE40
         refine RW.loads 1 (by rfl) (by kernel_rfl) rfl rfl (H.old _ _ hF39) hE40 rfl (by kernel_rfl) ?_
         refine RW.w ?_
         iterate 2 refine RW.v ?_
         refine RW.nil ?_
         refine W.rg [(8, lv), (12, .func (.func 50) #[] #[.pointer (some ⟨b1, 0, none⟩), .pointer (some ⟨b2, 0, none⟩)]), (13, .pointer (some ⟨b3, 0, none⟩)), (14, .pointer (some ⟨b4, 0, none⟩)), (15, .func (.func 51) #[] #[.pointer (some ⟨b4, 0, none⟩), .pointer (some ⟨b3, 0, none⟩)]), (16, .int .i64 (((i + 1) : Nat) : Int)), (85, .bool (decide (y ≤ 57)))] fun TA => ?_
         refine W.cond rfl (fun hc41 => ?_) (fun hc41 => ?_)
         ·have hc41b := hc41
          have hc41 := of_decide_eq_true hc41
          refine W.region ?_
          iterate 4 refine RW.v ?_
          refine RW.idxF hlv.slf (by kernel_rfl) (by kernel_rfl) rfl Tryd.underlying40 (by kernel_rfl) rfl rfl ⟨by omega, by omega⟩ (by kernel_rfl) ?_
          intro b42 q43 r44 hF45 hE46
          rw [intz_x (l := l) (j := (i + 1)) (i := (((i + 1) : Nat) : Int)) hy (by omega) (by omega)] at hE46
          refine RW.loads 1 (by kernel_rfl) (by kernel_rfl) rfl rfl (H.old _ _ hF45) hE46 rfl (by kernel_rfl) ?_
          refine RW.valE (v' := .int .i64 (((y - 48).toNat : Nat) : Int)) (by kernel_rfl) (by kernel_rfl) rfl (congrArg (Value.int .i64) ((wrap_in (by omega) (by omega)).trans (by omega))) (by kernel_rfl) ?_
          replace H := H.front 3 rfl
          dsimp only [setL, delL] at H
          replace H := H.front 4 rfl
          dsimp only [setL, delL] at H
          refine RW.cl ?_
          refine ((part_wc (k := (y - 48).toNat) (hg.le le0) htv (by omega) H).mono ?_)
          clear H
          rintro pv _ ⟨hp, H⟩
          obtain ⟨p, hpd⟩ : ∃ p, p = partM t gs (y - 48).toNat := ⟨_, rfl⟩
          rw [← hpd] at hp
          have hpl : p.length ≤ t.length := by rw [hpd]; exact part_len _
          refine RW.cl ?_
          refine WC.enter (fn := Tryd.f51) Tryd.func51 rfl ?_
          refine W.rg [(0, pv), (1, .pointer (some ⟨b4, 0, none⟩)), (2, .pointer (some ⟨b3, 0, none⟩))] fun TA => ?_
          refine W.seq (W.region ?_)
          refine RW.ld H 3 1 ?_
          refine RW.v ?_
          refine RW.ldL H 4 1 (by rfl) (by kernel_rfl) rfl rfl rfl rfl rfl (by kernel_rfl) ?_
          refine RW.len (by rfl) (by kernel_rfl) rfl rfl rfl rfl ((H.sl 2 rfl).len (by kernel_rfl)) (by kernel_rfl) ?_
          refine RW.w ?_
          refine RW.len (by rfl) (by kernel_rfl) rfl rfl rfl rfl (hp.len (e := 3) (by kernel_rfl)) (by kernel_rfl) ?_
          refine RW.valE (v' := .int .i64 (((o.length + p.length) : Nat) : Int)) (by rfl) (by kernel_rfl) rfl (congrArg (Value.int .i64) ((wrap_in (by omega) (by omega)).trans (by omega))) (by kernel_rfl) ?_
          refine RW.valE (v' := .bool false) (by rfl) (by kernel_rfl) rfl (congrArg Value.bool (decide_eq_false (by omega))) (by kernel_rfl) ?_
          refine RW.v ?_
          refine RW.st H 3 [.bool false] [.bool false] ?_
          clear H; intro _ _ H; dsimp only [setL, delL] at H
          refine RW.nil ?_
          refine W.rg [(0, pv), (1, .pointer (some ⟨b4, 0, none⟩)), (2, .pointer (some ⟨b3, 0, none⟩))] fun TA => ?_
          refine W.seq (W.region ?_)
          refine RW.ld H 3 1 ?_
          refine RW.v ?_
          refine RW.nil ?_
          refine W.c1 ?_
          refine W.region ?_
          refine RW.ld H 4 1 ?_
          refine RW.v ?_
          refine RW.appF H 2 (e2 := 3) hp (by kernel_rfl) (by kernel_rfl) rfl rfl rfl rfl rfl rfl rfl (by kernel_rfl) (by kernel_rfl) (by kernel_rfl) (by decide) (intz_ones _) (by omega) (by kernel_rfl) ?_
          clear H; intro _ v47 _ H
          dsimp only [setL, delL] at H
          rw [← List.map_append, ← List.length_append] at H
          refine RW.stL H 4 (vs := [v47]) (cs' := [v47]) (by kernel_rfl) (by kernel_rfl) rfl rfl rfl (H.sl 2 rfl).one (gr_all (H.sl 2 rfl)) (by kernel_rfl) (Nat.le_of_ble_eq_true rfl) rfl (by kernel_rfl) ?_
          clear H; intro _ _ H; dsimp only [setL, delL] at H
          refine RW.nil ?_
          refine endG (by rfl) (by exact rfl) ?_
          refine RW.nil ?_
          refine blkQ_normal ?_
          refine blkQ_normal ?_
          refine W.rg [(8, lv), (12, .func (.func 50) #[] #[.pointer (some ⟨b1, 0, none⟩), .pointer (some ⟨b2, 0, none⟩)]), (13, .pointer (some ⟨b3, 0, none⟩)), (14, .pointer (some ⟨b4, 0, none⟩)), (15, .func (.func 51) #[] #[.pointer (some ⟨b4, 0, none⟩), .pointer (some ⟨b3, 0, none⟩)]), (16, .int .i64 (((i + 1) : Nat) : Int))] fun TA => ?_
          refine W.region ?_
          refine RW.v ?_
          refine RW.valE (v' := .int .i64 ((((i + 1) + 1) : Nat) : Int)) (by kernel_rfl) (by kernel_rfl) rfl (congrArg (Value.int .i64) ((wrap_in (by omega) (by omega)).trans (by omega))) (by kernel_rfl) ?_
          refine RW.v ?_
          refine RW.nil ?_
          replace H := H.front 1 rfl
          dsimp only [delL] at H
          replace H := H.front 4 rfl
          dsimp only [delL] at H
          replace H := H.front 4 rfl
          dsimp only [delL] at H
          replace H := H.front 4 rfl
          dsimp only [delL] at H
          exact ⟨rfl, mm - 2, by omega, i + 1 + 1, o ++ p, v47, (by omega), (by omega), (rep_step2 hir hir2 hx hy hT hx92 (escNum hc20 hc28 (by omega) (by omega) hpd)), (by rw [List.length_append]; skip; omega), H, rfl, rfl, rfl, rfl, rfl, rfl⟩
         ·have hc41b := hc41
          have hc41 := of_decide_eq_false hc41
          refine W.seq (W.region ?_)
          iterate 2 refine RW.v ?_
          refine RW.nil ?_
          replace H := (((((H.del 4).del 3).del 2).del 1).del 0)
          dsimp only [setL, delL] at H
          refine W.ret ?_
          refine blkQ_ret ?_
          refine blkQ_ret ?_
          refine seqQ_ret ?_
          refine rndQ_ret ?_
          refine blkQ_ret ?_
          refine seqQ_ret ?_
          refine endG (by rfl) (by exact resL_tmp (by exact resL_tmp rfl)) ?_
          have er : replM a s gs = ([], 5) := repl_none hva hvs (by rw [← ht, ← hl, ← hQ, rep_stopB hir hir2 hx hy hT hx92 (esc_none hc20 hc28 (by omega))])
          exact ⟨repl_val er, (H).back le0⟩
        ·have hc35b := hc35
         have hc35 := of_decide_eq_false hc35
         iterate 5 refine RW.s ?_
         iterate 2 refine RW.v ?_
         refine RW.nil ?_
         refine W.c0 ?_
         refine W.seq (W.region ?_)
         iterate 2 refine RW.v ?_
         refine RW.nil ?_
         replace H := (((((H.del 4).del 3).del 2).del 1).del 0)
         dsimp only [setL, delL] at H
         refine W.ret ?_
         refine blkQ_ret ?_
         refine blkQ_ret ?_
         refine seqQ_ret ?_
         refine rndQ_ret ?_
         refine blkQ_ret ?_
         refine seqQ_ret ?_
         refine endG (by rfl) (by exact resL_tmp (by exact resL_tmp rfl)) ?_
         have er : replM a s gs = ([], 5) := repl_none hva hvs (by rw [← ht, ← hl, ← hQ, rep_stopB hir hir2 hx hy hT hx92 (esc_none hc20 hc28 (by omega))])
         exact ⟨repl_val er, (H).back le0⟩
     ·have hc14b := hc14
      have hc14 := of_decide_eq_false hc14
      iterate 5 refine RW.s ?_
      iterate 2 refine RW.v ?_
      refine RW.nil ?_
      refine W.c0 ?_
      refine W.seq (W.region ?_)
      iterate 2 refine RW.v ?_
      refine RW.len (by kernel_rfl) (by kernel_rfl) rfl rfl rfl rfl (hlv.slf.len (e := 3) (by kernel_rfl)) (by kernel_rfl) ?_
      refine RW.valE (v' := .bool false) (by kernel_rfl) (by kernel_rfl) rfl (congrArg Value.bool (decide_eq_false (by omega))) (by kernel_rfl) ?_
      refine RW.v ?_
      iterate 5 refine RW.s ?_
      iterate 2 refine RW.v ?_
      refine RW.nil ?_
      refine W.c0 ?_
      refine W.seq (W.region ?_)
      iterate 2 refine RW.v ?_
      refine RW.len (by kernel_rfl) (by kernel_rfl) rfl rfl rfl rfl (hlv.slf.len (e := 3) (by kernel_rfl)) (by kernel_rfl) ?_
      refine RW.valE (v' := .bool false) (by kernel_rfl) (by kernel_rfl) rfl (congrArg Value.bool (decide_eq_false (by omega))) (by kernel_rfl) ?_
      refine RW.v ?_
      iterate 5 refine RW.s ?_
      iterate 2 refine RW.v ?_
      iterate 5 refine RW.s ?_
      iterate 2 refine RW.v ?_
      refine RW.nil ?_
      refine W.c0 ?_
      refine W.seq (W.region ?_)
      iterate 2 refine RW.v ?_
      refine RW.nil ?_
      replace H := (((((H.del 4).del 3).del 2).del 1).del 0)
      dsimp only [setL, delL] at H
      refine W.ret ?_
      refine blkQ_ret ?_
      refine blkQ_ret ?_
      refine seqQ_ret ?_
      refine rndQ_ret ?_
      refine blkQ_ret ?_
      refine seqQ_ret ?_
      refine endG (by rfl) (by exact resL_tmp (by exact resL_tmp rfl)) ?_
      have er : replM a s gs = ([], 5) := repl_none hva hvs (by rw [← ht, ← hl, ← hQ, rep_stopA hir hx hT hx92 (by omega)])
      exact ⟨repl_val er, (H).back le0⟩
   ·have hc5b := hc5
    have hc5 := of_decide_eq_false hc5
    refine W.exit _ ?_
    refine seqQ_exit ?_
    refine rndQ_exit ?_
    have hQo : Q = some o := by rw [hT, List.drop_eq_nil_of_le (by omega)]; exact congrArg some (List.append_nil o)
    refine blkQ_here ?_
    refine W.seq ?_
    refine W.seq (W.region ?_)
    refine RW.ld H 1 1 ?_
    refine RW.nil ?_
    replace H := (((H.del 4).del 3).del 1)
    dsimp only [setL, delL] at H
    refine W.c0 ?_
    refine W.skip ?_
    refine W.seq (W.region ?_)
    refine RW.ld H 1 1 ?_
    obtain ⟨F, le, hS, H⟩ := H.freezeSl 0 rfl
    dsimp only [setL, delL] at H
    replace le0 := fun b y h => le b y (le0 b y h)
    have hoc := rep_chars hQ hQo hl ht hva hvs
    refine RW.cl ?_
    refine ⟨_, _, (s_ptext H.old hS (by omega) (fun c h => char_bnd (hoc c h))), ?_⟩
    iterate 4 refine RW.v ?_
    refine RW.nil ?_
    replace H := (H.del 0)
    dsimp only [setL, delL] at H
    refine W.ret ?_
    refine endG (by rfl) (by exact resL_tmp (by exact resL_tmp rfl)) ?_
    have er : replM a s gs = (textOf o, textE o) := by rw [(text_yes (allCh_iff.2 hoc)).1, (text_yes (allCh_iff.2 hoc)).2]; exact repl_yes hva hvs (by rw [← ht, ← hl, ← hQ, hQo])
    exact ⟨repl_val er, (H).back le0⟩
end Go.Proofs.YtmlmnbcnfalaaaaDoor
