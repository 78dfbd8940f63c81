/-
 Parse. Conditions: none.
-/
import Derived.Test.YthemeeiedlbhkaaDoorNeh
namespace Go.Proofs.YthemeeiedlbhkaaDoor
open Go.Lib
set_option maxRecDepth 100000
set_option maxHeartbeats 8000000 in
theorem parse_wc {G : Nat} {A : Abs} {σ : Mem} {F : Nat → Option Blk2} {L : List Ent} {s : List UInt8} (hU : U8F F) (h16 : 16 ≤ G) (h64 : 64 ≤ G) (hs : s.length ≤ 1000000) (H : Lies G A F σ L) : WC G Tryd.prog 7 #[.string ⟨s.toArray⟩] σ fun v σ' => ∃ F' u, Le F F' ∧ v = .tuple #[.agg #[.bool (parseM s).1.w, .bool (parseM s).1.e, .bool (parseM s).1.h, u], .agg #[.int .i64 (parseM s).2.1, .int .i64 (parseM s).2.2]] ∧ SlF F' 2 u (parseM s).1.n.length (needC (parseM s).1.n) ∧ Lies G A F' σ' L := by
 cases hv : validD s with
 | false =>
  refine WC.enterD (fn := Tryd.f7) Tryd.func7 rfl ?_
  refine W.rg [(0, .string ⟨s.toArray⟩)] fun TA => ?_
  refine W.seq (W.region ?_)
  refine RW.mk H (.row ⟨[.bool false, .bool false, .bool false, .slice none 0 0], 24, false⟩) ?_
  clear H; intro _ b1 _ H
  refine RW.mk H (.row ⟨[.int .i64 0, .int .i64 0], 33, false⟩) ?_
  clear H; intro _ b2 _ H
  refine RW.nil ?_
  refine W.rg [(0, .string ⟨s.toArray⟩), (2, .pointer (some ⟨b1, 0, none⟩)), (3, .pointer (some ⟨b2, 0, none⟩))] fun TA => ?_
  refine W.seq ?_
  refine W.seq (W.region ?_)
  refine RW.v ?_
  have sv := s_valid (G := G) (bs := s) (hU.le (fun b y h => H.old _ _ h)) h16 hs
  rw [hv] at sv
  refine RW.cl ?_
  refine ⟨_, _, sv, ?_⟩
  clear sv
  refine RW.v ?_
  refine RW.nil ?_
  refine W.c1 ?_
  refine W.seq (W.region ?_)
  refine RW.val (v := .agg #[.bool false, .bool false, .bool false, .slice none 0 0]) (by kernel_rfl) (by kernel_rfl) (by kernel_rfl) (by kernel_rfl) ?_
  refine RW.val (v := .agg #[.int .i64 5, .int .i64 0]) (by kernel_rfl) (by kernel_rfl) (by kernel_rfl) (by kernel_rfl) ?_
  refine RW.st H 1 [.bool false, .bool false, .bool false, .slice none 0 0] [.bool false, .bool false, .bool false, .slice none 0 0] ?_
  clear H; intro _ _ H; dsimp only [setL, delL] at H
  refine RW.st H 0 [.int .i64 5, .int .i64 0] [.int .i64 5, .int .i64 0] ?_
  clear H; intro _ _ H; dsimp only [setL, delL] at H
  refine RW.nil ?_
  refine W.ret ?_
  refine seqQ_ret ?_
  refine endGD0 (by rfl) (by exact resL_cell rfl (H.get 1 rfl) (by rw [uT_eq]; exact Tryd.underlying24) (by kernel_rfl) rfl rfl (by exact resL_cell rfl (H.get 0 rfl) (by rw [uT_eq]; exact Tryd.underlying33) (by kernel_rfl) rfl rfl rfl)) ?_
  rw [parse_bad hv]
  exact ⟨F, _, fun _ _ h => h, rfl, .nil _ rfl, ((H.del 1).del 0)⟩
 | true =>
  obtain ⟨F0, hF⟩ : ∃ F0, F0 = F := ⟨_, rfl⟩
  rw [← hF] at hU ⊢
  replace H : Lies G A F0 σ L := hF ▸ H
  clear hF
  obtain ⟨R, hR⟩ : ∃ R, R = restR s := ⟨_, rfl⟩
  obtain ⟨FL, hFL⟩ : ∃ FL, FL = flagsR s := ⟨_, rfl⟩
  have hsl : s.length = FL.length + (encA R).length := by rw [hR, hFL]; exact rest_len hv
  have htk : s.take (s.length - (encA R).length) = encA FL := by rw [show s.length - (encA R).length = FL.length by omega, hFL]; exact flags_take hv
  have hf1 : (encA FL).length = FL.length := by rw [hFL]; exact flags_one hv
  have hRc : ∀ x ∈ R, chB x = true := by rw [hR]; exact rest_ch hv
  have hRl : R.length ≤ (encA R).length := enc_ge R
  obtain ⟨T, hTd⟩ : ∃ T, T = needsG (restR s).length ((flagsR s).length : Int) (restR s) := ⟨_, rfl⟩
  have hT0 : T = ([] ++ (needsG R.length ((FL.length : Nat) : Int) R).1, (needsG R.length ((FL.length : Nat) : Int) R).2) := by rw [hR, hFL]; exact hTd
  refine WC.enterD (fn := Tryd.f7) Tryd.func7 rfl ?_
  refine W.rg [(0, .string ⟨s.toArray⟩)] fun TA => ?_
  refine W.seq (W.region ?_)
  refine RW.mk H (.row ⟨[.bool false, .bool false, .bool false, .slice none 0 0], 24, false⟩) ?_
  clear H; intro _ b1 _ H
  refine RW.mk H (.row ⟨[.int .i64 0, .int .i64 0], 33, false⟩) ?_
  clear H; intro _ b2 _ H
  refine RW.nil ?_
  refine W.rg [(0, .string ⟨s.toArray⟩), (2, .pointer (some ⟨b1, 0, none⟩)), (3, .pointer (some ⟨b2, 0, none⟩))] fun TA => ?_
  refine W.seq ?_
  refine W.seq (W.region ?_)
  refine RW.v ?_
  have sv := s_valid (G := G) (bs := s) (hU.le (fun b y h => H.old _ _ h)) h16 hs
  rw [hv] at sv
  refine RW.cl ?_
  refine ⟨_, _, sv, ?_⟩
  clear sv
  refine RW.v ?_
  refine RW.nil ?_
  refine W.c0 ?_
  refine W.skip ?_
  refine W.seq (W.region ?_)
  refine RW.mk H (.row ⟨[.bool false, .bool false, .bool false, .slice none 0 0], 24, false⟩) ?_
  clear H; intro _ b3 _ H
  refine RW.nil ?_
  refine W.rg [(0, .string ⟨s.toArray⟩), (2, .pointer (some ⟨b1, 0, none⟩)), (3, .pointer (some ⟨b2, 0, none⟩)), (4, .pointer (some ⟨b3, 0, none⟩))] fun TA => ?_
  refine W.seq (W.region ?_)
  refine RW.v ?_
  refine RW.cl ?_
  refine ⟨_, _, (s_trimR hv hR), ?_⟩
  refine RW.v ?_
  refine RW.nil ?_
  refine W.rg [(0, .string ⟨s.toArray⟩), (2, .pointer (some ⟨b1, 0, none⟩)), (3, .pointer (some ⟨b2, 0, none⟩)), (4, .pointer (some ⟨b3, 0, none⟩)), (5, .string ⟨(encA R).toArray⟩)] fun TA => ?_
  refine W.seq (W.region ?_)
  iterate 2 refine RW.v ?_
  refine RW.vop (v := .int .i64 (s.length : Int)) (by kernel_rfl) (by kernel_rfl) (vop_sLenL rfl rfl rfl rfl Tryd.underlying9 rfl) (by kernel_rfl) ?_
  refine RW.v ?_
  refine RW.vop (v := .int .i64 ((encA R).length : Int)) (by kernel_rfl) (by kernel_rfl) (vop_sLenL rfl rfl rfl rfl Tryd.underlying9 rfl) (by kernel_rfl) ?_
  refine RW.valE (v' := .int .i64 (((s.length - (encA R).length) : Nat) : Int)) (by kernel_rfl) (by kernel_rfl) rfl (congrArg (Value.int .i64) ((wrap_in (by omega) (by omega)).trans (by omega))) (by kernel_rfl) ?_
  refine RW.vop (v := .string ⟨(encA FL).toArray⟩) (by kernel_rfl) (by kernel_rfl) (vop_sHeadE (a := s) (j := s.length - (encA R).length) htk rfl rfl rfl Tryd.underlying9 (by omega)) (by kernel_rfl) ?_
  refine RW.v ?_
  refine RW.nil ?_
  refine W.rg [(2, .pointer (some ⟨b1, 0, none⟩)), (3, .pointer (some ⟨b2, 0, none⟩)), (4, .pointer (some ⟨b3, 0, none⟩)), (5, .string ⟨(encA R).toArray⟩), (6, .string ⟨(encA FL).toArray⟩)] fun TA => ?_
  refine W.seq (W.region ?_)
  refine RW.v ?_
  refine RW.cl ?_
  refine ⟨_, _, (s_contF (b := 42) (c := 42) hv hFL (by decide) rfl), ?_⟩
  refine RW.v ?_
  refine RW.st H 0 [.bool (FL.contains 42)] [.bool (FL.contains 42), .bool false, .bool false, .slice none 0 0] ?_
  clear H; intro _ _ H; dsimp only [setL, delL] at H
  refine RW.nil ?_
  refine W.rg [(2, .pointer (some ⟨b1, 0, none⟩)), (3, .pointer (some ⟨b2, 0, none⟩)), (4, .pointer (some ⟨b3, 0, none⟩)), (5, .string ⟨(encA R).toArray⟩), (6, .string ⟨(encA FL).toArray⟩)] fun TA => ?_
  refine W.seq (W.region ?_)
  refine RW.v ?_
  refine RW.cl ?_
  refine ⟨_, _, (s_contF (b := 64) (c := 64) hv hFL (by decide) rfl), ?_⟩
  refine RW.v ?_
  refine RW.st H 0 [.bool (FL.contains 64)] [.bool (FL.contains 42), .bool (FL.contains 64), .bool false, .slice none 0 0] ?_
  clear H; intro _ _ H; dsimp only [setL, delL] at H
  refine RW.nil ?_
  refine W.rg [(2, .pointer (some ⟨b1, 0, none⟩)), (3, .pointer (some ⟨b2, 0, none⟩)), (4, .pointer (some ⟨b3, 0, none⟩)), (5, .string ⟨(encA R).toArray⟩), (6, .string ⟨(encA FL).toArray⟩)] fun TA => ?_
  refine W.seq (W.region ?_)
  refine RW.v ?_
  refine RW.cl ?_
  refine ⟨_, _, (s_contF (b := 94) (c := 94) hv hFL (by decide) rfl), ?_⟩
  refine RW.v ?_
  refine RW.st H 0 [.bool (FL.contains 94)] [.bool (FL.contains 42), .bool (FL.contains 64), .bool (FL.contains 94), .slice none 0 0] ?_
  clear H; intro _ _ H; dsimp only [setL, delL] at H
  refine RW.nil ?_
  refine W.rg [(2, .pointer (some ⟨b1, 0, none⟩)), (3, .pointer (some ⟨b2, 0, none⟩)), (4, .pointer (some ⟨b3, 0, none⟩)), (5, .string ⟨(encA R).toArray⟩), (6, .string ⟨(encA FL).toArray⟩)] fun TA => ?_
  refine W.seq (W.region ?_)
  refine RW.v ?_
  refine RW.vop (v := .int .i64 ((FL.length : Nat) : Int)) (by kernel_rfl) (by kernel_rfl) (vop_sLenE (a := encA FL) hf1 rfl rfl rfl rfl Tryd.underlying9 rfl) (by kernel_rfl) ?_
  refine RW.mk H (.row ⟨[.int .i64 0], 3, false⟩) ?_
  clear H; intro _ b4 _ H
  refine RW.st H 0 [.int .i64 ((FL.length : Nat) : Int)] [.int .i64 ((FL.length : Nat) : Int)] ?_
  clear H; intro _ _ H; dsimp only [setL, delL] at H
  refine RW.nil ?_
  refine W.rg [(2, .pointer (some ⟨b1, 0, none⟩)), (3, .pointer (some ⟨b2, 0, none⟩)), (4, .pointer (some ⟨b3, 0, none⟩)), (5, .string ⟨(encA R).toArray⟩), (7, .pointer (some ⟨b4, 0, none⟩))] fun TA => ?_
  refine W.seq ?_
  refine W.seq (W.region ?_)
  refine RW.v ?_
  refine RW.cl ?_
  refine WC.enter (fn := Tryd.f39) Tryd.func39 rfl ?_
  refine W.rg [(0, .string ⟨(encA R).toArray⟩), (1, .string ⟨#[10]⟩)] fun TA => ?_
  refine W.seq (W.region ?_)
  refine RW.v ?_
  refine RW.nil ?_
  refine W.rg [(0, .string ⟨(encA R).toArray⟩), (1, .string ⟨#[10]⟩)] fun TA => ?_
  refine W.seq (W.region ?_)
  iterate 3 refine RW.v ?_
  refine RW.vop (v := .int .i64 1) (by kernel_rfl) (by kernel_rfl) (vop_sLenL (a := ([10] : List UInt8)) rfl rfl rfl rfl Tryd.underlying9 rfl) (by kernel_rfl) ?_
  refine RW.cl ?_
  refine WC.enter (fn := Tryd.f66) Tryd.func66 rfl ?_
  refine W.rg [(0, .string ⟨(encA R).toArray⟩), (1, .string ⟨#[10]⟩), (2, .int .i64 1)] fun TA => ?_
  refine W.seq (W.region ?_)
  refine RW.mk H (.row ⟨[.string ⟨(encA R).toArray⟩], 9, false⟩) ?_
  clear H; intro _ b5 _ H
  refine RW.mk H (.row ⟨[.string ⟨#[10]⟩], 9, false⟩) ?_
  clear H; intro _ b6 _ H
  refine RW.mk H (.row ⟨[.int .i64 1], 3, false⟩) ?_
  clear H; intro _ b7 _ H
  refine RW.v ?_
  refine RW.nil ?_
  refine W.rg [(3, .pointer (some ⟨b5, 0, none⟩)), (4, .pointer (some ⟨b6, 0, none⟩)), (5, .pointer (some ⟨b7, 0, none⟩))] fun TA => ?_
  refine W.seq (W.region ?_)
  refine RW.val (v := .func (.func 92) #[] #[.pointer (some ⟨b6, 0, none⟩), .pointer (some ⟨b5, 0, none⟩), .pointer (some ⟨b7, 0, none⟩)]) (by kernel_rfl) (by kernel_rfl) (by kernel_rfl) (by kernel_rfl) ?_
  refine RW.v ?_
  refine RW.nil ?_
  refine W.ret ?_
  refine endG (by rfl) (by exact resL_tmp rfl) ?_
  refine RW.v ?_
  refine RW.nil ?_
  refine W.ret ?_
  refine endG (by rfl) (by exact resL_tmp rfl) ?_
  refine RW.nil ?_
  refine W.rg [(2, .pointer (some ⟨b1, 0, none⟩)), (3, .pointer (some ⟨b2, 0, none⟩)), (4, .pointer (some ⟨b3, 0, none⟩)), (7, .pointer (some ⟨b4, 0, none⟩)), (36, .func (.func 92) #[] #[.pointer (some ⟨b6, 0, none⟩), .pointer (some ⟨b5, 0, none⟩), .pointer (some ⟨b7, 0, none⟩)])] fun TA => ?_
  refine W.block ?_
  refine W.rst [(2, .pointer (some ⟨b1, 0, none⟩)), (3, .pointer (some ⟨b2, 0, none⟩)), (4, .pointer (some ⟨b3, 0, none⟩)), (7, .pointer (some ⟨b4, 0, none⟩)), (36, .func (.func 92) #[] #[.pointer (some ⟨b6, 0, none⟩), .pointer (some ⟨b5, 0, none⟩), .pointer (some ⟨b7, 0, none⟩)])] ⟨rfl, rfl, rfl, rfl, rfl, trivial⟩ fun TL12 => ?_
  refine W.rangeL H rfl (fun _ h => nomatch h) (fun _ h => nomatch h) (by kernel_rfl) fun _ d8 b9 lp10 hl11 H => ?_
  refine WC.enter (fn := Tryd.f92) Tryd.func92 rfl ?_
  refine W.rg [(0, .func (.yield b9) #[] #[]), (1, .pointer (some ⟨b6, 0, none⟩)), (2, .pointer (some ⟨b5, 0, none⟩)), (3, .pointer (some ⟨b7, 0, none⟩))] fun TA => ?_
  refine W.seq ?_
  refine W.seq (W.region ?_)
  refine RW.ld H 3 1 ?_
  refine RW.vop (v := .int .i64 1) (by kernel_rfl) (by kernel_rfl) (vop_sLenL (a := ([10] : List UInt8)) rfl rfl rfl rfl Tryd.underlying9 rfl) (by kernel_rfl) ?_
  refine RW.v ?_
  refine RW.nil ?_
  refine W.c0 ?_
  refine W.skip ?_
  refine W.seq ?_
  refine W.block ?_
  replace H := H.nilSl 29 2
  refine W.loop (fun mm ta σ => ∃ (r : List Int) (acc : List Need) (a : Int) (F : Nat → Option Blk2) (u : Value), (r.length ≤ mm) ∧ (Le F0 F) ∧ (∀ x ∈ r, chB x = true) ∧ ((encA r).length ≤ 1000000) ∧ (0 ≤ a) ∧ (a + (r.length : Int) ≤ 1000000) ∧ (acc.length + r.length ≤ 1000000) ∧ (T = (acc ++ (needsG r.length a r).1, (needsG r.length a r).2)) ∧ Lies G A F σ (.sl 29 2 u acc.length (needC acc) :: .at_ b9 lp10 :: .at_ d8 (.defs true) :: .at_ b7 (.row ⟨[.int .i64 1], 3, false⟩) :: .at_ b6 (.row ⟨[.string ⟨#[10]⟩], 9, false⟩) :: .at_ b5 (.row ⟨[.string ⟨(encA r).toArray⟩], 9, false⟩) :: .at_ b4 (.row ⟨[.int .i64 a], 3, false⟩) :: .at_ b3 (.row ⟨[.bool (FL.contains 42), .bool (FL.contains 64), .bool (FL.contains 94), u], 24, false⟩) :: .at_ b2 (.row ⟨[.int .i64 0, .int .i64 0], 33, false⟩) :: .at_ b1 (.row ⟨[.bool false, .bool false, .bool false, .slice none 0 0], 24, false⟩) :: (L)) ∧ ta 0 = .func (.yield b9) #[] #[] ∧ ta 1 = .pointer (some ⟨b6, 0, none⟩) ∧ ta 2 = .pointer (some ⟨b5, 0, none⟩) ∧ ta 3 = .pointer (some ⟨b7, 0, none⟩)) R.length ?_ ?_
  ·exact ⟨R, [], ((FL.length : Nat) : Int), F0, .slice none 0 0, (Nat.le_refl _), (fun _ _ h => h), hRc, (by omega), (by omega), (by omega), (by show 0 + _ ≤ _; omega), hT0, H, rfl, rfl, rfl, rfl⟩
  clear H
  rintro mm ta _ ⟨r, acc, a, F, u, hm, le0, hch, hlr, ha0, har, hacc, hT, H, e0, e1, e2, e3⟩
  refine W.rst [(0, .func (.yield b9) #[] #[]), (1, .pointer (some ⟨b6, 0, none⟩)), (2, .pointer (some ⟨b5, 0, none⟩)), (3, .pointer (some ⟨b7, 0, none⟩))] ⟨e0, e1, e2, e3, trivial⟩ fun TA => ?_
  clear e0 e1 e2 e3
  refine W.block ?_
  refine W.seq (W.region ?_)
  refine RW.ld H 5 1 ?_
  refine RW.ld H 4 1 ?_
  rcases split4 r with hr0 | ⟨c, p, hr, hn⟩ | ⟨q, hr, hn⟩ | ⟨c, p, q, hr, hn⟩
  ·refine RW.cl ?_
   refine ⟨_, _, (s_indexE (congrArg (fun r => Lib.indexByte (encA r) 10) hr0)), ?_⟩
   refine RW.v ?_
   refine RW.nil ?_
   refine W.rg [(0, .func (.yield b9) #[] #[]), (1, .pointer (some ⟨b6, 0, none⟩)), (2, .pointer (some ⟨b5, 0, none⟩)), (3, .pointer (some ⟨b7, 0, none⟩)), (7, .int .i64 (-1))] fun TA => ?_
   refine W.seq ?_
   refine W.seq (W.region ?_)
   iterate 2 refine RW.v ?_
   refine RW.nil ?_
   refine W.c1 ?_
   refine W.exit _ ?_
   refine seqQ_exit ?_
   refine blkQ_out rfl ?_
   refine rndQ_exit ?_
   refine blkQ_here ?_
   refine W.region ?_
   refine RW.v ?_
   refine RW.ld H 5 1 ?_
   refine RW.yieldL H 1 rfl hl11 (by kernel_rfl) (by kernel_rfl) rfl rfl rfl rfl rfl (by kernel_rfl) ?_
   refine W.rg [(2, .pointer (some ⟨b1, 0, none⟩)), (3, .pointer (some ⟨b2, 0, none⟩)), (4, .pointer (some ⟨b3, 0, none⟩)), (7, .pointer (some ⟨b4, 0, none⟩)), (36, .func (.func 92) #[] #[.pointer (some ⟨b6, 0, none⟩), .pointer (some ⟨b5, 0, none⟩), .pointer (some ⟨b7, 0, none⟩)]), (37, .string ⟨(encA r).toArray⟩)] fun TA => ?_
   refine W.region ?_
   refine RW.v ?_
   refine RW.nil ?_
   refine ⟨rfl, _, _, _, 1, H, rfl, ?_⟩
   clear H; intro _ lq13 hq14 H
   dsimp only [setL, delL] at H
   refine W.rg [(2, .pointer (some ⟨b1, 0, none⟩)), (3, .pointer (some ⟨b2, 0, none⟩)), (4, .pointer (some ⟨b3, 0, none⟩)), (7, .pointer (some ⟨b4, 0, none⟩)), (8, .string ⟨(encA r).toArray⟩), (36, .func (.func 92) #[] #[.pointer (some ⟨b6, 0, none⟩), .pointer (some ⟨b5, 0, none⟩), .pointer (some ⟨b7, 0, none⟩)]), (37, .string ⟨(encA r).toArray⟩)] fun TA => ?_
   refine W.block ?_
   refine W.seq ?_
   refine W.seq (W.region ?_)
   refine RW.v ?_
   refine RW.vop (v := .bool true) (by kernel_rfl) (by kernel_rfl) (vop_sEq rfl rfl rfl (beq_iff_eq.2 (by rw [hr0]; rfl))) (by kernel_rfl) ?_
   refine RW.nil ?_
   refine W.c1 ?_
   refine W.exit _ ?_
   refine seqQ_exit ?_
   refine blkQ_out rfl ?_
   refine ⟨_, _, _, 1, false, .done, (some (.exit 0)), H, rfl, rfl, ?_⟩
   clear H; intro _ lr15 _ hr16 H
   dsimp only [setL, delL] at H
   refine RW.nil ?_
   refine endG (by rfl) (by exact rfl) ?_
   refine ⟨_, _, _, 1, _, _, _, _, H, rfl, hr16, rfl, rfl, ?_⟩
   clear H; intro _ H
   dsimp only [setL, delL] at H
   refine blkQ_here ?_
   refine W.rg [(2, .pointer (some ⟨b1, 0, none⟩)), (3, .pointer (some ⟨b2, 0, none⟩)), (4, .pointer (some ⟨b3, 0, none⟩)), (7, .pointer (some ⟨b4, 0, none⟩)), (36, .func (.func 92) #[] #[.pointer (some ⟨b6, 0, none⟩), .pointer (some ⟨b5, 0, none⟩), .pointer (some ⟨b7, 0, none⟩)])] fun TA => ?_
   refine W.seq (W.region ?_)
   refine RW.ld H 6 4 ?_
   refine RW.val (v := .agg #[.int .i64 0, .int .i64 0]) (by kernel_rfl) (by kernel_rfl) (by kernel_rfl) (by kernel_rfl) ?_
   refine RW.stL H 8 (vs := [.bool (FL.contains 42), .bool (FL.contains 64), .bool (FL.contains 94), u]) (cs' := [.bool (FL.contains 42), .bool (FL.contains 64), .bool (FL.contains 94), u]) (by kernel_rfl) (by kernel_rfl) rfl rfl rfl (by rcases gr_forms (H.sl 0 rfl) with rfl | ⟨_, _, _, rfl⟩ <;> rfl) (by rcases gr_forms (H.sl 0 rfl) with rfl | ⟨_, _, _, rfl⟩ <;> rfl) (by kernel_rfl) (Nat.le_of_ble_eq_true rfl) rfl (by kernel_rfl) ?_
   clear H; intro _ _ H; dsimp only [setL, delL] at H
   refine RW.st H 7 [.int .i64 0, .int .i64 0] [.int .i64 0, .int .i64 0] ?_
   clear H; intro _ _ H; dsimp only [setL, delL] at H
   refine RW.nil ?_
   replace H := (((((H.del 6).del 5).del 4).del 3).del 2)
   dsimp only [setL, delL] at H
   refine W.ret ?_
   refine endMark H 1 rfl fun _ H => ?_
   dsimp only [setL, delL] at H
   refine endGD0 (by rfl) (by exact resL_cell rfl (H.get 2 rfl) (by rw [uT_eq]; exact Tryd.underlying24) (by kernel_rfl) rfl rfl (by exact resL_cell rfl (H.get 1 rfl) (by rw [uT_eq]; exact Tryd.underlying33) (by kernel_rfl) rfl rfl rfl)) ?_
   have hpn := parse_none (acc := acc) hv (by rw [← hTd, hT, hr0]; show (acc ++ [], none) = _; rw [List.append_nil])
   obtain ⟨F, le, hS, H⟩ := H.freezeSl 0 rfl
   dsimp only [setL, delL] at H
   replace le0 := fun b y h => le b y (le0 b y h)
   subst hFL
   rw [hpn]
   exact ⟨F, _, le0, rfl, hS, ((H.del 1).del 0)⟩
  ·obtain ⟨hc0, hle⟩ := head_in hch hr
   have hcl : (c :: p).length = p.length + 1 := rfl
   have hrl : r.length = p.length + 1 := by rw [hr]; rfl
   refine RW.cl ?_
   refine ⟨_, _, (s_indexE (ten_no hch (by rw [hr]; exact hn))), ?_⟩
   refine RW.v ?_
   refine RW.nil ?_
   refine W.rg [(0, .func (.yield b9) #[] #[]), (1, .pointer (some ⟨b6, 0, none⟩)), (2, .pointer (some ⟨b5, 0, none⟩)), (3, .pointer (some ⟨b7, 0, none⟩)), (7, .int .i64 (-1))] fun TA => ?_
   refine W.seq ?_
   refine W.seq (W.region ?_)
   iterate 2 refine RW.v ?_
   refine RW.nil ?_
   refine W.c1 ?_
   refine W.exit _ ?_
   refine seqQ_exit ?_
   refine blkQ_out rfl ?_
   refine rndQ_exit ?_
   refine blkQ_here ?_
   refine W.region ?_
   refine RW.v ?_
   refine RW.ld H 5 1 ?_
   refine RW.yieldL H 1 rfl hl11 (by kernel_rfl) (by kernel_rfl) rfl rfl rfl rfl rfl (by kernel_rfl) ?_
   refine W.rg [(2, .pointer (some ⟨b1, 0, none⟩)), (3, .pointer (some ⟨b2, 0, none⟩)), (4, .pointer (some ⟨b3, 0, none⟩)), (7, .pointer (some ⟨b4, 0, none⟩)), (36, .func (.func 92) #[] #[.pointer (some ⟨b6, 0, none⟩), .pointer (some ⟨b5, 0, none⟩), .pointer (some ⟨b7, 0, none⟩)]), (37, .string ⟨(encA r).toArray⟩)] fun TA => ?_
   refine W.region ?_
   refine RW.v ?_
   refine RW.nil ?_
   refine ⟨rfl, _, _, _, 1, H, rfl, ?_⟩
   clear H; intro _ lq17 hq18 H
   dsimp only [setL, delL] at H
   refine W.rg [(2, .pointer (some ⟨b1, 0, none⟩)), (3, .pointer (some ⟨b2, 0, none⟩)), (4, .pointer (some ⟨b3, 0, none⟩)), (7, .pointer (some ⟨b4, 0, none⟩)), (8, .string ⟨(encA r).toArray⟩), (36, .func (.func 92) #[] #[.pointer (some ⟨b6, 0, none⟩), .pointer (some ⟨b5, 0, none⟩), .pointer (some ⟨b7, 0, none⟩)]), (37, .string ⟨(encA r).toArray⟩)] fun TA => ?_
   refine W.block ?_
   refine W.seq ?_
   refine W.seq (W.region ?_)
   refine RW.v ?_
   refine RW.vop (v := .bool false) (by kernel_rfl) (by kernel_rfl) (vop_sEq rfl rfl rfl (beq_eq_false_iff_ne.2 (enc_neA (by rw [hr]; exact List.cons_ne_nil _ _)))) (by kernel_rfl) ?_
   refine RW.nil ?_
   refine W.c0 ?_
   refine W.skip ?_
   refine W.seq (W.region ?_)
   refine RW.v ?_
   refine RW.cl ?_
   refine ((p_trimB (X := encA r) (by omega) (ten_out hch (by rw [hr]; exact hn)) (enc_neA (by rw [hr]; exact List.cons_ne_nil _ _)) H).mono ?_)
   clear H
   rintro _ _ ⟨rfl, H⟩
   refine RW.convR H (bs := (encA r)) (by omega) (by kernel_rfl) (by kernel_rfl) rfl rfl rfl rfl rfl (by kernel_rfl) ?_
   clear H; intro _ cv H
   obtain ⟨F, le, hk, H⟩ := H.freezeK 0 rfl
   dsimp only [setL, delL] at H
   replace le0 := fun b y h => le b y (le0 b y h)
   clear le
   have hcv : SlK F 1 cv (c :: p).length ((c :: p).map runeV) := by rw [show runes (encA r) = (c :: p) from (runes_encA _ hch).trans hr] at hk; exact hk
   clear hk
   refine RW.v ?_
   refine RW.nil ?_
   refine W.rg [(2, .pointer (some ⟨b1, 0, none⟩)), (3, .pointer (some ⟨b2, 0, none⟩)), (4, .pointer (some ⟨b3, 0, none⟩)), (7, .pointer (some ⟨b4, 0, none⟩)), (8, .string ⟨(encA r).toArray⟩), (9, cv), (36, .func (.func 92) #[] #[.pointer (some ⟨b6, 0, none⟩), .pointer (some ⟨b5, 0, none⟩), .pointer (some ⟨b7, 0, none⟩)]), (37, .string ⟨(encA r).toArray⟩)] fun TA => ?_
   refine W.seq ?_
   refine W.seq (W.region ?_)
   refine RW.v ?_
   refine RW.len (by kernel_rfl) (by kernel_rfl) rfl rfl rfl rfl (hcv.slf.len (e := 21) (by kernel_rfl)) (by kernel_rfl) ?_
   refine RW.valE (v' := .bool false) (by kernel_rfl) (by kernel_rfl) rfl (congrArg Value.bool (beq_eq_false_iff_ne.2 (by omega))) (by kernel_rfl) ?_
   refine RW.v ?_
   refine RW.w ?_
   refine RW.idxF hcv.slf (by rfl) (by kernel_rfl) rfl Tryd.underlying75 (by kernel_rfl) rfl rfl ⟨by omega, by omega⟩ (by kernel_rfl) ?_
   intro b19 q20 r21 hF22 hE23
   rw [(show _ = [Value.int .i32 c] from runs_at (l := (c :: p)) (j := 0) (i := 0) (by omega) (by omega))] at hE23
   refine RW.loads 1 (by rfl) (by kernel_rfl) rfl rfl (H.old _ _ hF22) hE23 rfl (by kernel_rfl) ?_
   refine RW.cl (hw := by rfl) ?_
   refine ((p_coded (c := c) h64 (hU.le (fun b y h => H.old _ _ (le0 b y h))).rows hc0 hle H).mono ?_)
   clear H
   rintro _ _ ⟨rfl, H⟩
   refine RW.w ?_
   refine RW.v ?_
   refine RW.nil ?_
   refine W.rg [(2, .pointer (some ⟨b1, 0, none⟩)), (3, .pointer (some ⟨b2, 0, none⟩)), (4, .pointer (some ⟨b3, 0, none⟩)), (7, .pointer (some ⟨b4, 0, none⟩)), (8, .string ⟨(encA r).toArray⟩), (9, cv), (36, .func (.func 92) #[] #[.pointer (some ⟨b6, 0, none⟩), .pointer (some ⟨b5, 0, none⟩), .pointer (some ⟨b7, 0, none⟩)]), (37, .string ⟨(encA r).toArray⟩), (52, .bool (!(decide (c ∈ codeL))))] fun TA => ?_
   refine W.cond rfl (fun hc24 => ?_) (fun hc24 => ?_)
   ·have hc24b := hc24
    have hcd : c ∉ codeL := by simpa using hc24b
    refine W.seq ?_
    refine W.drawn (by kernel_rfl) (by kernel_rfl) H.gn ?_
    have H25 := H
    refine RW.val (v := .agg #[.bool false, .bool false, .bool false, .slice none 0 0]) (by kernel_rfl) (by kernel_rfl) (by kernel_rfl) (by kernel_rfl) ?_
    refine RW.ld H25 6 1 ?_
    refine RW.val (v := .agg #[.int .i64 5, .int .i64 a]) (by kernel_rfl) (by kernel_rfl) (by kernel_rfl) (by kernel_rfl) ?_
    refine RW.stD H25 9 (vs := [.bool false, .bool false, .bool false, .slice none 0 0]) (cs' := [.bool false, .bool false, .bool false, .slice none 0 0]) (by kernel_rfl) (by kernel_rfl) rfl rfl rfl rfl rfl (by kernel_rfl) (Nat.le_of_ble_eq_true rfl) rfl (by kernel_rfl) ?_
    intro _ H26
    dsimp only [setL, delL] at H26
    refine RW.stD H26 8 (vs := [.int .i64 5, .int .i64 a]) (cs' := [.int .i64 5, .int .i64 a]) (by kernel_rfl) (by kernel_rfl) rfl rfl rfl rfl rfl (by kernel_rfl) (Nat.le_of_ble_eq_true rfl) rfl (by kernel_rfl) ?_
    intro _ H27
    dsimp only [setL, delL] at H27
    refine RW.nil ?_
    refine ⟨⟨by kernel_rfl, ⟨trivial, dyn_row (H25.get 6 rfl) (H27.get 6 rfl) ⟨nB, nB, nB, fun _ => H25.get 6 rfl, fun _ => H26.get 6 rfl, trivial⟩, trivial, trivial, trivial, trivial⟩⟩, ?_⟩
    replace H := H27
    clear H25 H26 H27
    refine W.ret ?_
    refine seqQ_ret ?_
    refine blkQ_ret ?_
    refine ⟨_, _, _, 1, false, .done, (some .ret), H, rfl, rfl, ?_⟩
    clear H; intro _ lr28 _ hr29 H
    dsimp only [setL, delL] at H
    refine RW.nil ?_
    refine endG (by rfl) (by exact rfl) ?_
    refine ⟨_, _, _, 1, _, _, _, _, H, rfl, hr29, rfl, rfl, ?_⟩
    clear H; intro _ H
    dsimp only [setL, delL] at H
    refine blkQ_ret ?_
    refine seqQ_ret ?_
    refine endMark H 1 rfl fun _ H => ?_
    dsimp only [setL, delL] at H
    refine endGD0 (by rfl) (by exact resL_cell rfl (H.get 7 rfl) (by rw [uT_eq]; exact Tryd.underlying24) (by kernel_rfl) rfl rfl (by exact resL_cell rfl (H.get 6 rfl) (by rw [uT_eq]; exact Tryd.underlying33) (by kernel_rfl) rfl rfl rfl)) ?_
    have hpf := parse_fault hv ((congrArg Prod.snd hTd).symm.trans (needs_fault (by rw [← hr]; exact hT) hcd))
    rw [hpf]
    exact ⟨F, _, le0, rfl, .nil _ rfl, ((((((((H.del 7).del 6).del 5).del 4).del 3).del 2).del 1).del 0)⟩
   ·have hc24b := hc24
    have hcd : c ∈ codeL := by simpa using hc24b
    refine W.skip ?_
    refine W.seq ?_
    refine W.drawn (by kernel_rfl) (by kernel_rfl) H.gn ?_
    have H30 := H
    refine RW.v ?_
    refine RW.ld H30 7 1 ?_
    refine RW.v ?_
    refine RW.idxF hcv.slf (by kernel_rfl) (by kernel_rfl) rfl Tryd.underlying75 (by kernel_rfl) rfl rfl ⟨by omega, by omega⟩ (by kernel_rfl) ?_
    intro b31 q32 r33 hF34 hE35
    rw [(show _ = [Value.int .i32 c] from runs_at (l := (c :: p)) (j := 0) (i := 0) (by omega) (by omega))] at hE35
    refine RW.loads 1 (by kernel_rfl) (by kernel_rfl) rfl rfl (H30.old _ _ hF34) hE35 rfl (by kernel_rfl) ?_
    refine RW.valE (v' := .int .i64 c) (by kernel_rfl) (by kernel_rfl) rfl (congrArg (Value.int .i64) (wrap_in (by omega) (by omega))) (by kernel_rfl) ?_
    refine RW.v ?_
    obtain ⟨sv, hsv, hks⟩ := slk_rest (P := Tryd.prog) (t := 75) (e := 21) (i := 1) hcv (by kernel_rfl) (by kernel_rfl) (by omega)
    rw [show ((1 : Nat) : Int) = 1 from by omega] at hsv
    have hks2 : SlK F 1 sv p.length (p.map runeV) := hks
    refine RW.vop (v := sv) (by kernel_rfl) (by kernel_rfl) (vop_slice rfl hsv) (by kernel_rfl) ?_
    by_cases hz : p = []
    ·refine RW.vop (v := .string ⟨(encA p).toArray⟩) (by kernel_rfl) (by kernel_rfl) (vop_backP hks2 hz rfl rfl rfl rfl rfl) (by kernel_rfl) ?_
     refine RW.val (v := .agg #[.int .i64 c, .string ⟨(encA p).toArray⟩]) (by kernel_rfl) (by kernel_rfl) (by kernel_rfl) (by kernel_rfl) ?_
     refine RW.mkD H30 (x := .row ⟨[.int .i64 c, .string ⟨(encA p).toArray⟩], 29, false⟩) (fm := fun b => .slice (some ⟨b, 0, none⟩) 1 1) (by kernel_rfl) (by kernel_rfl) (by kernel_rfl) (by kernel_rfl) ?_
     intro _ b36 H37
     refine RW.appLD H37 1 0 (n := 1) (e2 := 29) (by kernel_rfl) (by kernel_rfl) rfl rfl rfl rfl rfl rfl rfl (.inl rfl) rfl (by kernel_rfl) (by kernel_rfl) (by kernel_rfl) (by decide) (by decide) rfl rfl (by omega) (by kernel_rfl) ?_
     intro _ v38 H39
     dsimp only [setL, delL] at H39
     refine RW.v ?_
     refine RW.stD H39 7 (vs := [v38]) (cs' := [.bool (FL.contains 42), .bool (FL.contains 64), .bool (FL.contains 94), v38]) (by kernel_rfl) (by kernel_rfl) rfl rfl rfl (H39.sl 0 rfl).one (gr_all (H39.sl 0 rfl)) (by kernel_rfl) (Nat.le_of_ble_eq_true rfl) rfl (by kernel_rfl) ?_
     intro _ H40
     dsimp only [setL, delL] at H40
     refine RW.nil ?_
     refine ⟨⟨by kernel_rfl, ⟨trivial, Or.inl (by kernel_rfl), trivial, trivial, dyn_row (H30.old _ _ hF34) (H40.old _ _ hF34) ⟨nB, nB, nB, nB, nB, nB, nB, nB, nB, nB, nB, fun _ => H37.old _ _ hF34, nB, fun _ => H39.old _ _ hF34, trivial⟩, trivial, trivial, trivial, trivial, trivial, Or.inl (by kernel_rfl), trivial, trivial, trivial, trivial⟩⟩, ?_⟩
     replace H := H40
     clear H30 H37 H39 H40
     refine W.rg [(2, .pointer (some ⟨b1, 0, none⟩)), (3, .pointer (some ⟨b2, 0, none⟩)), (4, .pointer (some ⟨b3, 0, none⟩)), (7, .pointer (some ⟨b4, 0, none⟩)), (8, .string ⟨(encA r).toArray⟩), (36, .func (.func 92) #[] #[.pointer (some ⟨b6, 0, none⟩), .pointer (some ⟨b5, 0, none⟩), .pointer (some ⟨b7, 0, none⟩)]), (37, .string ⟨(encA r).toArray⟩)] fun TA => ?_
     refine W.drawn (by kernel_rfl) (by kernel_rfl) H.gn ?_
     have H41 := H
     refine RW.ld H41 6 1 ?_
     refine RW.v ?_
     refine RW.cl ?_
     refine WC.enter (fn := Tryd.f42) Tryd.func42 rfl ?_
     replace H := H41
     refine W.rg [(0, .string ⟨(encA r).toArray⟩)] fun TA => ?_
     refine W.seq (W.region ?_)
     refine RW.v ?_
     refine RW.nil ?_
     refine W.rg [(0, .string ⟨(encA r).toArray⟩)] fun TA => ?_
     refine W.seq ?_
     refine W.seq (W.region ?_)
     refine RW.v ?_
     refine RW.cl ?_
     refine ⟨_, _, (s_validT (bs := (encA r)) (valid_encA _ hch) (hU.le (fun b y h => H.old _ _ (le0 b y h))) h16 (by omega)), ?_⟩
     refine RW.v ?_
     refine RW.nil ?_
     refine W.c0 ?_
     refine W.skip ?_
     refine W.seq (W.region ?_)
     refine RW.v ?_
     refine RW.cl ?_
     refine ⟨_, _, (s_countE (bs := (encA r)) (n := r.length) (by omega) (congrArg List.length (runes_encA _ hch))), ?_⟩
     refine RW.v ?_
     refine RW.nil ?_
     refine W.ret ?_
     refine endG (by rfl) (by exact resL_tmp rfl) ?_
     have H42 := H
     refine RW.valE (v' := .int .i64 (a + ((r.length : Nat) : Int))) (by kernel_rfl) (by kernel_rfl) rfl (congrArg (Value.int .i64) (wrap_in (by omega) (by omega))) (by kernel_rfl) ?_
     refine RW.stD H42 6 (vs := [.int .i64 (a + ((r.length : Nat) : Int))]) (cs' := [.int .i64 (a + ((r.length : Nat) : Int))]) (by kernel_rfl) (by kernel_rfl) rfl rfl rfl rfl rfl (by kernel_rfl) (Nat.le_of_ble_eq_true rfl) rfl (by kernel_rfl) ?_
     intro _ H43
     dsimp only [setL, delL] at H43
     refine RW.nil ?_
     refine ⟨⟨by kernel_rfl, ⟨dyn_rowM (H41.get 6 rfl) (Or.inl (by kernel_rfl)) ⟨nB, nB, fun _ => Or.inr (H41.get 6 rfl), nB, fun _ => Or.inr (H42.get 6 rfl), trivial⟩, trivial, trivial, trivial, trivial, trivial⟩⟩, ?_⟩
     replace H := H43
     clear H41 H42 H43
     refine blkQ_normal ?_
     refine ⟨_, _, _, 1, true, .ready, none, H, rfl, rfl, ?_⟩
     clear H; intro _ lr44 _ hr45 H
     dsimp only [setL, delL] at H
     refine RW.nil ?_
     refine endG (by rfl) (by exact rfl) ?_
     refine ⟨_, _, _, 1, _, _, _, _, H, rfl, hr45, rfl, rfl, ?_⟩
     clear H; intro _ H
     dsimp only [setL, delL] at H
     refine blkQ_normal ?_
     refine W.rg [(2, .pointer (some ⟨b1, 0, none⟩)), (3, .pointer (some ⟨b2, 0, none⟩)), (4, .pointer (some ⟨b3, 0, none⟩)), (7, .pointer (some ⟨b4, 0, none⟩)), (36, .func (.func 92) #[] #[.pointer (some ⟨b6, 0, none⟩), .pointer (some ⟨b5, 0, none⟩), .pointer (some ⟨b7, 0, none⟩)])] fun TA => ?_
     refine W.seq (W.region ?_)
     refine RW.ld H 6 4 ?_
     refine RW.val (v := .agg #[.int .i64 0, .int .i64 0]) (by kernel_rfl) (by kernel_rfl) (by kernel_rfl) (by kernel_rfl) ?_
     refine RW.stL H 8 (vs := [.bool (FL.contains 42), .bool (FL.contains 64), .bool (FL.contains 94), v38]) (cs' := [.bool (FL.contains 42), .bool (FL.contains 64), .bool (FL.contains 94), v38]) (by kernel_rfl) (by kernel_rfl) rfl rfl rfl (by rcases gr_forms (H.sl 0 rfl) with rfl | ⟨_, _, _, rfl⟩ <;> rfl) (by rcases gr_forms (H.sl 0 rfl) with rfl | ⟨_, _, _, rfl⟩ <;> rfl) (by kernel_rfl) (Nat.le_of_ble_eq_true rfl) rfl (by kernel_rfl) ?_
     clear H; intro _ _ H; dsimp only [setL, delL] at H
     refine RW.st H 7 [.int .i64 0, .int .i64 0] [.int .i64 0, .int .i64 0] ?_
     clear H; intro _ _ H; dsimp only [setL, delL] at H
     refine RW.nil ?_
     replace H := (((((H.del 6).del 5).del 4).del 3).del 2)
     dsimp only [setL, delL] at H
     refine W.ret ?_
     refine endMark H 1 rfl fun _ H => ?_
     dsimp only [setL, delL] at H
     refine endGD0 (by rfl) (by exact resL_cell rfl (H.get 2 rfl) (by rw [uT_eq]; exact Tryd.underlying24) (by kernel_rfl) rfl rfl (by exact resL_cell rfl (H.get 1 rfl) (by rw [uT_eq]; exact Tryd.underlying33) (by kernel_rfl) rfl rfl rfl)) ?_
     have hpn := parse_none hv (hTd.symm.trans (needs_done (by rw [← hr]; exact hT) hcd (fun h => hn (List.mem_cons_of_mem _ h))))
     rw [needC_snoc2, show acc.length + 1 = (acc ++ [(c, encA p)]).length by rw [List.length_append]; rfl] at H
     obtain ⟨F, le, hS, H⟩ := H.freezeSl 0 rfl
     dsimp only [setL, delL] at H
     replace le0 := fun b y h => le b y (le0 b y h)
     subst hFL
     rw [hpn]
     exact ⟨F, _, le0, rfl, hS, ((H.del 1).del 0)⟩
    ·refine RW.backR H30 hks2.slf (fun c h => hch c (by rw [hr]; exact List.mem_cons_of_mem _ h)) hz (by kernel_rfl) (by kernel_rfl) rfl rfl rfl rfl rfl (by kernel_rfl) ?_
     intro b46 q47 r48 hF49 hE50
     refine RW.val (v := .agg #[.int .i64 c, .string ⟨(encA p).toArray⟩]) (by kernel_rfl) (by kernel_rfl) (by kernel_rfl) (by kernel_rfl) ?_
     refine RW.mkD H30 (x := .row ⟨[.int .i64 c, .string ⟨(encA p).toArray⟩], 29, false⟩) (fm := fun b => .slice (some ⟨b, 0, none⟩) 1 1) (by kernel_rfl) (by kernel_rfl) (by kernel_rfl) (by kernel_rfl) ?_
     intro _ b51 H52
     refine RW.appLD H52 1 0 (n := 1) (e2 := 29) (by kernel_rfl) (by kernel_rfl) rfl rfl rfl rfl rfl rfl rfl (.inl rfl) rfl (by kernel_rfl) (by kernel_rfl) (by kernel_rfl) (by decide) (by decide) rfl rfl (by omega) (by kernel_rfl) ?_
     intro _ v53 H54
     dsimp only [setL, delL] at H54
     refine RW.v ?_
     refine RW.stD H54 7 (vs := [v53]) (cs' := [.bool (FL.contains 42), .bool (FL.contains 64), .bool (FL.contains 94), v53]) (by kernel_rfl) (by kernel_rfl) rfl rfl rfl (H54.sl 0 rfl).one (gr_all (H54.sl 0 rfl)) (by kernel_rfl) (Nat.le_of_ble_eq_true rfl) rfl (by kernel_rfl) ?_
     intro _ H55
     dsimp only [setL, delL] at H55
     refine RW.nil ?_
     refine ⟨⟨by kernel_rfl, ⟨trivial, Or.inl (by kernel_rfl), trivial, trivial, dyn_row (H30.old _ _ hF34) (H55.old _ _ hF34) ⟨nB, nB, nB, nB, nB, nB, nB, nB, nB, nB, nB, fun _ => H52.old _ _ hF34, nB, fun _ => H54.old _ _ hF34, trivial⟩, trivial, trivial, trivial, dyn_row (H30.old _ _ hF49) (H55.old _ _ hF49) ⟨nB, nB, nB, nB, nB, nB, nB, nB, nB, nB, nB, fun _ => H52.old _ _ hF49, nB, fun _ => H54.old _ _ hF49, trivial⟩, trivial, Or.inl (by kernel_rfl), trivial, trivial, trivial, trivial⟩⟩, ?_⟩
     replace H := H55
     clear H30 H52 H54 H55
     refine W.rg [(2, .pointer (some ⟨b1, 0, none⟩)), (3, .pointer (some ⟨b2, 0, none⟩)), (4, .pointer (some ⟨b3, 0, none⟩)), (7, .pointer (some ⟨b4, 0, none⟩)), (8, .string ⟨(encA r).toArray⟩), (36, .func (.func 92) #[] #[.pointer (some ⟨b6, 0, none⟩), .pointer (some ⟨b5, 0, none⟩), .pointer (some ⟨b7, 0, none⟩)]), (37, .string ⟨(encA r).toArray⟩)] fun TA => ?_
     refine W.drawn (by kernel_rfl) (by kernel_rfl) H.gn ?_
     have H56 := H
     refine RW.ld H56 6 1 ?_
     refine RW.v ?_
     refine RW.cl ?_
     refine WC.enter (fn := Tryd.f42) Tryd.func42 rfl ?_
     replace H := H56
     refine W.rg [(0, .string ⟨(encA r).toArray⟩)] fun TA => ?_
     refine W.seq (W.region ?_)
     refine RW.v ?_
     refine RW.nil ?_
     refine W.rg [(0, .string ⟨(encA r).toArray⟩)] fun TA => ?_
     refine W.seq ?_
     refine W.seq (W.region ?_)
     refine RW.v ?_
     refine RW.cl ?_
     refine ⟨_, _, (s_validT (bs := (encA r)) (valid_encA _ hch) (hU.le (fun b y h => H.old _ _ (le0 b y h))) h16 (by omega)), ?_⟩
     refine RW.v ?_
     refine RW.nil ?_
     refine W.c0 ?_
     refine W.skip ?_
     refine W.seq (W.region ?_)
     refine RW.v ?_
     refine RW.cl ?_
     refine ⟨_, _, (s_countE (bs := (encA r)) (n := r.length) (by omega) (congrArg List.length (runes_encA _ hch))), ?_⟩
     refine RW.v ?_
     refine RW.nil ?_
     refine W.ret ?_
     refine endG (by rfl) (by exact resL_tmp rfl) ?_
     have H57 := H
     refine RW.valE (v' := .int .i64 (a + ((r.length : Nat) : Int))) (by kernel_rfl) (by kernel_rfl) rfl (congrArg (Value.int .i64) (wrap_in (by omega) (by omega))) (by kernel_rfl) ?_
     refine RW.stD H57 6 (vs := [.int .i64 (a + ((r.length : Nat) : Int))]) (cs' := [.int .i64 (a + ((r.length : Nat) : Int))]) (by kernel_rfl) (by kernel_rfl) rfl rfl rfl rfl rfl (by kernel_rfl) (Nat.le_of_ble_eq_true rfl) rfl (by kernel_rfl) ?_
     intro _ H58
     dsimp only [setL, delL] at H58
     refine RW.nil ?_
     refine ⟨⟨by kernel_rfl, ⟨dyn_rowM (H56.get 6 rfl) (Or.inl (by kernel_rfl)) ⟨nB, nB, fun _ => Or.inr (H56.get 6 rfl), nB, fun _ => Or.inr (H57.get 6 rfl), trivial⟩, trivial, trivial, trivial, trivial, trivial⟩⟩, ?_⟩
     replace H := H58
     clear H56 H57 H58
     refine blkQ_normal ?_
     refine ⟨_, _, _, 1, true, .ready, none, H, rfl, rfl, ?_⟩
     clear H; intro _ lr59 _ hr60 H
     dsimp only [setL, delL] at H
     refine RW.nil ?_
     refine endG (by rfl) (by exact rfl) ?_
     refine ⟨_, _, _, 1, _, _, _, _, H, rfl, hr60, rfl, rfl, ?_⟩
     clear H; intro _ H
     dsimp only [setL, delL] at H
     refine blkQ_normal ?_
     refine W.rg [(2, .pointer (some ⟨b1, 0, none⟩)), (3, .pointer (some ⟨b2, 0, none⟩)), (4, .pointer (some ⟨b3, 0, none⟩)), (7, .pointer (some ⟨b4, 0, none⟩)), (36, .func (.func 92) #[] #[.pointer (some ⟨b6, 0, none⟩), .pointer (some ⟨b5, 0, none⟩), .pointer (some ⟨b7, 0, none⟩)])] fun TA => ?_
     refine W.seq (W.region ?_)
     refine RW.ld H 6 4 ?_
     refine RW.val (v := .agg #[.int .i64 0, .int .i64 0]) (by kernel_rfl) (by kernel_rfl) (by kernel_rfl) (by kernel_rfl) ?_
     refine RW.stL H 8 (vs := [.bool (FL.contains 42), .bool (FL.contains 64), .bool (FL.contains 94), v53]) (cs' := [.bool (FL.contains 42), .bool (FL.contains 64), .bool (FL.contains 94), v53]) (by kernel_rfl) (by kernel_rfl) rfl rfl rfl (by rcases gr_forms (H.sl 0 rfl) with rfl | ⟨_, _, _, rfl⟩ <;> rfl) (by rcases gr_forms (H.sl 0 rfl) with rfl | ⟨_, _, _, rfl⟩ <;> rfl) (by kernel_rfl) (Nat.le_of_ble_eq_true rfl) rfl (by kernel_rfl) ?_
     clear H; intro _ _ H; dsimp only [setL, delL] at H
     refine RW.st H 7 [.int .i64 0, .int .i64 0] [.int .i64 0, .int .i64 0] ?_
     clear H; intro _ _ H; dsimp only [setL, delL] at H
     refine RW.nil ?_
     replace H := (((((H.del 6).del 5).del 4).del 3).del 2)
     dsimp only [setL, delL] at H
     refine W.ret ?_
     refine endMark H 1 rfl fun _ H => ?_
     dsimp only [setL, delL] at H
     refine endGD0 (by rfl) (by exact resL_cell rfl (H.get 2 rfl) (by rw [uT_eq]; exact Tryd.underlying24) (by kernel_rfl) rfl rfl (by exact resL_cell rfl (H.get 1 rfl) (by rw [uT_eq]; exact Tryd.underlying33) (by kernel_rfl) rfl rfl rfl)) ?_
     have hpn := parse_none hv (hTd.symm.trans (needs_done (by rw [← hr]; exact hT) hcd (fun h => hn (List.mem_cons_of_mem _ h))))
     rw [needC_snoc2, show acc.length + 1 = (acc ++ [(c, encA p)]).length by rw [List.length_append]; rfl] at H
     obtain ⟨F, le, hS, H⟩ := H.freezeSl 0 rfl
     dsimp only [setL, delL] at H
     replace le0 := fun b y h => le b y (le0 b y h)
     subst hFL
     rw [hpn]
     exact ⟨F, _, le0, rfl, hS, ((H.del 1).del 0)⟩
  ·replace hr : r = ([] : List Int) ++ 10 :: q := hr
   have hch2 : ∀ x ∈ ([] : List Int) ++ 10 :: q, chB x = true := by rw [← hr]; exact hch
   have hrl : r.length = ([] : List Int).length + 1 + q.length := by rw [hr]; simp only [List.length_append, List.length_cons, List.length_nil]; omega
   have hel : (encA r).length = (encA ([] : List Int)).length + 1 + (encA q).length := by rw [hr]; exact ten_len ([] : List Int) q
   have hpl : ([] : List Int).length ≤ (encA ([] : List Int)).length := enc_ge _
   refine RW.cl ?_
   refine ⟨_, _, (s_indexE ((congrArg (fun r => Lib.indexByte (encA r) 10) hr).trans (ten_ix hch2 hn))), ?_⟩
   refine RW.v ?_
   refine RW.nil ?_
   refine W.rg [(0, .func (.yield b9) #[] #[]), (1, .pointer (some ⟨b6, 0, none⟩)), (2, .pointer (some ⟨b5, 0, none⟩)), (3, .pointer (some ⟨b7, 0, none⟩)), (7, .int .i64 (((encA ([] : List Int)).length : Nat) : Int))] fun TA => ?_
   refine W.seq ?_
   refine W.seq (W.region ?_)
   refine RW.v ?_
   refine RW.valE (v' := .bool false) (by kernel_rfl) (by kernel_rfl) rfl (congrArg Value.bool (decide_eq_false (by omega))) (by kernel_rfl) ?_
   refine RW.nil ?_
   refine W.c0 ?_
   refine W.skip ?_
   refine W.seq (W.region ?_)
   refine RW.ld H 5 1 ?_
   refine RW.v ?_
   refine RW.ld H 3 1 ?_
   refine RW.valE (v' := .int .i64 ((((encA ([] : List Int)).length + 1) : Nat) : Int)) (by kernel_rfl) (by kernel_rfl) rfl (congrArg (Value.int .i64) ((wrap_in (by omega) (by omega)).trans (by omega))) (by kernel_rfl) ?_
   refine RW.vop (v := .string ⟨(encA ([] : List Int) ++ [10]).toArray⟩) (by kernel_rfl) (by kernel_rfl) (vop_sHeadE (a := encA r) (j := (encA ([] : List Int)).length + 1) (by rw [hr]; exact ten_take ([] : List Int) q) rfl rfl rfl Tryd.underlying9 (by omega)) (by kernel_rfl) ?_
   refine RW.v ?_
   refine RW.nil ?_
   refine W.rg [(0, .func (.yield b9) #[] #[]), (1, .pointer (some ⟨b6, 0, none⟩)), (2, .pointer (some ⟨b5, 0, none⟩)), (3, .pointer (some ⟨b7, 0, none⟩)), (7, .int .i64 (((encA ([] : List Int)).length : Nat) : Int)), (8, .string ⟨(encA ([] : List Int) ++ [10]).toArray⟩)] fun TA => ?_
   refine W.seq ?_
   refine W.seq (W.region ?_)
   iterate 2 refine RW.v ?_
   refine RW.yieldL H 1 rfl hl11 (by kernel_rfl) (by kernel_rfl) rfl rfl rfl rfl rfl (by kernel_rfl) ?_
   refine W.rg [(2, .pointer (some ⟨b1, 0, none⟩)), (3, .pointer (some ⟨b2, 0, none⟩)), (4, .pointer (some ⟨b3, 0, none⟩)), (7, .pointer (some ⟨b4, 0, none⟩)), (36, .func (.func 92) #[] #[.pointer (some ⟨b6, 0, none⟩), .pointer (some ⟨b5, 0, none⟩), .pointer (some ⟨b7, 0, none⟩)]), (37, .string ⟨(encA ([] : List Int) ++ [10]).toArray⟩)] fun TA => ?_
   refine W.region ?_
   refine RW.v ?_
   refine RW.nil ?_
   refine ⟨rfl, _, _, _, 1, H, rfl, ?_⟩
   clear H; intro _ lq61 hq62 H
   dsimp only [setL, delL] at H
   refine W.rg [(2, .pointer (some ⟨b1, 0, none⟩)), (3, .pointer (some ⟨b2, 0, none⟩)), (4, .pointer (some ⟨b3, 0, none⟩)), (7, .pointer (some ⟨b4, 0, none⟩)), (8, .string ⟨(encA ([] : List Int) ++ [10]).toArray⟩), (36, .func (.func 92) #[] #[.pointer (some ⟨b6, 0, none⟩), .pointer (some ⟨b5, 0, none⟩), .pointer (some ⟨b7, 0, none⟩)]), (37, .string ⟨(encA ([] : List Int) ++ [10]).toArray⟩)] fun TA => ?_
   refine W.block ?_
   refine W.seq ?_
   refine W.seq (W.region ?_)
   refine RW.v ?_
   refine RW.vop (v := .bool false) (by kernel_rfl) (by kernel_rfl) (vop_sEq rfl rfl rfl (beq_eq_false_iff_ne.2 (snoc_ne _))) (by kernel_rfl) ?_
   refine RW.nil ?_
   refine W.c0 ?_
   refine W.skip ?_
   refine W.seq (W.region ?_)
   refine RW.v ?_
   refine RW.cl ?_
   refine ((p_trimA (X := encA ([] : List Int)) (by omega) H).mono ?_)
   clear H
   rintro _ _ ⟨rfl, H⟩
   refine RW.convR H (bs := (encA ([] : List Int))) (by omega) (by kernel_rfl) (by kernel_rfl) rfl rfl rfl rfl rfl (by kernel_rfl) ?_
   clear H; intro _ cv H
   obtain ⟨F, le, hk, H⟩ := H.freezeK 0 rfl
   dsimp only [setL, delL] at H
   replace le0 := fun b y h => le b y (le0 b y h)
   clear le
   have hcv : SlK F 1 cv ([] : List Int).length (([] : List Int).map runeV) := by rw [show runes (encA ([] : List Int)) = ([] : List Int) from runes_encA _ fun _ h => absurd h (List.not_mem_nil)] at hk; exact hk
   clear hk
   refine RW.v ?_
   refine RW.nil ?_
   refine W.rg [(2, .pointer (some ⟨b1, 0, none⟩)), (3, .pointer (some ⟨b2, 0, none⟩)), (4, .pointer (some ⟨b3, 0, none⟩)), (7, .pointer (some ⟨b4, 0, none⟩)), (8, .string ⟨(encA ([] : List Int) ++ [10]).toArray⟩), (9, cv), (36, .func (.func 92) #[] #[.pointer (some ⟨b6, 0, none⟩), .pointer (some ⟨b5, 0, none⟩), .pointer (some ⟨b7, 0, none⟩)]), (37, .string ⟨(encA ([] : List Int) ++ [10]).toArray⟩)] fun TA => ?_
   refine W.seq ?_
   refine W.seq (W.region ?_)
   refine RW.v ?_
   refine RW.len (by kernel_rfl) (by kernel_rfl) rfl rfl rfl rfl (hcv.slf.len (e := 21) (by kernel_rfl)) (by kernel_rfl) ?_
   refine RW.valE (v' := .bool true) (by kernel_rfl) (by kernel_rfl) rfl (congrArg Value.bool (beq_iff_eq.2 (by rfl))) (by kernel_rfl) ?_
   refine RW.v ?_
   iterate 5 refine RW.s ?_
   refine RW.v ?_
   refine RW.nil ?_
   refine W.c1 ?_
   refine W.seq ?_
   refine W.drawn (by kernel_rfl) (by kernel_rfl) H.gn ?_
   have H63 := H
   refine RW.val (v := .agg #[.bool false, .bool false, .bool false, .slice none 0 0]) (by kernel_rfl) (by kernel_rfl) (by kernel_rfl) (by kernel_rfl) ?_
   refine RW.ld H63 6 1 ?_
   refine RW.val (v := .agg #[.int .i64 5, .int .i64 a]) (by kernel_rfl) (by kernel_rfl) (by kernel_rfl) (by kernel_rfl) ?_
   refine RW.stD H63 9 (vs := [.bool false, .bool false, .bool false, .slice none 0 0]) (cs' := [.bool false, .bool false, .bool false, .slice none 0 0]) (by kernel_rfl) (by kernel_rfl) rfl rfl rfl rfl rfl (by kernel_rfl) (Nat.le_of_ble_eq_true rfl) rfl (by kernel_rfl) ?_
   intro _ H64
   dsimp only [setL, delL] at H64
   refine RW.stD H64 8 (vs := [.int .i64 5, .int .i64 a]) (cs' := [.int .i64 5, .int .i64 a]) (by kernel_rfl) (by kernel_rfl) rfl rfl rfl rfl rfl (by kernel_rfl) (Nat.le_of_ble_eq_true rfl) rfl (by kernel_rfl) ?_
   intro _ H65
   dsimp only [setL, delL] at H65
   refine RW.nil ?_
   refine ⟨⟨by kernel_rfl, ⟨trivial, dyn_row (H63.get 6 rfl) (H65.get 6 rfl) ⟨nB, nB, nB, fun _ => H63.get 6 rfl, fun _ => H64.get 6 rfl, trivial⟩, trivial, trivial, trivial, trivial⟩⟩, ?_⟩
   replace H := H65
   clear H63 H64 H65
   refine W.ret ?_
   refine seqQ_ret ?_
   refine blkQ_ret ?_
   refine ⟨_, _, _, 1, false, .done, (some .ret), H, rfl, rfl, ?_⟩
   clear H; intro _ lr66 _ hr67 H
   dsimp only [setL, delL] at H
   refine RW.v ?_
   refine RW.nil ?_
   refine W.c1 ?_
   refine W.ret ?_
   refine seqQ_ret ?_
   refine blkQ_ret ?_
   refine rndQ_ret ?_
   refine blkQ_ret ?_
   refine seqQ_ret ?_
   refine endG (by rfl) (by exact rfl) ?_
   refine ⟨_, _, _, 1, _, _, _, _, H, rfl, hr67, rfl, rfl, ?_⟩
   clear H; intro _ H
   dsimp only [setL, delL] at H
   refine blkQ_ret ?_
   refine seqQ_ret ?_
   refine endMark H 1 rfl fun _ H => ?_
   dsimp only [setL, delL] at H
   refine endGD0 (by rfl) (by exact resL_cell rfl (H.get 7 rfl) (by rw [uT_eq]; exact Tryd.underlying24) (by kernel_rfl) rfl rfl (by exact resL_cell rfl (H.get 6 rfl) (by rw [uT_eq]; exact Tryd.underlying33) (by kernel_rfl) rfl rfl rfl)) ?_
   have hpf := parse_fault hv ((congrArg Prod.snd hTd).symm.trans (needs_fault (c := 10) (p := q) (by rw [← (show r = 10 :: q from hr)]; exact hT) (by decide)))
   rw [hpf]
   exact ⟨F, _, le0, rfl, .nil _ rfl, ((((((((H.del 7).del 6).del 5).del 4).del 3).del 2).del 1).del 0)⟩
  ·replace hr : r = (c :: p) ++ 10 :: q := hr
   have hch2 : ∀ x ∈ (c :: p) ++ 10 :: q, chB x = true := by rw [← hr]; exact hch
   have hrl : r.length = (c :: p).length + 1 + q.length := by rw [hr]; simp only [List.length_append, List.length_cons, List.length_nil]; omega
   have hel : (encA r).length = (encA (c :: p)).length + 1 + (encA q).length := by rw [hr]; exact ten_len (c :: p) q
   have hpl : (c :: p).length ≤ (encA (c :: p)).length := enc_ge _
   obtain ⟨hc0, hle⟩ := head_in hch2 rfl
   have hcl : (c :: p).length = p.length + 1 := rfl
   refine RW.cl ?_
   refine ⟨_, _, (s_indexE ((congrArg (fun r => Lib.indexByte (encA r) 10) hr).trans (ten_ix hch2 hn))), ?_⟩
   refine RW.v ?_
   refine RW.nil ?_
   refine W.rg [(0, .func (.yield b9) #[] #[]), (1, .pointer (some ⟨b6, 0, none⟩)), (2, .pointer (some ⟨b5, 0, none⟩)), (3, .pointer (some ⟨b7, 0, none⟩)), (7, .int .i64 (((encA (c :: p)).length : Nat) : Int))] fun TA => ?_
   refine W.seq ?_
   refine W.seq (W.region ?_)
   refine RW.v ?_
   refine RW.valE (v' := .bool false) (by kernel_rfl) (by kernel_rfl) rfl (congrArg Value.bool (decide_eq_false (by omega))) (by kernel_rfl) ?_
   refine RW.nil ?_
   refine W.c0 ?_
   refine W.skip ?_
   refine W.seq (W.region ?_)
   refine RW.ld H 5 1 ?_
   refine RW.v ?_
   refine RW.ld H 3 1 ?_
   refine RW.valE (v' := .int .i64 ((((encA (c :: p)).length + 1) : Nat) : Int)) (by kernel_rfl) (by kernel_rfl) rfl (congrArg (Value.int .i64) ((wrap_in (by omega) (by omega)).trans (by omega))) (by kernel_rfl) ?_
   refine RW.vop (v := .string ⟨(encA (c :: p) ++ [10]).toArray⟩) (by kernel_rfl) (by kernel_rfl) (vop_sHeadE (a := encA r) (j := (encA (c :: p)).length + 1) (by rw [hr]; exact ten_take (c :: p) q) rfl rfl rfl Tryd.underlying9 (by omega)) (by kernel_rfl) ?_
   refine RW.v ?_
   refine RW.nil ?_
   refine W.rg [(0, .func (.yield b9) #[] #[]), (1, .pointer (some ⟨b6, 0, none⟩)), (2, .pointer (some ⟨b5, 0, none⟩)), (3, .pointer (some ⟨b7, 0, none⟩)), (7, .int .i64 (((encA (c :: p)).length : Nat) : Int)), (8, .string ⟨(encA (c :: p) ++ [10]).toArray⟩)] fun TA => ?_
   refine W.seq ?_
   refine W.seq (W.region ?_)
   iterate 2 refine RW.v ?_
   refine RW.yieldL H 1 rfl hl11 (by kernel_rfl) (by kernel_rfl) rfl rfl rfl rfl rfl (by kernel_rfl) ?_
   refine W.rg [(2, .pointer (some ⟨b1, 0, none⟩)), (3, .pointer (some ⟨b2, 0, none⟩)), (4, .pointer (some ⟨b3, 0, none⟩)), (7, .pointer (some ⟨b4, 0, none⟩)), (36, .func (.func 92) #[] #[.pointer (some ⟨b6, 0, none⟩), .pointer (some ⟨b5, 0, none⟩), .pointer (some ⟨b7, 0, none⟩)]), (37, .string ⟨(encA (c :: p) ++ [10]).toArray⟩)] fun TA => ?_
   refine W.region ?_
   refine RW.v ?_
   refine RW.nil ?_
   refine ⟨rfl, _, _, _, 1, H, rfl, ?_⟩
   clear H; intro _ lq68 hq69 H
   dsimp only [setL, delL] at H
   refine W.rg [(2, .pointer (some ⟨b1, 0, none⟩)), (3, .pointer (some ⟨b2, 0, none⟩)), (4, .pointer (some ⟨b3, 0, none⟩)), (7, .pointer (some ⟨b4, 0, none⟩)), (8, .string ⟨(encA (c :: p) ++ [10]).toArray⟩), (36, .func (.func 92) #[] #[.pointer (some ⟨b6, 0, none⟩), .pointer (some ⟨b5, 0, none⟩), .pointer (some ⟨b7, 0, none⟩)]), (37, .string ⟨(encA (c :: p) ++ [10]).toArray⟩)] fun TA => ?_
   refine W.block ?_
   refine W.seq ?_
   refine W.seq (W.region ?_)
   refine RW.v ?_
   refine RW.vop (v := .bool false) (by kernel_rfl) (by kernel_rfl) (vop_sEq rfl rfl rfl (beq_eq_false_iff_ne.2 (snoc_ne _))) (by kernel_rfl) ?_
   refine RW.nil ?_
   refine W.c0 ?_
   refine W.skip ?_
   refine W.seq (W.region ?_)
   refine RW.v ?_
   refine RW.cl ?_
   refine ((p_trimA (X := encA (c :: p)) (by omega) H).mono ?_)
   clear H
   rintro _ _ ⟨rfl, H⟩
   refine RW.convR H (bs := (encA (c :: p))) (by omega) (by kernel_rfl) (by kernel_rfl) rfl rfl rfl rfl rfl (by kernel_rfl) ?_
   clear H; intro _ cv H
   obtain ⟨F, le, hk, H⟩ := H.freezeK 0 rfl
   dsimp only [setL, delL] at H
   replace le0 := fun b y h => le b y (le0 b y h)
   clear le
   have hcv : SlK F 1 cv (c :: p).length ((c :: p).map runeV) := by rw [show runes (encA (c :: p)) = (c :: p) from runes_encA _ fun x h => hch2 x (List.mem_append.2 (.inl h))] at hk; exact hk
   clear hk
   refine RW.v ?_
   refine RW.nil ?_
   refine W.rg [(2, .pointer (some ⟨b1, 0, none⟩)), (3, .pointer (some ⟨b2, 0, none⟩)), (4, .pointer (some ⟨b3, 0, none⟩)), (7, .pointer (some ⟨b4, 0, none⟩)), (8, .string ⟨(encA (c :: p) ++ [10]).toArray⟩), (9, cv), (36, .func (.func 92) #[] #[.pointer (some ⟨b6, 0, none⟩), .pointer (some ⟨b5, 0, none⟩), .pointer (some ⟨b7, 0, none⟩)]), (37, .string ⟨(encA (c :: p) ++ [10]).toArray⟩)] fun TA => ?_
   refine W.seq ?_
   refine W.seq (W.region ?_)
   refine RW.v ?_
   refine RW.len (by kernel_rfl) (by kernel_rfl) rfl rfl rfl rfl (hcv.slf.len (e := 21) (by kernel_rfl)) (by kernel_rfl) ?_
   refine RW.valE (v' := .bool false) (by kernel_rfl) (by kernel_rfl) rfl (congrArg Value.bool (beq_eq_false_iff_ne.2 (by omega))) (by kernel_rfl) ?_
   refine RW.v ?_
   refine RW.w ?_
   refine RW.idxF hcv.slf (by rfl) (by kernel_rfl) rfl Tryd.underlying75 (by kernel_rfl) rfl rfl ⟨by omega, by omega⟩ (by kernel_rfl) ?_
   intro b70 q71 r72 hF73 hE74
   rw [(show _ = [Value.int .i32 c] from runs_at (l := (c :: p)) (j := 0) (i := 0) (by omega) (by omega))] at hE74
   refine RW.loads 1 (by rfl) (by kernel_rfl) rfl rfl (H.old _ _ hF73) hE74 rfl (by kernel_rfl) ?_
   refine RW.cl (hw := by rfl) ?_
   refine ((p_coded (c := c) h64 (hU.le (fun b y h => H.old _ _ (le0 b y h))).rows hc0 hle H).mono ?_)
   clear H
   rintro _ _ ⟨rfl, H⟩
   refine RW.w ?_
   refine RW.v ?_
   refine RW.nil ?_
   refine W.rg [(2, .pointer (some ⟨b1, 0, none⟩)), (3, .pointer (some ⟨b2, 0, none⟩)), (4, .pointer (some ⟨b3, 0, none⟩)), (7, .pointer (some ⟨b4, 0, none⟩)), (8, .string ⟨(encA (c :: p) ++ [10]).toArray⟩), (9, cv), (36, .func (.func 92) #[] #[.pointer (some ⟨b6, 0, none⟩), .pointer (some ⟨b5, 0, none⟩), .pointer (some ⟨b7, 0, none⟩)]), (37, .string ⟨(encA (c :: p) ++ [10]).toArray⟩), (52, .bool (!(decide (c ∈ codeL))))] fun TA => ?_
   refine W.cond rfl (fun hc75 => ?_) (fun hc75 => ?_)
   ·have hc75b := hc75
    have hcd : c ∉ codeL := by simpa using hc75b
    refine W.seq ?_
    refine W.drawn (by kernel_rfl) (by kernel_rfl) H.gn ?_
    have H76 := H
    refine RW.val (v := .agg #[.bool false, .bool false, .bool false, .slice none 0 0]) (by kernel_rfl) (by kernel_rfl) (by kernel_rfl) (by kernel_rfl) ?_
    refine RW.ld H76 6 1 ?_
    refine RW.val (v := .agg #[.int .i64 5, .int .i64 a]) (by kernel_rfl) (by kernel_rfl) (by kernel_rfl) (by kernel_rfl) ?_
    refine RW.stD H76 9 (vs := [.bool false, .bool false, .bool false, .slice none 0 0]) (cs' := [.bool false, .bool false, .bool false, .slice none 0 0]) (by kernel_rfl) (by kernel_rfl) rfl rfl rfl rfl rfl (by kernel_rfl) (Nat.le_of_ble_eq_true rfl) rfl (by kernel_rfl) ?_
    intro _ H77
    dsimp only [setL, delL] at H77
    refine RW.stD H77 8 (vs := [.int .i64 5, .int .i64 a]) (cs' := [.int .i64 5, .int .i64 a]) (by kernel_rfl) (by kernel_rfl) rfl rfl rfl rfl rfl (by kernel_rfl) (Nat.le_of_ble_eq_true rfl) rfl (by kernel_rfl) ?_
    intro _ H78
    dsimp only [setL, delL] at H78
    refine RW.nil ?_
    refine ⟨⟨by kernel_rfl, ⟨trivial, dyn_row (H76.get 6 rfl) (H78.get 6 rfl) ⟨nB, nB, nB, fun _ => H76.get 6 rfl, fun _ => H77.get 6 rfl, trivial⟩, trivial, trivial, trivial, trivial⟩⟩, ?_⟩
    replace H := H78
    clear H76 H77 H78
    refine W.ret ?_
    refine seqQ_ret ?_
    refine blkQ_ret ?_
    refine ⟨_, _, _, 1, false, .done, (some .ret), H, rfl, rfl, ?_⟩
    clear H; intro _ lr79 _ hr80 H
    dsimp only [setL, delL] at H
    refine RW.v ?_
    refine RW.nil ?_
    refine W.c1 ?_
    refine W.ret ?_
    refine seqQ_ret ?_
    refine blkQ_ret ?_
    refine rndQ_ret ?_
    refine blkQ_ret ?_
    refine seqQ_ret ?_
    refine endG (by rfl) (by exact rfl) ?_
    refine ⟨_, _, _, 1, _, _, _, _, H, rfl, hr80, rfl, rfl, ?_⟩
    clear H; intro _ H
    dsimp only [setL, delL] at H
    refine blkQ_ret ?_
    refine seqQ_ret ?_
    refine endMark H 1 rfl fun _ H => ?_
    dsimp only [setL, delL] at H
    refine endGD0 (by rfl) (by exact resL_cell rfl (H.get 7 rfl) (by rw [uT_eq]; exact Tryd.underlying24) (by kernel_rfl) rfl rfl (by exact resL_cell rfl (H.get 6 rfl) (by rw [uT_eq]; exact Tryd.underlying33) (by kernel_rfl) rfl rfl rfl)) ?_
    have hpf := parse_fault hv ((congrArg Prod.snd hTd).symm.trans (needs_fault (p := p ++ 10 :: q) (by rw [← (show r = c :: (p ++ 10 :: q) from hr)]; exact hT) hcd))
    rw [hpf]
    exact ⟨F, _, le0, rfl, .nil _ rfl, ((((((((H.del 7).del 6).del 5).del 4).del 3).del 2).del 1).del 0)⟩
   ·have hc75b := hc75
    have hcd : c ∈ codeL := by simpa using hc75b
    refine W.skip ?_
    refine W.seq ?_
    refine W.drawn (by kernel_rfl) (by kernel_rfl) H.gn ?_
    have H81 := H
    refine RW.v ?_
    refine RW.ld H81 7 1 ?_
    refine RW.v ?_
    refine RW.idxF hcv.slf (by kernel_rfl) (by kernel_rfl) rfl Tryd.underlying75 (by kernel_rfl) rfl rfl ⟨by omega, by omega⟩ (by kernel_rfl) ?_
    intro b82 q83 r84 hF85 hE86
    rw [(show _ = [Value.int .i32 c] from runs_at (l := (c :: p)) (j := 0) (i := 0) (by omega) (by omega))] at hE86
    refine RW.loads 1 (by kernel_rfl) (by kernel_rfl) rfl rfl (H81.old _ _ hF85) hE86 rfl (by kernel_rfl) ?_
    refine RW.valE (v' := .int .i64 c) (by kernel_rfl) (by kernel_rfl) rfl (congrArg (Value.int .i64) (wrap_in (by omega) (by omega))) (by kernel_rfl) ?_
    refine RW.v ?_
    obtain ⟨sv, hsv, hks⟩ := slk_rest (P := Tryd.prog) (t := 75) (e := 21) (i := 1) hcv (by kernel_rfl) (by kernel_rfl) (by omega)
    rw [show ((1 : Nat) : Int) = 1 from by omega] at hsv
    have hks2 : SlK F 1 sv p.length (p.map runeV) := hks
    refine RW.vop (v := sv) (by kernel_rfl) (by kernel_rfl) (vop_slice rfl hsv) (by kernel_rfl) ?_
    by_cases hz : p = []
    ·refine RW.vop (v := .string ⟨(encA p).toArray⟩) (by kernel_rfl) (by kernel_rfl) (vop_backP hks2 hz rfl rfl rfl rfl rfl) (by kernel_rfl) ?_
     refine RW.val (v := .agg #[.int .i64 c, .string ⟨(encA p).toArray⟩]) (by kernel_rfl) (by kernel_rfl) (by kernel_rfl) (by kernel_rfl) ?_
     refine RW.mkD H81 (x := .row ⟨[.int .i64 c, .string ⟨(encA p).toArray⟩], 29, false⟩) (fm := fun b => .slice (some ⟨b, 0, none⟩) 1 1) (by kernel_rfl) (by kernel_rfl) (by kernel_rfl) (by kernel_rfl) ?_
     intro _ b87 H88
     refine RW.appLD H88 1 0 (n := 1) (e2 := 29) (by kernel_rfl) (by kernel_rfl) rfl rfl rfl rfl rfl rfl rfl (.inl rfl) rfl (by kernel_rfl) (by kernel_rfl) (by kernel_rfl) (by decide) (by decide) rfl rfl (by omega) (by kernel_rfl) ?_
     intro _ v89 H90
     dsimp only [setL, delL] at H90
     refine RW.v ?_
     refine RW.stD H90 7 (vs := [v89]) (cs' := [.bool (FL.contains 42), .bool (FL.contains 64), .bool (FL.contains 94), v89]) (by kernel_rfl) (by kernel_rfl) rfl rfl rfl (H90.sl 0 rfl).one (gr_all (H90.sl 0 rfl)) (by kernel_rfl) (Nat.le_of_ble_eq_true rfl) rfl (by kernel_rfl) ?_
     intro _ H91
     dsimp only [setL, delL] at H91
     refine RW.nil ?_
     refine ⟨⟨by kernel_rfl, ⟨trivial, Or.inl (by kernel_rfl), trivial, trivial, dyn_row (H81.old _ _ hF85) (H91.old _ _ hF85) ⟨nB, nB, nB, nB, nB, nB, nB, nB, nB, nB, nB, fun _ => H88.old _ _ hF85, nB, fun _ => H90.old _ _ hF85, trivial⟩, trivial, trivial, trivial, trivial, trivial, Or.inl (by kernel_rfl), trivial, trivial, trivial, trivial⟩⟩, ?_⟩
     replace H := H91
     clear H81 H88 H90 H91
     refine W.rg [(2, .pointer (some ⟨b1, 0, none⟩)), (3, .pointer (some ⟨b2, 0, none⟩)), (4, .pointer (some ⟨b3, 0, none⟩)), (7, .pointer (some ⟨b4, 0, none⟩)), (8, .string ⟨(encA (c :: p) ++ [10]).toArray⟩), (36, .func (.func 92) #[] #[.pointer (some ⟨b6, 0, none⟩), .pointer (some ⟨b5, 0, none⟩), .pointer (some ⟨b7, 0, none⟩)]), (37, .string ⟨(encA (c :: p) ++ [10]).toArray⟩)] fun TA => ?_
     refine W.drawn (by kernel_rfl) (by kernel_rfl) H.gn ?_
     have H92 := H
     refine RW.ld H92 6 1 ?_
     refine RW.v ?_
     refine RW.cl ?_
     refine WC.enter (fn := Tryd.f42) Tryd.func42 rfl ?_
     replace H := H92
     refine W.rg [(0, .string ⟨(encA (c :: p) ++ [10]).toArray⟩)] fun TA => ?_
     refine W.seq (W.region ?_)
     refine RW.v ?_
     refine RW.nil ?_
     refine W.rg [(0, .string ⟨(encA (c :: p) ++ [10]).toArray⟩)] fun TA => ?_
     refine W.seq ?_
     refine W.seq (W.region ?_)
     refine RW.v ?_
     refine RW.cl ?_
     refine ⟨_, _, (s_validT (bs := (encA (c :: p) ++ [10])) (ten_valid (fun x h => hch2 x (List.mem_append.2 (.inl h)))) (hU.le (fun b y h => H.old _ _ (le0 b y h))) h16 (by rw [List.length_append]; show _ + 1 ≤ _; omega)), ?_⟩
     refine RW.v ?_
     refine RW.nil ?_
     refine W.c0 ?_
     refine W.skip ?_
     refine W.seq (W.region ?_)
     refine RW.v ?_
     refine RW.cl ?_
     refine ⟨_, _, (s_countE (bs := (encA (c :: p) ++ [10])) (n := (p.length + 2)) (by rw [List.length_append]; show _ + 1 ≤ _; omega) (ten_count (fun x h => hch2 x (List.mem_append.2 (.inl h))))), ?_⟩
     refine RW.v ?_
     refine RW.nil ?_
     refine W.ret ?_
     refine endG (by rfl) (by exact resL_tmp rfl) ?_
     have H93 := H
     refine RW.valE (v' := .int .i64 (a + (((p.length + 2) : Nat) : Int))) (by kernel_rfl) (by kernel_rfl) rfl (congrArg (Value.int .i64) (wrap_in (by omega) (by omega))) (by kernel_rfl) ?_
     refine RW.stD H93 6 (vs := [.int .i64 (a + (((p.length + 2) : Nat) : Int))]) (cs' := [.int .i64 (a + (((p.length + 2) : Nat) : Int))]) (by kernel_rfl) (by kernel_rfl) rfl rfl rfl rfl rfl (by kernel_rfl) (Nat.le_of_ble_eq_true rfl) rfl (by kernel_rfl) ?_
     intro _ H94
     dsimp only [setL, delL] at H94
     refine RW.nil ?_
     refine ⟨⟨by kernel_rfl, ⟨dyn_rowM (H92.get 6 rfl) (Or.inl (by kernel_rfl)) ⟨nB, nB, fun _ => Or.inr (H92.get 6 rfl), nB, fun _ => Or.inr (H93.get 6 rfl), trivial⟩, trivial, trivial, trivial, trivial, trivial⟩⟩, ?_⟩
     replace H := H94
     clear H92 H93 H94
     refine blkQ_normal ?_
     refine ⟨_, _, _, 1, true, .ready, none, H, rfl, rfl, ?_⟩
     clear H; intro _ lr95 _ hr96 H
     dsimp only [setL, delL] at H
     refine RW.v ?_
     refine RW.nil ?_
     refine W.c0 ?_
     refine W.skip ?_
     refine W.region ?_
     refine RW.ld H 5 1 ?_
     refine RW.v ?_
     refine RW.ld H 4 1 ?_
     refine RW.vop (v := .int .i64 1) (by kernel_rfl) (by kernel_rfl) (vop_sLenL (a := ([10] : List UInt8)) rfl rfl rfl rfl Tryd.underlying9 rfl) (by kernel_rfl) ?_
     refine RW.valE (v' := .int .i64 ((((encA (c :: p)).length + 1) : Nat) : Int)) (by kernel_rfl) (by kernel_rfl) rfl (congrArg (Value.int .i64) ((wrap_in (by omega) (by omega)).trans (by omega))) (by kernel_rfl) ?_
     refine RW.vop (v := .string ⟨(encA q).toArray⟩) (by kernel_rfl) (by kernel_rfl) (vop_sTailE (a := encA r) (j := (encA (c :: p)).length + 1) (by rw [hr]; exact ten_drop (c :: p) q) rfl rfl rfl Tryd.underlying9 (by omega)) (by kernel_rfl) ?_
     refine RW.st H 5 [.string ⟨(encA q).toArray⟩] [.string ⟨(encA q).toArray⟩] ?_
     clear H; intro _ _ H; dsimp only [setL, delL] at H
     refine RW.nil ?_
     refine blkQ_normal ?_
     rw [show lr95 = lp10 from hr96.trans hl11.symm] at H
     rw [needC_snoc2, show acc.length + 1 = (acc ++ [(c, encA p)]).length by rw [List.length_append]; rfl] at H
     exact ⟨rfl, q.length, by omega, q, acc ++ [(c, encA p)], (a + ((p.length + 2 : Nat) : Int)), F, v89, (Nat.le_refl _), le0, (fun x h => hch2 x (List.mem_append.2 (.inr (List.mem_cons_of_mem _ h)))), (by omega), (by omega), (by omega), (by rw [List.length_append, List.length_singleton]; omega), (needs_snoc (by rw [← (show r = c :: (p ++ 10 :: q) from hr)]; exact hT) hcd (fun h => hn (List.mem_cons_of_mem _ h))), H, rfl, rfl, rfl, rfl⟩
    ·refine RW.backR H81 hks2.slf (fun c h => hch2 c (List.mem_append.2 (.inl (List.mem_cons_of_mem _ h)))) hz (by kernel_rfl) (by kernel_rfl) rfl rfl rfl rfl rfl (by kernel_rfl) ?_
     intro b97 q98 r99 hF100 hE101
     refine RW.val (v := .agg #[.int .i64 c, .string ⟨(encA p).toArray⟩]) (by kernel_rfl) (by kernel_rfl) (by kernel_rfl) (by kernel_rfl) ?_
     refine RW.mkD H81 (x := .row ⟨[.int .i64 c, .string ⟨(encA p).toArray⟩], 29, false⟩) (fm := fun b => .slice (some ⟨b, 0, none⟩) 1 1) (by kernel_rfl) (by kernel_rfl) (by kernel_rfl) (by kernel_rfl) ?_
     intro _ b102 H103
     refine RW.appLD H103 1 0 (n := 1) (e2 := 29) (by kernel_rfl) (by kernel_rfl) rfl rfl rfl rfl rfl rfl rfl (.inl rfl) rfl (by kernel_rfl) (by kernel_rfl) (by kernel_rfl) (by decide) (by decide) rfl rfl (by omega) (by kernel_rfl) ?_
     intro _ v104 H105
     dsimp only [setL, delL] at H105
     refine RW.v ?_
     refine RW.stD H105 7 (vs := [v104]) (cs' := [.bool (FL.contains 42), .bool (FL.contains 64), .bool (FL.contains 94), v104]) (by kernel_rfl) (by kernel_rfl) rfl rfl rfl (H105.sl 0 rfl).one (gr_all (H105.sl 0 rfl)) (by kernel_rfl) (Nat.le_of_ble_eq_true rfl) rfl (by kernel_rfl) ?_
     intro _ H106
     dsimp only [setL, delL] at H106
     refine RW.nil ?_
     refine ⟨⟨by kernel_rfl, ⟨trivial, Or.inl (by kernel_rfl), trivial, trivial, dyn_row (H81.old _ _ hF85) (H106.old _ _ hF85) ⟨nB, nB, nB, nB, nB, nB, nB, nB, nB, nB, nB, fun _ => H103.old _ _ hF85, nB, fun _ => H105.old _ _ hF85, trivial⟩, trivial, trivial, trivial, dyn_row (H81.old _ _ hF100) (H106.old _ _ hF100) ⟨nB, nB, nB, nB, nB, nB, nB, nB, nB, nB, nB, fun _ => H103.old _ _ hF100, nB, fun _ => H105.old _ _ hF100, trivial⟩, trivial, Or.inl (by kernel_rfl), trivial, trivial, trivial, trivial⟩⟩, ?_⟩
     replace H := H106
     clear H81 H103 H105 H106
     refine W.rg [(2, .pointer (some ⟨b1, 0, none⟩)), (3, .pointer (some ⟨b2, 0, none⟩)), (4, .pointer (some ⟨b3, 0, none⟩)), (7, .pointer (some ⟨b4, 0, none⟩)), (8, .string ⟨(encA (c :: p) ++ [10]).toArray⟩), (36, .func (.func 92) #[] #[.pointer (some ⟨b6, 0, none⟩), .pointer (some ⟨b5, 0, none⟩), .pointer (some ⟨b7, 0, none⟩)]), (37, .string ⟨(encA (c :: p) ++ [10]).toArray⟩)] fun TA => ?_
     refine W.drawn (by kernel_rfl) (by kernel_rfl) H.gn ?_
     have H107 := H
     refine RW.ld H107 6 1 ?_
     refine RW.v ?_
     refine RW.cl ?_
     refine WC.enter (fn := Tryd.f42) Tryd.func42 rfl ?_
     replace H := H107
     refine W.rg [(0, .string ⟨(encA (c :: p) ++ [10]).toArray⟩)] fun TA => ?_
     refine W.seq (W.region ?_)
     refine RW.v ?_
     refine RW.nil ?_
     refine W.rg [(0, .string ⟨(encA (c :: p) ++ [10]).toArray⟩)] fun TA => ?_
     refine W.seq ?_
     refine W.seq (W.region ?_)
     refine RW.v ?_
     refine RW.cl ?_
     refine ⟨_, _, (s_validT (bs := (encA (c :: p) ++ [10])) (ten_valid (fun x h => hch2 x (List.mem_append.2 (.inl h)))) (hU.le (fun b y h => H.old _ _ (le0 b y h))) h16 (by rw [List.length_append]; show _ + 1 ≤ _; omega)), ?_⟩
     refine RW.v ?_
     refine RW.nil ?_
     refine W.c0 ?_
     refine W.skip ?_
     refine W.seq (W.region ?_)
     refine RW.v ?_
     refine RW.cl ?_
     refine ⟨_, _, (s_countE (bs := (encA (c :: p) ++ [10])) (n := (p.length + 2)) (by rw [List.length_append]; show _ + 1 ≤ _; omega) (ten_count (fun x h => hch2 x (List.mem_append.2 (.inl h))))), ?_⟩
     refine RW.v ?_
     refine RW.nil ?_
     refine W.ret ?_
     refine endG (by rfl) (by exact resL_tmp rfl) ?_
     have H108 := H
     refine RW.valE (v' := .int .i64 (a + (((p.length + 2) : Nat) : Int))) (by kernel_rfl) (by kernel_rfl) rfl (congrArg (Value.int .i64) (wrap_in (by omega) (by omega))) (by kernel_rfl) ?_
     refine RW.stD H108 6 (vs := [.int .i64 (a + (((p.length + 2) : Nat) : Int))]) (cs' := [.int .i64 (a + (((p.length + 2) : Nat) : Int))]) (by kernel_rfl) (by kernel_rfl) rfl rfl rfl rfl rfl (by kernel_rfl) (Nat.le_of_ble_eq_true rfl) rfl (by kernel_rfl) ?_
     intro _ H109
     dsimp only [setL, delL] at H109
     refine RW.nil ?_
     refine ⟨⟨by kernel_rfl, ⟨dyn_rowM (H107.get 6 rfl) (Or.inl (by kernel_rfl)) ⟨nB, nB, fun _ => Or.inr (H107.get 6 rfl), nB, fun _ => Or.inr (H108.get 6 rfl), trivial⟩, trivial, trivial, trivial, trivial, trivial⟩⟩, ?_⟩
     replace H := H109
     clear H107 H108 H109
     refine blkQ_normal ?_
     refine ⟨_, _, _, 1, true, .ready, none, H, rfl, rfl, ?_⟩
     clear H; intro _ lr110 _ hr111 H
     dsimp only [setL, delL] at H
     refine RW.v ?_
     refine RW.nil ?_
     refine W.c0 ?_
     refine W.skip ?_
     refine W.region ?_
     refine RW.ld H 5 1 ?_
     refine RW.v ?_
     refine RW.ld H 4 1 ?_
     refine RW.vop (v := .int .i64 1) (by kernel_rfl) (by kernel_rfl) (vop_sLenL (a := ([10] : List UInt8)) rfl rfl rfl rfl Tryd.underlying9 rfl) (by kernel_rfl) ?_
     refine RW.valE (v' := .int .i64 ((((encA (c :: p)).length + 1) : Nat) : Int)) (by kernel_rfl) (by kernel_rfl) rfl (congrArg (Value.int .i64) ((wrap_in (by omega) (by omega)).trans (by omega))) (by kernel_rfl) ?_
     refine RW.vop (v := .string ⟨(encA q).toArray⟩) (by kernel_rfl) (by kernel_rfl) (vop_sTailE (a := encA r) (j := (encA (c :: p)).length + 1) (by rw [hr]; exact ten_drop (c :: p) q) rfl rfl rfl Tryd.underlying9 (by omega)) (by kernel_rfl) ?_
     refine RW.st H 5 [.string ⟨(encA q).toArray⟩] [.string ⟨(encA q).toArray⟩] ?_
     clear H; intro _ _ H; dsimp only [setL, delL] at H
     refine RW.nil ?_
     refine blkQ_normal ?_
     rw [show lr110 = lp10 from hr111.trans hl11.symm] at H
     rw [needC_snoc2, show acc.length + 1 = (acc ++ [(c, encA p)]).length by rw [List.length_append]; rfl] at H
     exact ⟨rfl, q.length, by omega, q, acc ++ [(c, encA p)], (a + ((p.length + 2 : Nat) : Int)), F, v104, (Nat.le_refl _), le0, (fun x h => hch2 x (List.mem_append.2 (.inr (List.mem_cons_of_mem _ h)))), (by omega), (by omega), (by omega), (by rw [List.length_append, List.length_singleton]; omega), (needs_snoc (by rw [← (show r = c :: (p ++ 10 :: q) from hr)]; exact hT) hcd (fun h => hn (List.mem_cons_of_mem _ h))), H, rfl, rfl, rfl, rfl⟩
end Go.Proofs.YthemeeiedlbhkaaDoor
