/-
 KeysTyped in the second memory. Conditions: none.
-/
import Derived.Test.YtpjpefcpbkmilaaDoorKtg
import Derived.Test.YtpjpefcpbkmilaaDoorKmLives
namespace Go.Proofs.YtpjpefcpbkmilaaDoor
open Go.Lib
set_option maxRecDepth 100000
set_option maxHeartbeats 16000000 in
theorem typed_law {G : Nat} {σ0 : Mem} {v1 : Value} {l : List Int} (hG : G ≤ σ0.next) (h16 : 16 ≤ G) (hno : σ0.abs = Abs.no) (hU : U8F σ0.get) (hR : ∀ g cs, (g, cs) ∈ rowsU → ∃ t b, σ0.get g = some (.row ⟨cs, t, b⟩)) (hl : SlF σ0.get 1 v1 l.length (l.map (Value.int .i64))) (hlk : 0 < l.length → SlK σ0.get 1 v1 l.length (l.map (Value.int .i64))) :
  WC G Tryd.prog 5 #[v1] σ0 fun v _ => v = .bool true := by
 have H := Lies.start hG hno
 generalize σ0.get = F0 at H hl hlk hU hR
 obtain ⟨F, hF⟩ : ∃ F, F = F0 := ⟨_, rfl⟩
 have le0 : Le F0 F := fun b y h => hF ▸ h
 rw [← hF] at H
 clear hF
 refine WC.enter (fn := Tryd.f5) Tryd.func5 rfl ?_
 refine W.rg [(0, v1)] fun TA => ?_
 refine W.seq (W.region ?_)
 refine RW.v ?_
 refine RW.nil ?_
 refine W.rg [(0, v1)] fun TA => ?_
 refine W.seq ?_
 refine W.seq (W.region ?_)
 refine RW.cl ?_
 refine ((lives_wc h16 _ (fun g cs hm => by obtain ⟨t, b, hr⟩ := hR g cs hm; exact ⟨t, b, H.old _ _ (le0 _ _ hr)⟩)).mono ?_)
 rintro _ _ ⟨rfl, rfl⟩
 refine RW.v ?_
 refine RW.nil ?_
 refine W.c0 ?_
 refine W.skip ?_
 refine W.seq ?_
 refine W.seq (W.region ?_)
 refine RW.v ?_
 refine RW.len (by kernel_rfl) (by kernel_rfl) rfl rfl rfl rfl ((hl.le le0).len (e := 3) (by kernel_rfl)) (by kernel_rfl) ?_
 refine RW.v ?_
 refine RW.nil ?_
 refine W.rg [(0, v1), (20, .bool (decide ((l.length : Int) > 200)))] fun TA => ?_
 refine W.cond rfl (fun hc1 => ?_) (fun hc1 => ?_)
 ·have hc1b := hc1
  have hc1 := of_decide_eq_true hc1
  refine W.seq (W.region ?_)
  refine RW.v ?_
  refine RW.nil ?_
  refine W.ret ?_
  refine seqQ_ret ?_
  refine endG (by rfl) (by exact resL_tmp rfl) ?_
  exact rfl
 ·have hc1b := hc1
  have hc1 := of_decide_eq_false hc1
  refine W.skip ?_
  refine W.seq (W.region ?_)
  iterate 2 refine RW.v ?_
  refine RW.nil ?_
  refine W.rg [(0, v1), (3, .string ByteArray.empty), (4, .string ByteArray.empty)] fun TA => ?_
  refine W.seq (W.region ?_)
  iterate 2 refine RW.v ?_
  refine RW.nil ?_
  refine W.rg [(0, v1), (3, .string ByteArray.empty), (4, .string ByteArray.empty), (5, .slice none 0 0), (6, .slice none 0 0)] fun TA => ?_
  refine W.seq ?_
  refine W.seq (W.region ?_)
  refine RW.v ?_
  refine RW.nil ?_
  refine W.rg [(0, v1), (3, .string ByteArray.empty), (4, .string ByteArray.empty), (5, .slice none 0 0), (6, .slice none 0 0), (7, .int .i64 0)] fun TA => ?_
  refine W.block ?_
  replace H := (H.nilSl 3 1).nilSl 3 1
  refine W.loop (fun mm ta σ => ∃ (i : Nat) (s : ByteArray) (ms : ByteArray) (u1 : Value) (u2 : Value), (mm + i = l.length) ∧ (s.data.toList = bytesT (toks false ((l.take i).filter goodC))) ∧ (ms.data.toList = bytesT (toks true ((l.take i).filter goodC))) ∧ Lies G Abs.no F σ (.sl 3 1 u1 (((l.take i).filter goodC).length) (((l.take i).filter goodC).map (Value.int .i64)) :: .sl 3 1 u2 (((l.take i).filter goodC).length) ((((l.take i).filter goodC).map (· + 134217728)).map (Value.int .i64)) :: ([])) ∧ ta 0 = v1 ∧ ta 3 = .string s ∧ ta 4 = .string ms ∧ ta 5 = u1 ∧ ta 6 = u2 ∧ ta 7 = .int .i64 ((i : Nat) : Int)) l.length ?_ ?_
  ·exact ⟨0, ⟨#[]⟩, ⟨#[]⟩, .slice none 0 0, .slice none 0 0, (by omega), rfl, rfl, H, rfl, rfl, rfl, rfl, rfl, rfl⟩
  clear H
  rintro mm ta _ ⟨i, s, ms, u1, u2, hm, hs1, hs2, H, e0, e3, e4, e5, e6, e7⟩
  refine W.rst [(0, v1), (3, .string s), (4, .string ms), (5, u1), (6, u2), (7, .int .i64 ((i : Nat) : Int))] ⟨e0, e3, e4, e5, e6, e7, trivial⟩ fun TA => ?_
  clear e0 e3 e4 e5 e6 e7
  refine W.seq ?_
  refine W.seq (W.region ?_)
  iterate 2 refine RW.v ?_
  refine RW.len (by kernel_rfl) (by kernel_rfl) rfl rfl rfl rfl ((hl.le le0).len (e := 3) (by kernel_rfl)) (by kernel_rfl) ?_
  refine RW.v ?_
  refine RW.nil ?_
  refine W.rg [(0, v1), (3, .string s), (4, .string ms), (5, u1), (6, u2), (7, .int .i64 ((i : Nat) : Int)), (24, .bool (decide (((i : Nat) : Int) < (l.length : Int))))] fun TA => ?_
  refine W.cond rfl (fun hc2 => ?_) (fun hc2 => ?_)
  ·have hc2b := hc2
   have hc2 := of_decide_eq_true hc2
   refine W.skip ?_
   refine W.seq ?_
   refine W.block ?_
   refine W.seq (W.region ?_)
   iterate 3 refine RW.v ?_
   refine RW.valE (v' := .int .i64 (((i : Nat) : Int) + 1)) (by kernel_rfl) (by kernel_rfl) rfl (congrArg (Value.int .i64) (wrap_in (by omega) (by omega))) (by kernel_rfl) ?_
   have hil2 : i < l.length := by omega
   obtain ⟨sv, hsv, hsk⟩ := slk_one (P := Tryd.prog) (t := 31) (e := 3) (hlk (by omega)) (by kernel_rfl) (by kernel_rfl) hil2 (by omega)
   refine RW.vop (v := sv) (by kernel_rfl) (by kernel_rfl) (vop_slice rfl hsv) (by kernel_rfl) ?_
   refine RW.cl ?_
   refine ⟨_, _, (s_text1 (x := (l.getD i 0)) (hsk.slf.le fun b y h => H.old b y (le0 b y h))), ?_⟩
   iterate 5 refine RW.v ?_
   refine RW.nil ?_
   refine W.rg [(0, v1), (3, .string s), (4, .string ms), (5, u1), (6, u2), (7, .int .i64 ((i : Nat) : Int)), (8, .string ⟨(textOf [(l.getD i 0)]).toArray⟩), (9, .int .i64 (textE [(l.getD i 0)]))] fun TA => ?_
   refine W.seq ?_
   refine W.seq (W.region ?_)
   iterate 3 refine RW.v ?_
   refine RW.both _ _ rfl rfl rfl (fun hc3 => ?_) (fun hc3 => ?_)
   ·have hc3b := hc3
    have hc3 := bne_iff_ne.1 hc3
    refine RW.skip (by rfl) (by kernel_rfl) ?_
    refine RW.skip (by rfl) (by kernel_rfl) ?_
    refine RW.skip (by rfl) (by kernel_rfl) ?_
    refine RW.skip (by rfl) (by kernel_rfl) ?_
    refine RW.skip (by rfl) (by kernel_rfl) ?_
    iterate 2 refine RW.v ?_
    refine RW.skip (by rfl) (by kernel_rfl) ?_
    refine RW.skip (by rfl) (by kernel_rfl) ?_
    refine RW.skip (by rfl) (by kernel_rfl) ?_
    refine RW.skip (by rfl) (by kernel_rfl) ?_
    refine RW.skip (by rfl) (by kernel_rfl) ?_
    iterate 2 refine RW.v ?_
    refine RW.skip (by rfl) (by kernel_rfl) ?_
    refine RW.skip (by rfl) (by kernel_rfl) ?_
    refine RW.skip (by rfl) (by kernel_rfl) ?_
    refine RW.skip (by rfl) (by kernel_rfl) ?_
    refine RW.skip (by rfl) (by kernel_rfl) ?_
    refine RW.v ?_
    refine RW.nil ?_
    refine W.c1 ?_
    refine W.exit _ ?_
    refine seqQ_exit ?_
    refine blkQ_here ?_
    refine W.region ?_
    refine RW.v ?_
    refine RW.valE (v' := .int .i64 (((i : Nat) : Int) + 1)) (by kernel_rfl) (by kernel_rfl) rfl (congrArg (Value.int .i64) (wrap_in (by omega) (by omega))) (by kernel_rfl) ?_
    refine RW.v ?_
    refine RW.nil ?_
    have hng : goodC (l.getD i 0) = false := not_good (by omega)
    have hfn := filter_no hil2 hng
    exact ⟨rfl, mm - 1, by omega, i + 1, s, ms, u1, u2, (by omega), (by rw [← hfn]; exact hs1), (by rw [← hfn]; exact hs2), (by rw [← hfn]; exact H), rfl, rfl, rfl, rfl, rfl, rfl⟩
   ·have hc3b := hc3
    have hc3 := (bne_eq_false_iff_eq.1) hc3
    have hc0 : chB (l.getD i 0) = true := ch_of (by omega)
    refine RW.val (by rfl) (by kernel_rfl) rfl (by kernel_rfl) ?_
    refine RW.val (by rfl) (by kernel_rfl) rfl (by kernel_rfl) ?_
    refine RW.idxF (hl.le le0) (by rfl) (by kernel_rfl) rfl Tryd.underlying31 (by kernel_rfl) rfl rfl ⟨by omega, by omega⟩ (by kernel_rfl) ?_
    intro b4 q5 r6 hF7 hE8
    rw [ints_at (l := l) (j := i) (by omega)] at hE8
    refine RW.loads 1 (by rfl) (by kernel_rfl) rfl rfl (H.old _ _ hF7) hE8 rfl (by kernel_rfl) ?_
    refine RW.val (by rfl) (by kernel_rfl) rfl (by kernel_rfl) ?_
    iterate 2 refine RW.v ?_
    refine RW.both _ _ rfl rfl rfl (fun hc9 => ?_) (fun hc9 => ?_)
    ·have hc9b := hc9
     have hc9 := eq_of_beq hc9
     refine RW.skip (by rfl) (by kernel_rfl) ?_
     refine RW.skip (by rfl) (by kernel_rfl) ?_
     refine RW.skip (by rfl) (by kernel_rfl) ?_
     refine RW.skip (by rfl) (by kernel_rfl) ?_
     refine RW.skip (by rfl) (by kernel_rfl) ?_
     iterate 2 refine RW.v ?_
     refine RW.skip (by rfl) (by kernel_rfl) ?_
     refine RW.skip (by rfl) (by kernel_rfl) ?_
     refine RW.skip (by rfl) (by kernel_rfl) ?_
     refine RW.skip (by rfl) (by kernel_rfl) ?_
     refine RW.skip (by rfl) (by kernel_rfl) ?_
     refine RW.v ?_
     refine RW.nil ?_
     refine W.c1 ?_
     refine W.exit _ ?_
     refine seqQ_exit ?_
     refine blkQ_here ?_
     refine W.region ?_
     refine RW.v ?_
     refine RW.valE (v' := .int .i64 (((i : Nat) : Int) + 1)) (by kernel_rfl) (by kernel_rfl) rfl (congrArg (Value.int .i64) (wrap_in (by omega) (by omega))) (by kernel_rfl) ?_
     refine RW.v ?_
     refine RW.nil ?_
     have hng : goodC (l.getD i 0) = false := not_good (by omega)
     have hfn := filter_no hil2 hng
     exact ⟨rfl, mm - 1, by omega, i + 1, s, ms, u1, u2, (by omega), (by rw [← hfn]; exact hs1), (by rw [← hfn]; exact hs2), (by rw [← hfn]; exact H), rfl, rfl, rfl, rfl, rfl, rfl⟩
    ·have hc9b := hc9
     have hc9 := ne_of_beq_false hc9
     refine RW.val (by rfl) (by kernel_rfl) rfl (by kernel_rfl) ?_
     refine RW.val (by rfl) (by kernel_rfl) rfl (by kernel_rfl) ?_
     refine RW.idxF (hl.le le0) (by rfl) (by kernel_rfl) rfl Tryd.underlying31 (by kernel_rfl) rfl rfl ⟨by omega, by omega⟩ (by kernel_rfl) ?_
     intro b10 q11 r12 hF13 hE14
     rw [ints_at (l := l) (j := i) (by omega)] at hE14
     refine RW.loads 1 (by rfl) (by kernel_rfl) rfl rfl (H.old _ _ hF13) hE14 rfl (by kernel_rfl) ?_
     refine RW.val (by rfl) (by kernel_rfl) rfl (by kernel_rfl) ?_
     iterate 2 refine RW.v ?_
     refine RW.both _ _ rfl rfl rfl (fun hc15 => ?_) (fun hc15 => ?_)
     ·have hc15b := hc15
      have hc15 := eq_of_beq hc15
      refine RW.skip (by rfl) (by kernel_rfl) ?_
      refine RW.skip (by rfl) (by kernel_rfl) ?_
      refine RW.skip (by rfl) (by kernel_rfl) ?_
      refine RW.skip (by rfl) (by kernel_rfl) ?_
      refine RW.skip (by rfl) (by kernel_rfl) ?_
      refine RW.v ?_
      refine RW.nil ?_
      refine W.c1 ?_
      refine W.exit _ ?_
      refine seqQ_exit ?_
      refine blkQ_here ?_
      refine W.region ?_
      refine RW.v ?_
      refine RW.valE (v' := .int .i64 (((i : Nat) : Int) + 1)) (by kernel_rfl) (by kernel_rfl) rfl (congrArg (Value.int .i64) (wrap_in (by omega) (by omega))) (by kernel_rfl) ?_
      refine RW.v ?_
      refine RW.nil ?_
      have hng : goodC (l.getD i 0) = false := not_good (by omega)
      have hfn := filter_no hil2 hng
      exact ⟨rfl, mm - 1, by omega, i + 1, s, ms, u1, u2, (by omega), (by rw [← hfn]; exact hs1), (by rw [← hfn]; exact hs2), (by rw [← hfn]; exact H), rfl, rfl, rfl, rfl, rfl, rfl⟩
     ·have hc15b := hc15
      have hc15 := ne_of_beq_false hc15
      refine RW.val (by rfl) (by kernel_rfl) rfl (by kernel_rfl) ?_
      refine RW.val (by rfl) (by kernel_rfl) rfl (by kernel_rfl) ?_
      refine RW.idxF (hl.le le0) (by rfl) (by kernel_rfl) rfl Tryd.underlying31 (by kernel_rfl) rfl rfl ⟨by omega, by omega⟩ (by kernel_rfl) ?_
      intro b16 q17 r18 hF19 hE20
      rw [ints_at (l := l) (j := i) (by omega)] at hE20
      refine RW.loads 1 (by rfl) (by kernel_rfl) rfl rfl (H.old _ _ hF19) hE20 rfl (by kernel_rfl) ?_
      refine RW.val (by rfl) (by kernel_rfl) rfl (by kernel_rfl) ?_
      refine RW.v ?_
      refine RW.nil ?_
      refine W.rg [(0, v1), (3, .string s), (4, .string ms), (5, u1), (6, u2), (7, .int .i64 ((i : Nat) : Int)), (8, .string ⟨(textOf [(l.getD i 0)]).toArray⟩), (58, .bool ((l.getD i 0) == 79))] fun TA => ?_
      refine W.cond rfl (fun hc21 => ?_) (fun hc21 => ?_)
      ·have hc21b := hc21
       have hc21 := eq_of_beq hc21
       refine W.exit _ ?_
       refine seqQ_exit ?_
       refine blkQ_here ?_
       refine W.region ?_
       refine RW.v ?_
       refine RW.valE (v' := .int .i64 (((i : Nat) : Int) + 1)) (by kernel_rfl) (by kernel_rfl) rfl (congrArg (Value.int .i64) (wrap_in (by omega) (by omega))) (by kernel_rfl) ?_
       refine RW.v ?_
       refine RW.nil ?_
       have hng : goodC (l.getD i 0) = false := not_good (by omega)
       have hfn := filter_no hil2 hng
       exact ⟨rfl, mm - 1, by omega, i + 1, s, ms, u1, u2, (by omega), (by rw [← hfn]; exact hs1), (by rw [← hfn]; exact hs2), (by rw [← hfn]; exact H), rfl, rfl, rfl, rfl, rfl, rfl⟩
      ·have hc21b := hc21
       have hc21 := ne_of_beq_false hc21
       refine W.skip ?_
       refine W.seq (W.region ?_)
       iterate 2 refine RW.v ?_
       have hg := good_of hc0 (by omega) (by omega) (by omega)
       obtain ⟨hch, _⟩ := hok_of hg
       obtain ⟨x0, x1, x2⟩ := chB_iff.1 hch
       have hz1 := bytes_size hs1
       have hz2 := bytes_size hs2
       have hz3 := text_size (x := (l.getD i 0)) hch
       have hwl : ((l.take i).filter goodC).length ≤ 200 := Nat.le_trans (List.length_filter_le _ _) (by rw [List.length_take]; omega)
       have ht1 := toks_len false ((l.take i).filter goodC)
       have ht2 := toks_len true ((l.take i).filter goodC)
       refine RW.vop (v := .string (s ++ ⟨(textOf [(l.getD i 0)]).toArray⟩)) (by kernel_rfl) (by kernel_rfl) (vop_strAdd rfl rfl rfl (by first | omega | (rw [ByteArray.size_append]; show _ + 1 + _ ≤ _; omega) | (show _ + 1 ≤ _; omega))) (by kernel_rfl) ?_
       refine RW.v ?_
       refine RW.vop (v := .string (ms ++ ⟨#[27]⟩)) (by kernel_rfl) (by kernel_rfl) (vop_strAdd rfl rfl rfl (by first | omega | (rw [ByteArray.size_append]; show _ + 1 + _ ≤ _; omega) | (show _ + 1 ≤ _; omega))) (by kernel_rfl) ?_
       refine RW.v ?_
       refine RW.vop (v := .string ((ms ++ ⟨#[27]⟩) ++ ⟨(textOf [(l.getD i 0)]).toArray⟩)) (by kernel_rfl) (by kernel_rfl) (vop_strAdd rfl rfl rfl (by first | omega | (rw [ByteArray.size_append]; show _ + 1 + _ ≤ _; omega) | (show _ + 1 ≤ _; omega))) (by kernel_rfl) ?_
       iterate 2 refine RW.v ?_
       refine RW.nil ?_
       refine W.rg [(0, v1), (3, .string (s ++ ⟨(textOf [(l.getD i 0)]).toArray⟩)), (4, .string ((ms ++ ⟨#[27]⟩) ++ ⟨(textOf [(l.getD i 0)]).toArray⟩)), (5, u1), (6, u2), (7, .int .i64 ((i : Nat) : Int))] fun TA => ?_
       refine W.seq ?_
       refine W.drawn (by kernel_rfl) (by kernel_rfl) H.gn ?_
       have H22 := H
       iterate 3 refine RW.v ?_
       refine RW.idxF (hl.le le0) (by kernel_rfl) (by kernel_rfl) rfl Tryd.underlying31 (by kernel_rfl) rfl rfl ⟨by omega, by omega⟩ (by kernel_rfl) ?_
       intro b23 q24 r25 hF26 hE27
       rw [ints_at (l := l) (j := i) (by omega)] at hE27
       refine RW.loads 1 (by kernel_rfl) (by kernel_rfl) rfl rfl (H22.old _ _ hF26) hE27 rfl (by kernel_rfl) ?_
       refine RW.mkD H22 (x := .row ⟨[.int .i64 (l.getD i 0)], 3, false⟩) (fm := fun b => .slice (some ⟨b, 0, none⟩) 1 1) (by kernel_rfl) (by kernel_rfl) (by kernel_rfl) (by kernel_rfl) ?_
       intro _ b28 H29
       refine RW.appLD H29 1 0 (n := 1) (e2 := 3) (by kernel_rfl) (by kernel_rfl) rfl rfl rfl rfl rfl rfl rfl (.inl rfl) rfl (by kernel_rfl) (by kernel_rfl) (by kernel_rfl) (by decide) (by decide) rfl rfl (by omega) (by kernel_rfl) ?_
       intro _ v30 H31
       dsimp only [setL, delL] at H31
       iterate 3 refine RW.v ?_
       refine RW.idxF (hl.le le0) (by kernel_rfl) (by kernel_rfl) rfl Tryd.underlying31 (by kernel_rfl) rfl rfl ⟨by omega, by omega⟩ (by kernel_rfl) ?_
       intro b32 q33 r34 hF35 hE36
       rw [ints_at (l := l) (j := i) (by omega)] at hE36
       refine RW.loads 1 (by kernel_rfl) (by kernel_rfl) rfl rfl (H31.old _ _ hF35) hE36 rfl (by kernel_rfl) ?_
       refine RW.valE (v' := .int .i64 ((l.getD i 0) + 134217728)) (by kernel_rfl) (by kernel_rfl) rfl (congrArg (Value.int .i64) (wrap_in (by omega) (by omega))) (by kernel_rfl) ?_
       refine RW.mkD H31 (x := .row ⟨[.int .i64 ((l.getD i 0) + 134217728)], 3, false⟩) (fm := fun b => .slice (some ⟨b, 0, none⟩) 1 1) (by kernel_rfl) (by kernel_rfl) (by kernel_rfl) (by kernel_rfl) ?_
       intro _ b37 H38
       refine RW.appLD H38 2 0 (n := 1) (e2 := 3) (by kernel_rfl) (by kernel_rfl) rfl rfl rfl rfl rfl rfl rfl (.inl rfl) rfl (by kernel_rfl) (by kernel_rfl) (by kernel_rfl) (by decide) (by decide) rfl rfl (by omega) (by kernel_rfl) ?_
       intro _ v39 H40
       dsimp only [setL, delL] at H40
       iterate 2 refine RW.v ?_
       refine RW.nil ?_
       refine ⟨⟨by kernel_rfl, ⟨trivial, trivial, trivial, trivial, dyn_row (H22.old _ _ hF26) (H40.old _ _ hF26) ⟨fun h => Bool.noConfusion h, fun h => Bool.noConfusion h, fun h => Bool.noConfusion h, fun h => Bool.noConfusion h, fun h => Bool.noConfusion h, fun h => Bool.noConfusion h, fun _ => H29.old _ _ hF26, fun h => Bool.noConfusion h, fun h => Bool.noConfusion h, fun h => Bool.noConfusion h, fun h => Bool.noConfusion h, fun h => Bool.noConfusion h, fun h => Bool.noConfusion h, fun h => Bool.noConfusion h, fun _ => H38.old _ _ hF26, fun h => Bool.noConfusion h, fun h => Bool.noConfusion h, trivial⟩, Or.inl (by kernel_rfl), trivial, trivial, trivial, trivial, trivial, dyn_row (H31.old _ _ hF35) (H40.old _ _ hF35) ⟨fun h => Bool.noConfusion h, fun h => Bool.noConfusion h, fun h => Bool.noConfusion h, fun h => Bool.noConfusion h, fun h => Bool.noConfusion h, fun h => Bool.noConfusion h, fun _ => H29.old _ _ hF35, fun h => Bool.noConfusion h, fun h => Bool.noConfusion h, fun h => Bool.noConfusion h, fun h => Bool.noConfusion h, fun h => Bool.noConfusion h, fun h => Bool.noConfusion h, fun h => Bool.noConfusion h, fun _ => H38.old _ _ hF35, fun h => Bool.noConfusion h, fun h => Bool.noConfusion h, trivial⟩, trivial, Or.inl (by kernel_rfl), trivial, trivial, trivial, trivial⟩⟩, ?_⟩
       replace H := H40
       clear H22 H29 H31 H38 H40
       refine W.rg [(0, v1), (3, .string (s ++ ⟨(textOf [(l.getD i 0)]).toArray⟩)), (4, .string ((ms ++ ⟨#[27]⟩) ++ ⟨(textOf [(l.getD i 0)]).toArray⟩)), (5, v30), (6, v39), (7, .int .i64 ((i : Nat) : Int))] fun TA => ?_
       refine W.seq (W.region ?_)
       iterate 2 refine RW.v ?_
       refine RW.idxF (hl.le le0) (by kernel_rfl) (by kernel_rfl) rfl Tryd.underlying31 (by kernel_rfl) rfl rfl ⟨by omega, by omega⟩ (by kernel_rfl) ?_
       intro b41 q42 r43 hF44 hE45
       rw [ints_at (l := l) (j := i) (by omega)] at hE45
       refine RW.loads 1 (by kernel_rfl) (by kernel_rfl) rfl rfl (H.old _ _ hF44) hE45 rfl (by kernel_rfl) ?_
       refine RW.cl ?_
       refine ((self_wc (c := (l.getD i 0)) H).mono ?_)
       rw [show selfM (l.getD i 0) = (if 32 ≤ l.getD i 0 ∧ l.getD i 0 ≠ 127 then (l.getD i 0, true) else (0, false)) from self_good hch]
       clear H
       rintro _ _ ⟨rfl, H⟩
       by_cases hpr : 32 ≤ l.getD i 0 ∧ l.getD i 0 ≠ 127
       ·rw [if_pos hpr]
        iterate 5 refine RW.v ?_
        refine RW.nil ?_
        refine W.rg [(0, v1), (3, .string (s ++ ⟨(textOf [(l.getD i 0)]).toArray⟩)), (4, .string ((ms ++ ⟨#[27]⟩) ++ ⟨(textOf [(l.getD i 0)]).toArray⟩)), (5, v30), (6, v39), (7, .int .i64 ((i : Nat) : Int)), (10, .int .i64 (l.getD i 0)), (11, .bool true)] fun TA => ?_
        refine W.seq ?_
        refine W.seq (W.region ?_)
        iterate 3 refine RW.v ?_
        refine RW.idxF (hl.le le0) (by kernel_rfl) (by kernel_rfl) rfl Tryd.underlying31 (by kernel_rfl) rfl rfl ⟨by omega, by omega⟩ (by kernel_rfl) ?_
        intro b46 q47 r48 hF49 hE50
        rw [ints_at (l := l) (j := i) (by omega)] at hE50
        refine RW.loads 1 (by kernel_rfl) (by kernel_rfl) rfl rfl (H.old _ _ hF49) hE50 rfl (by kernel_rfl) ?_
        refine RW.valE (v' := .bool true) (by kernel_rfl) (by kernel_rfl) rfl (congrArg Value.bool (decide_eq_true (by omega))) (by kernel_rfl) ?_
        refine RW.v ?_
        refine RW.val (by rfl) (by kernel_rfl) rfl (by kernel_rfl) ?_
        refine RW.val (by rfl) (by kernel_rfl) rfl (by kernel_rfl) ?_
        refine RW.idxF (hl.le le0) (by rfl) (by kernel_rfl) rfl Tryd.underlying31 (by kernel_rfl) rfl rfl ⟨by omega, by omega⟩ (by kernel_rfl) ?_
        intro b51 q52 r53 hF54 hE55
        rw [ints_at (l := l) (j := i) (by omega)] at hE55
        refine RW.loads 1 (by rfl) (by kernel_rfl) rfl rfl (H.old _ _ hF54) hE55 rfl (by kernel_rfl) ?_
        refine RW.valE (v' := .bool true) (by rfl) (by kernel_rfl) rfl (congrArg Value.bool (bne_iff_ne.2 (by omega))) (by kernel_rfl) ?_
        iterate 3 refine RW.v ?_
        refine RW.val (by rfl) (by kernel_rfl) rfl (by kernel_rfl) ?_
        refine RW.val (by rfl) (by kernel_rfl) rfl (by kernel_rfl) ?_
        refine RW.val (by rfl) (by kernel_rfl) rfl (by kernel_rfl) ?_
        refine RW.val (by rfl) (by kernel_rfl) rfl (by kernel_rfl) ?_
        refine RW.val (by rfl) (by kernel_rfl) rfl (by kernel_rfl) ?_
        refine RW.idxF (hl.le le0) (by rfl) (by kernel_rfl) rfl Tryd.underlying31 (by kernel_rfl) rfl rfl ⟨by omega, by omega⟩ (by kernel_rfl) ?_
        intro b56 q57 r58 hF59 hE60
        rw [ints_at (l := l) (j := i) (by omega)] at hE60
        refine RW.loads 1 (by rfl) (by kernel_rfl) rfl rfl (H.old _ _ hF59) hE60 rfl (by kernel_rfl) ?_
        refine RW.valE (v' := .bool false) (by rfl) (by kernel_rfl) rfl (congrArg Value.bool (bne_eq_false_iff_eq.2 (by rfl))) (by kernel_rfl) ?_
        refine RW.val (by rfl) (by kernel_rfl) rfl (by kernel_rfl) ?_
        refine RW.v ?_
        refine RW.nil ?_
        refine W.c0 ?_
        refine W.skip ?_
        refine W.seq (W.region ?_)
        iterate 2 refine RW.v ?_
        refine RW.idxF (hl.le le0) (by kernel_rfl) (by kernel_rfl) rfl Tryd.underlying31 (by kernel_rfl) rfl rfl ⟨by omega, by omega⟩ (by kernel_rfl) ?_
        intro b61 q62 r63 hF64 hE65
        rw [ints_at (l := l) (j := i) (by omega)] at hE65
        refine RW.loads 1 (by kernel_rfl) (by kernel_rfl) rfl rfl (H.old _ _ hF64) hE65 rfl (by kernel_rfl) ?_
        refine RW.valE (v' := .int .i64 ((l.getD i 0) + 134217728)) (by kernel_rfl) (by kernel_rfl) rfl (congrArg (Value.int .i64) (wrap_in (by omega) (by omega))) (by kernel_rfl) ?_
        refine RW.cl ?_
        refine ((self_wc (c := (l.getD i 0) + 134217728) H).mono ?_)
        rw [self_meta hch]
        clear H
        rintro _ _ ⟨rfl, H⟩
        iterate 4 refine RW.v ?_
        refine RW.nil ?_
        refine W.rg [(0, v1), (3, .string (s ++ ⟨(textOf [(l.getD i 0)]).toArray⟩)), (4, .string ((ms ++ ⟨#[27]⟩) ++ ⟨(textOf [(l.getD i 0)]).toArray⟩)), (5, v30), (6, v39), (7, .int .i64 ((i : Nat) : Int)), (11, .bool false)] fun TA => ?_
        refine W.seq (W.region ?_)
        refine RW.v ?_
        refine RW.nil ?_
        refine W.c0 ?_
        refine W.skip ?_
        refine blkQ_normal ?_
        refine W.region ?_
        refine RW.v ?_
        refine RW.valE (v' := .int .i64 (((i : Nat) : Int) + 1)) (by kernel_rfl) (by kernel_rfl) rfl (congrArg (Value.int .i64) (wrap_in (by omega) (by omega))) (by kernel_rfl) ?_
        refine RW.v ?_
        refine RW.nil ?_
        have hfy := filter_yes hil2 hg
        exact ⟨rfl, mm - 1, by omega, i + 1, (s ++ ⟨(textOf [(l.getD i 0)]).toArray⟩), ((ms ++ ⟨#[27]⟩) ++ ⟨(textOf [(l.getD i 0)]).toArray⟩), v30, v39, (by omega), (by rw [hfy]; exact add_plain hch hs1), (by rw [hfy]; exact add_meta hch hs2), (by rw [hfy, List.length_append, List.map_append, List.map_append, List.map_append]; exact H), rfl, rfl, rfl, rfl, rfl, rfl⟩
       ·rw [if_neg hpr]
        iterate 5 refine RW.v ?_
        refine RW.nil ?_
        refine W.rg [(0, v1), (3, .string (s ++ ⟨(textOf [(l.getD i 0)]).toArray⟩)), (4, .string ((ms ++ ⟨#[27]⟩) ++ ⟨(textOf [(l.getD i 0)]).toArray⟩)), (5, v30), (6, v39), (7, .int .i64 ((i : Nat) : Int)), (10, .int .i64 0), (11, .bool false)] fun TA => ?_
        refine W.seq ?_
        refine W.seq (W.region ?_)
        iterate 3 refine RW.v ?_
        refine RW.idxF (hl.le le0) (by kernel_rfl) (by kernel_rfl) rfl Tryd.underlying31 (by kernel_rfl) rfl rfl ⟨by omega, by omega⟩ (by kernel_rfl) ?_
        intro b66 q67 r68 hF69 hE70
        rw [ints_at (l := l) (j := i) (by omega)] at hE70
        refine RW.loads 1 (by kernel_rfl) (by kernel_rfl) rfl rfl (H.old _ _ hF69) hE70 rfl (by kernel_rfl) ?_
        iterate 2 refine RW.v ?_
        refine RW.both _ _ rfl rfl rfl (fun hc71 => ?_) (fun hc71 => ?_)
        ·have hc71b := hc71
         have hc71 := of_decide_eq_true hc71
         refine RW.val (by rfl) (by kernel_rfl) rfl (by kernel_rfl) ?_
         refine RW.val (by rfl) (by kernel_rfl) rfl (by kernel_rfl) ?_
         refine RW.idxF (hl.le le0) (by rfl) (by kernel_rfl) rfl Tryd.underlying31 (by kernel_rfl) rfl rfl ⟨by omega, by omega⟩ (by kernel_rfl) ?_
         intro b72 q73 r74 hF75 hE76
         rw [ints_at (l := l) (j := i) (by omega)] at hE76
         refine RW.loads 1 (by rfl) (by kernel_rfl) rfl rfl (H.old _ _ hF75) hE76 rfl (by kernel_rfl) ?_
         refine RW.valE (v' := .bool false) (by rfl) (by kernel_rfl) rfl (congrArg Value.bool (bne_eq_false_iff_eq.2 (by omega))) (by kernel_rfl) ?_
         iterate 3 refine RW.v ?_
         refine RW.val (by rfl) (by kernel_rfl) rfl (by kernel_rfl) ?_
         refine RW.val (by rfl) (by kernel_rfl) rfl (by kernel_rfl) ?_
         refine RW.skip (by rfl) (by kernel_rfl) ?_
         refine RW.skip (by rfl) (by kernel_rfl) ?_
         refine RW.skip (by rfl) (by kernel_rfl) ?_
         refine RW.skip (by rfl) (by kernel_rfl) ?_
         refine RW.skip (by rfl) (by kernel_rfl) ?_
         refine RW.skip (by rfl) (by kernel_rfl) ?_
         refine RW.val (by rfl) (by kernel_rfl) rfl (by kernel_rfl) ?_
         refine RW.v ?_
         refine RW.nil ?_
         refine W.c0 ?_
         refine W.skip ?_
         refine W.seq (W.region ?_)
         iterate 2 refine RW.v ?_
         refine RW.idxF (hl.le le0) (by kernel_rfl) (by kernel_rfl) rfl Tryd.underlying31 (by kernel_rfl) rfl rfl ⟨by omega, by omega⟩ (by kernel_rfl) ?_
         intro b77 q78 r79 hF80 hE81
         rw [ints_at (l := l) (j := i) (by omega)] at hE81
         refine RW.loads 1 (by kernel_rfl) (by kernel_rfl) rfl rfl (H.old _ _ hF80) hE81 rfl (by kernel_rfl) ?_
         refine RW.valE (v' := .int .i64 ((l.getD i 0) + 134217728)) (by kernel_rfl) (by kernel_rfl) rfl (congrArg (Value.int .i64) (wrap_in (by omega) (by omega))) (by kernel_rfl) ?_
         refine RW.cl ?_
         refine ((self_wc (c := (l.getD i 0) + 134217728) H).mono ?_)
         rw [self_meta hch]
         clear H
         rintro _ _ ⟨rfl, H⟩
         iterate 4 refine RW.v ?_
         refine RW.nil ?_
         refine W.rg [(0, v1), (3, .string (s ++ ⟨(textOf [(l.getD i 0)]).toArray⟩)), (4, .string ((ms ++ ⟨#[27]⟩) ++ ⟨(textOf [(l.getD i 0)]).toArray⟩)), (5, v30), (6, v39), (7, .int .i64 ((i : Nat) : Int)), (11, .bool false)] fun TA => ?_
         refine W.seq (W.region ?_)
         refine RW.v ?_
         refine RW.nil ?_
         refine W.c0 ?_
         refine W.skip ?_
         refine blkQ_normal ?_
         refine W.region ?_
         refine RW.v ?_
         refine RW.valE (v' := .int .i64 (((i : Nat) : Int) + 1)) (by kernel_rfl) (by kernel_rfl) rfl (congrArg (Value.int .i64) (wrap_in (by omega) (by omega))) (by kernel_rfl) ?_
         refine RW.v ?_
         refine RW.nil ?_
         have hfy := filter_yes hil2 hg
         exact ⟨rfl, mm - 1, by omega, i + 1, (s ++ ⟨(textOf [(l.getD i 0)]).toArray⟩), ((ms ++ ⟨#[27]⟩) ++ ⟨(textOf [(l.getD i 0)]).toArray⟩), v30, v39, (by omega), (by rw [hfy]; exact add_plain hch hs1), (by rw [hfy]; exact add_meta hch hs2), (by rw [hfy, List.length_append, List.map_append, List.map_append, List.map_append]; exact H), rfl, rfl, rfl, rfl, rfl, rfl⟩
        ·have hc71b := hc71
         have hc71 := of_decide_eq_false hc71
         refine RW.skip (by rfl) (by kernel_rfl) ?_
         refine RW.skip (by rfl) (by kernel_rfl) ?_
         refine RW.skip (by rfl) (by kernel_rfl) ?_
         refine RW.skip (by rfl) (by kernel_rfl) ?_
         refine RW.skip (by rfl) (by kernel_rfl) ?_
         iterate 3 refine RW.v ?_
         refine RW.val (by rfl) (by kernel_rfl) rfl (by kernel_rfl) ?_
         refine RW.val (by rfl) (by kernel_rfl) rfl (by kernel_rfl) ?_
         refine RW.skip (by rfl) (by kernel_rfl) ?_
         refine RW.skip (by rfl) (by kernel_rfl) ?_
         refine RW.skip (by rfl) (by kernel_rfl) ?_
         refine RW.skip (by rfl) (by kernel_rfl) ?_
         refine RW.skip (by rfl) (by kernel_rfl) ?_
         refine RW.skip (by rfl) (by kernel_rfl) ?_
         refine RW.val (by rfl) (by kernel_rfl) rfl (by kernel_rfl) ?_
         refine RW.v ?_
         refine RW.nil ?_
         refine W.c0 ?_
         refine W.skip ?_
         refine W.seq (W.region ?_)
         iterate 2 refine RW.v ?_
         refine RW.idxF (hl.le le0) (by kernel_rfl) (by kernel_rfl) rfl Tryd.underlying31 (by kernel_rfl) rfl rfl ⟨by omega, by omega⟩ (by kernel_rfl) ?_
         intro b82 q83 r84 hF85 hE86
         rw [ints_at (l := l) (j := i) (by omega)] at hE86
         refine RW.loads 1 (by kernel_rfl) (by kernel_rfl) rfl rfl (H.old _ _ hF85) hE86 rfl (by kernel_rfl) ?_
         refine RW.valE (v' := .int .i64 ((l.getD i 0) + 134217728)) (by kernel_rfl) (by kernel_rfl) rfl (congrArg (Value.int .i64) (wrap_in (by omega) (by omega))) (by kernel_rfl) ?_
         refine RW.cl ?_
         refine ((self_wc (c := (l.getD i 0) + 134217728) H).mono ?_)
         rw [self_meta hch]
         clear H
         rintro _ _ ⟨rfl, H⟩
         iterate 4 refine RW.v ?_
         refine RW.nil ?_
         refine W.rg [(0, v1), (3, .string (s ++ ⟨(textOf [(l.getD i 0)]).toArray⟩)), (4, .string ((ms ++ ⟨#[27]⟩) ++ ⟨(textOf [(l.getD i 0)]).toArray⟩)), (5, v30), (6, v39), (7, .int .i64 ((i : Nat) : Int)), (11, .bool false)] fun TA => ?_
         refine W.seq (W.region ?_)
         refine RW.v ?_
         refine RW.nil ?_
         refine W.c0 ?_
         refine W.skip ?_
         refine blkQ_normal ?_
         refine W.region ?_
         refine RW.v ?_
         refine RW.valE (v' := .int .i64 (((i : Nat) : Int) + 1)) (by kernel_rfl) (by kernel_rfl) rfl (congrArg (Value.int .i64) (wrap_in (by omega) (by omega))) (by kernel_rfl) ?_
         refine RW.v ?_
         refine RW.nil ?_
         have hfy := filter_yes hil2 hg
         exact ⟨rfl, mm - 1, by omega, i + 1, (s ++ ⟨(textOf [(l.getD i 0)]).toArray⟩), ((ms ++ ⟨#[27]⟩) ++ ⟨(textOf [(l.getD i 0)]).toArray⟩), v30, v39, (by omega), (by rw [hfy]; exact add_plain hch hs1), (by rw [hfy]; exact add_meta hch hs2), (by rw [hfy, List.length_append, List.map_append, List.map_append, List.map_append]; exact H), rfl, rfl, rfl, rfl, rfl, rfl⟩
  ·have hc2b := hc2
   have hc2 := of_decide_eq_false hc2
   refine W.exit _ ?_
   refine seqQ_exit ?_
   refine rndQ_exit ?_
   obtain rfl : i = l.length := by omega
   rw [List.take_length] at H hs1 hs2
   refine blkQ_here ?_
   refine W.seq (W.region ?_)
   refine RW.v ?_
   refine RW.conv H (e := 5) (cs := s.data.toList.map byteV) (by kernel_rfl) (by kernel_rfl) rfl rfl (by kernel_rfl) (by kernel_rfl) ?_
   clear H; intro _ w1 H
   obtain ⟨F, le, hk1, H⟩ := H.freezeK 0 rfl
   dsimp only [setL, delL] at H
   replace le0 := fun b y h => le b y (le0 b y h)
   rw [List.length_map, hs1] at hk1
   have htl1 : (toks false (l.filter goodC)).length = (l.filter goodC).length := List.length_map ..
   have hfl1 : (l.filter goodC).length ≤ 200 := Nat.le_trans (List.length_filter_le _ _) (by omega)
   refine RW.cl ?_
   refine ((dec_wc (hU.le le0) h16 (toks_ok false l) hk1 (by have := toks_len false (l.filter goodC); omega) (by omega) H).mono ?_)
   clear H
   rintro _ _ ⟨r1, rfl, H⟩
   rw [htl1, toks_false] at H
   iterate 5 refine RW.v ?_
   refine RW.nil ?_
   refine W.rg [(4, .string ms), (5, u1), (6, u2), (12, r1), (13, .slice none 0 0)] fun TA => ?_
   refine W.seq (W.region ?_)
   refine RW.v ?_
   refine RW.conv H (e := 5) (cs := ms.data.toList.map byteV) (by kernel_rfl) (by kernel_rfl) rfl rfl (by kernel_rfl) (by kernel_rfl) ?_
   clear H; intro _ w2 H
   obtain ⟨F, le, hk2, H⟩ := H.freezeK 0 rfl
   dsimp only [setL, delL] at H
   replace le0 := fun b y h => le b y (le0 b y h)
   rw [List.length_map, hs2] at hk2
   have htl2 : (toks true (l.filter goodC)).length = (l.filter goodC).length := List.length_map ..
   have hfl2 : (l.filter goodC).length ≤ 200 := Nat.le_trans (List.length_filter_le _ _) (by omega)
   refine RW.cl ?_
   refine ((dec_wc (hU.le le0) h16 (toks_ok true l) hk2 (by have := toks_len true (l.filter goodC); omega) (by omega) H).mono ?_)
   clear H
   rintro _ _ ⟨r2, rfl, H⟩
   rw [htl2, toks_true] at H
   iterate 5 refine RW.v ?_
   refine RW.nil ?_
   refine W.rg [(5, u1), (6, u2), (12, r1), (13, .slice none 0 0), (14, r2), (15, .slice none 0 0)] fun TA => ?_
   refine W.seq (W.region ?_)
   iterate 2 refine RW.v ?_
   refine RW.cl ?_
   refine ((same_intK (l := (l.filter goodC)) (gr_len (gr_slk (H.sl 1 rfl)).slf (by simp)) (gr_len (gr_slk (H.sl 2 rfl)).slf (by simp)) (by have := hfl1; first | omega | (rw [List.length_map]; omega)) (Lies.start H.gn H.abs)).mono ?_)
   rintro _ _ ⟨rfl, K⟩
   replace H : Lies G (Abs.no) F _ (.sl 3 1 r2 ((l.filter goodC).length) (((l.filter goodC).map (· + 134217728)).map (Value.int .i64)) :: .sl 3 1 r1 ((l.filter goodC).length) ((l.filter goodC).map (Value.int .i64)) :: .sl 3 1 u1 ((l.filter goodC).length) ((l.filter goodC).map (Value.int .i64)) :: .sl 3 1 u2 ((l.filter goodC).length) (((l.filter goodC).map (· + 134217728)).map (Value.int .i64)) :: ([])) := Lies.then H K
   clear K
   refine RW.v ?_
   refine RW.val (by rfl) (by kernel_rfl) rfl (by kernel_rfl) ?_
   refine RW.val (by rfl) (by kernel_rfl) rfl (by kernel_rfl) ?_
   refine RW.val (by rfl) (by kernel_rfl) rfl (by kernel_rfl) ?_
   iterate 2 refine RW.v ?_
   refine RW.val (by rfl) (by kernel_rfl) rfl (by kernel_rfl) ?_
   refine RW.val (by rfl) (by kernel_rfl) rfl (by kernel_rfl) ?_
   refine RW.cl (hw := by rfl) ?_
   refine ((same_intK (l := ((l.filter goodC).map (· + 134217728))) (gr_len (gr_slk (H.sl 0 rfl)).slf (by simp)) (gr_len (gr_slk (H.sl 3 rfl)).slf (by simp)) (by have := hfl1; first | omega | (rw [List.length_map]; omega)) (Lies.start H.gn H.abs)).mono ?_)
   rintro _ _ ⟨rfl, K⟩
   replace H : Lies G (Abs.no) F _ (.sl 3 1 r2 ((l.filter goodC).length) (((l.filter goodC).map (· + 134217728)).map (Value.int .i64)) :: .sl 3 1 r1 ((l.filter goodC).length) ((l.filter goodC).map (Value.int .i64)) :: .sl 3 1 u1 ((l.filter goodC).length) ((l.filter goodC).map (Value.int .i64)) :: .sl 3 1 u2 ((l.filter goodC).length) (((l.filter goodC).map (· + 134217728)).map (Value.int .i64)) :: ([])) := Lies.then H K
   clear K
   iterate 2 refine RW.v ?_
   refine RW.val (by rfl) (by kernel_rfl) rfl (by kernel_rfl) ?_
   refine RW.val (by rfl) (by kernel_rfl) rfl (by kernel_rfl) ?_
   refine RW.val (by rfl) (by kernel_rfl) rfl (by kernel_rfl) ?_
   iterate 2 refine RW.v ?_
   refine RW.nil ?_
   replace H := ((((H.del 3).del 2).del 1).del 0)
   dsimp only [setL, delL] at H
   refine W.ret ?_
   refine endG (by rfl) (by exact resL_tmp rfl) ?_
   exact rfl
end Go.Proofs.YtpjpefcpbkmilaaDoor
