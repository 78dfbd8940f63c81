/-
  HooksLocal in the second memory. Conditions: the heap lies there as HeapAt says.
-/
import Derived.Test.YtaaebeiigkhcjaaDoorHkb
import Derived.Test.YtaaebeiigkhcjaaDoorHkc
import Derived.Test.YtaaebeiigkhcjaaDoorHkd
import Derived.Test.YtaaebeiigkhcjaaDoorHkRun
import Derived.Test.YtaaebeiigkhcjaaDoorS4
namespace Go.Proofs.YtaaebeiigkhcjaaDoor
set_option maxRecDepth 100000
set_option maxHeartbeats 16000000 in
theorem local_wc {σ0 : Mem} {v1 v2 : Value} {l g : List Int} (hG : G66 ≤ σ0.next) (h16 : 16 ≤ G66) (hno : σ0.abs = Abs.no) (hR : RowsAt rowsH σ0) (hl : SlF σ0.get 1 v1 l.length (l.map (Value.int .i64))) (hg : SlF σ0.get 1 v2 g.length (g.map (Value.int .i64))) (bl : ∀ x ∈ l, -9223372036854775808 ≤ x ∧ x ≤ 9223372036854775807) (bg : ∀ x ∈ g, -9223372036854775808 ≤ x ∧ x ≤ 9223372036854775807) (hN : GNull σ0.get) (hTee : GTee σ0.get) :
    WC G66 Tryd.prog 4 #[v1, v2] σ0 fun v _ => v = .bool true := by
  have H := Lies.start hG hno
  have CL := s_lives h16 σ0 hR
  generalize σ0.get = F at H hl hg hN hTee
  refine WC.enter (fn := Tryd.f4) Tryd.func4 rfl ?_
  refine W.rg [(0, v1), (1, v2)] fun TA => ?_
  refine W.seq ?_
  refine W.region ?_
  refine RW.v ?_
  refine RW.nil ?_
  refine W.rg [(0, v1), (1, v2)] fun TA => ?_
  refine W.seq ?_
  refine W.seq ?_
  refine W.region ?_
  refine RW.call (by kernel_rfl) (by kernel_rfl) rfl rfl rfl (by kernel_rfl) (by kernel_rfl) ⟨_, _, CL, ?_⟩
  clear CL
  refine RW.v ?_
  refine RW.nil ?_
  refine W.rg [(0, v1), (1, v2), (22, .bool false)] fun TA => ?_
  refine W.c0 ?_
  refine W.skip ?_
  refine W.seq ?_
  refine W.seq ?_
  refine W.region ?_
  refine RW.v ?_
  refine RW.v ?_
  refine RW.mkL H (x := .row ⟨[v1, v2], 43, false⟩) (fm := fun b => .slice (some ⟨b, 0, none⟩) 2 2) (by kernel_rfl) (by kernel_rfl) (by rcases slf_forms hl with rfl | ⟨_, rfl⟩ | ⟨_, _, _, _, _, rfl⟩ <;> rcases slf_forms hg with rfl | ⟨_, rfl⟩ | ⟨_, _, _, _, _, rfl⟩ <;> kernel_rfl) (by kernel_rfl) ?_
  clear H; intro _ b1 _ H
  refine RW.cl ?_
  refine WC.enter (fn := Tryd.f13) Tryd.func13 rfl ?_
  refine W.rg [(0, .slice none 0 0), (1, .slice (some ⟨b1, 0, none⟩) 2 2)] fun TA => ?_
  refine W.seq ?_
  refine W.region ?_
  refine RW.v ?_
  refine RW.nil ?_
  refine W.rg [(0, .slice none 0 0), (1, .slice (some ⟨b1, 0, none⟩) 2 2)] fun TA => ?_
  refine W.seq ?_
  refine W.seq ?_
  refine W.region ?_
  refine RW.v ?_
  refine RW.nil ?_
  refine W.rg [(0, .slice none 0 0), (1, .slice (some ⟨b1, 0, none⟩) 2 2), (5, .int .i64 0)] fun TA => ?_
  refine W.block ?_
  refine W.unroll (WL.once ?_)
  refine W.seq ?_
  refine W.seq ?_
  refine W.region ?_
  refine RW.v ?_
  refine RW.v ?_
  refine RW.v ?_
  refine RW.v ?_
  refine RW.nil ?_
  refine W.rg [(0, .slice none 0 0), (1, .slice (some ⟨b1, 0, none⟩) 2 2), (5, .int .i64 0), (9, .bool true)] fun TA => ?_
  refine W.c1 ?_
  refine W.skip ?_
  refine W.seq ?_
  refine W.block ?_
  refine W.seq ?_
  refine W.region ?_
  refine RW.v ?_
  refine RW.v ?_
  refine RW.idx (s := 1) (by kernel_rfl) (by kernel_rfl) rfl Tryd.underlying73 (by kernel_rfl) rfl rfl ⟨by decide, by decide⟩ (by kernel_rfl) ?_
  refine RW.ld H 0 1 ?_
  refine RW.len (by kernel_rfl) (by kernel_rfl) rfl rfl rfl rfl (hl.len (e := 3) (by kernel_rfl)) (by kernel_rfl) ?_
  refine RW.v ?_
  refine RW.nil ?_
  refine W.rg [(0, .slice none 0 0), (1, .slice (some ⟨b1, 0, none⟩) 2 2), (5, .int .i64 0), (17, .bool (decide ((l.length : Int) > 12)))] fun TA => ?_
  refine W.cond rfl (fun hc2 => ?_) (fun hc2 => ?_)
  · have hc2b := hc2
    have hc2 := of_decide_eq_true hc2
    refine W.seq ?_
    refine W.region ?_
    refine RW.v ?_
    refine RW.nil ?_
    refine W.rg [(4, .bool false)] fun TA => ?_
    refine W.ret ?_
    refine blkQ_ret ?_
    refine seqQ_ret ?_
    refine onceQ_ret ?_
    refine blkQ_ret ?_
    refine seqQ_ret ?_
    refine endG (by rfl) (by exact resL_tmp rfl) ?_
    refine RW.v ?_
    refine RW.nil ?_
    replace H := (H.del 0)
    dsimp only [setL, delL] at H
    refine W.rg [(0, v1), (1, v2), (27, .bool true)] fun TA => ?_
    refine W.c1 ?_
    refine W.seq ?_
    refine W.region ?_
    refine RW.v ?_
    refine RW.nil ?_
    refine W.rg [(4, .bool true)] fun TA => ?_
    refine W.ret ?_
    refine seqQ_ret ?_
    refine endG (by rfl) (by exact resL_tmp rfl) ?_
    exact rfl
  · have hc2b := hc2
    have hc2 := of_decide_eq_false hc2
    refine W.skip ?_
    refine blkQ_normal ?_
    refine W.region ?_
    refine RW.v ?_
    refine RW.v ?_
    refine RW.v ?_
    refine RW.nil ?_
    refine WL.once ?_
    refine W.rg [(0, .slice none 0 0), (1, .slice (some ⟨b1, 0, none⟩) 2 2), (5, .int .i64 1)] fun TA => ?_
    refine W.seq ?_
    refine W.seq ?_
    refine W.region ?_
    refine RW.v ?_
    refine RW.v ?_
    refine RW.v ?_
    refine RW.v ?_
    refine RW.nil ?_
    refine W.rg [(0, .slice none 0 0), (1, .slice (some ⟨b1, 0, none⟩) 2 2), (5, .int .i64 1), (9, .bool true)] fun TA => ?_
    refine W.c1 ?_
    refine W.skip ?_
    refine W.seq ?_
    refine W.block ?_
    refine W.seq ?_
    refine W.region ?_
    refine RW.v ?_
    refine RW.v ?_
    refine RW.idx (s := 1) (by kernel_rfl) (by kernel_rfl) rfl Tryd.underlying73 (by kernel_rfl) rfl rfl ⟨by decide, by decide⟩ (by kernel_rfl) ?_
    refine RW.ld H 0 1 ?_
    refine RW.len (by kernel_rfl) (by kernel_rfl) rfl rfl rfl rfl (hg.len (e := 3) (by kernel_rfl)) (by kernel_rfl) ?_
    refine RW.v ?_
    refine RW.nil ?_
    refine W.rg [(0, .slice none 0 0), (1, .slice (some ⟨b1, 0, none⟩) 2 2), (5, .int .i64 1), (17, .bool (decide ((g.length : Int) > 12)))] fun TA => ?_
    refine W.cond rfl (fun hc3 => ?_) (fun hc3 => ?_)
    · have hc3b := hc3
      have hc3 := of_decide_eq_true hc3
      refine W.seq ?_
      refine W.region ?_
      refine RW.v ?_
      refine RW.nil ?_
      refine W.rg [(4, .bool false)] fun TA => ?_
      refine W.ret ?_
      refine blkQ_ret ?_
      refine seqQ_ret ?_
      refine onceQ_ret ?_
      refine blkQ_ret ?_
      refine seqQ_ret ?_
      refine endG (by rfl) (by exact resL_tmp rfl) ?_
      refine RW.v ?_
      refine RW.nil ?_
      replace H := (H.del 0)
      dsimp only [setL, delL] at H
      refine W.rg [(0, v1), (1, v2), (27, .bool true)] fun TA => ?_
      refine W.c1 ?_
      refine W.seq ?_
      refine W.region ?_
      refine RW.v ?_
      refine RW.nil ?_
      refine W.rg [(4, .bool true)] fun TA => ?_
      refine W.ret ?_
      refine seqQ_ret ?_
      refine endG (by rfl) (by exact resL_tmp rfl) ?_
      exact rfl
    · have hc3b := hc3
      have hc3 := of_decide_eq_false hc3
      refine W.skip ?_
      refine blkQ_normal ?_
      refine W.region ?_
      refine RW.v ?_
      refine RW.v ?_
      refine RW.v ?_
      refine RW.nil ?_
      refine WL.once ?_
      refine W.rg [(0, .slice none 0 0), (1, .slice (some ⟨b1, 0, none⟩) 2 2), (5, .int .i64 2)] fun TA => ?_
      refine W.seq ?_
      refine W.seq ?_
      refine W.region ?_
      refine RW.v ?_
      refine RW.v ?_
      refine RW.v ?_
      refine RW.v ?_
      refine RW.nil ?_
      refine W.rg [(0, .slice none 0 0), (1, .slice (some ⟨b1, 0, none⟩) 2 2), (5, .int .i64 2), (9, .bool false)] fun TA => ?_
      refine W.c0 ?_
      refine W.exit _ ?_
      refine seqQ_exit ?_
      refine onceQ_exit ?_
      refine blkQ_here ?_
      refine W.seq ?_
      refine W.region ?_
      refine RW.v ?_
      refine RW.v ?_
      refine RW.v ?_
      refine RW.v ?_
      refine RW.nil ?_
      refine W.rg [(4, .bool true)] fun TA => ?_
      refine W.ret ?_
      refine endG (by rfl) (by exact resL_tmp rfl) ?_
      refine RW.v ?_
      refine RW.nil ?_
      replace H := (H.del 0)
      dsimp only [setL, delL] at H
      refine W.rg [(0, v1), (1, v2), (27, .bool false)] fun TA => ?_
      refine W.c0 ?_
      refine W.skip ?_
      refine W.seq ?_
      refine W.region ?_
      refine RW.cl ?_
      refine WC.enter (fn := Tryd.f6) Tryd.func6 rfl ?_
      refine W.rg [] fun TA => ?_
      refine W.seq ?_
      refine W.region ?_
      refine RW.v ?_
      refine RW.v ?_
      refine RW.nil ?_
      refine W.rg [] fun TA => ?_
      refine W.seq ?_
      refine W.region ?_
      refine RW.call (by kernel_rfl) (by kernel_rfl) rfl rfl rfl (by kernel_rfl) (by kernel_rfl) ((new_lies (G := G66) 2000 (by decide) (by decide) H).mono ?_)
      clear H
      rintro _ _ ⟨h, rfl, H⟩
      refine RW.v ?_
      refine RW.v ?_
      refine RW.v ?_
      refine RW.v ?_
      refine RW.v ?_
      refine RW.nil ?_
      refine W.rg [(2, .pointer (some ⟨h, 0, none⟩)), (3, .int .i64 0)] fun TA => ?_
      refine W.seq ?_
      refine W.region ?_
      refine RW.v ?_
      refine RW.v ?_
      refine RW.v ?_
      refine RW.v ?_
      refine RW.v ?_
      refine RW.nil ?_
      refine W.rg [(0, .pointer (some ⟨h, 0, none⟩)), (1, .bool true)] fun TA => ?_
      refine W.ret ?_
      refine endG (by rfl) (by exact resL_tmp (by exact resL_tmp rfl)) ?_
      refine RW.v ?_
      refine RW.v ?_
      refine RW.v ?_
      refine RW.v ?_
      refine RW.v ?_
      refine RW.nil ?_
      refine W.rg [(0, v1), (1, v2), (5, .pointer (some ⟨h, 0, none⟩)), (6, .bool true)] fun TA => ?_
      refine W.seq ?_
      refine W.seq ?_
      refine W.region ?_
      refine RW.v ?_
      refine RW.v ?_
      refine RW.nil ?_
      refine W.rg [(0, v1), (1, v2), (5, .pointer (some ⟨h, 0, none⟩)), (33, .bool false)] fun TA => ?_
      refine W.c0 ?_
      refine W.skip ?_
      refine W.seq ?_
      refine W.region ?_
      refine RW.v ?_
      refine RW.v ?_
      refine RW.call (by kernel_rfl) (by kernel_rfl) rfl rfl rfl (by kernel_rfl) (by kernel_rfl) ((value_wc (G := G66) (h := h) (m := (hm0 2000)) (l := l) H.gn H.abs rfl (by show 0 + 3 * l.length ≤ 2000; omega) (by decide) (by decide) (hl.le H.old) bl (by omega)).mono ?_)
      rintro _ _ ⟨m1, lw, ws, c1, rfl, E1, hc1, hp1, hl1, hf1, K⟩
      replace H := H.then K
      clear K
      dsimp only [List.nil_append, List.cons_append] at H
      refine RW.v ?_
      refine RW.v ?_
      refine RW.call (by kernel_rfl) (by kernel_rfl) rfl rfl rfl (by kernel_rfl) (by kernel_rfl) ((value_wc (G := G66) (h := h) (m := m1) (l := g) H.gn H.abs E1.free (by have := E1.many; rw [hm0_many] at this; rw [E1.lim]; show _ ≤ 2000; omega) (by rw [E1.lim]; decide) (by rw [E1.lim]; decide) (hg.le H.old) bg (by omega)).mono ?_)
      rintro _ _ ⟨m2, gw, us, c2, rfl, E2, hc2, hp2, hl2, hf2, K⟩
      replace H := H.then K
      clear K
      dsimp only [List.nil_append, List.cons_append] at H
      have lo : 0 < m2.limit := by rw [E2.lim, E1.lim]; decide
      replace hp1 := hp1.mono E2.finds
      have h1 : ws.length ≤ 12 := by omega
      have h2 : us.length ≤ 12 := by omega
      refine RW.mk H (.row ⟨[.int .i64 0, .int .i64 0], 28, false⟩) ?_
      clear H; intro _ b4 _ H
      refine RW.mk H (.row ⟨[.int .i64 0, .int .i64 0], 28, false⟩) ?_
      clear H; intro _ b5 _ H
      refine RW.st H 1 [.int .i64 lw.1, .int .i64 lw.2] [.int .i64 lw.1, .int .i64 lw.2] ?_
      clear H; intro _ _ H
      dsimp only [setL, delL] at H
      refine RW.st H 0 [.int .i64 gw.1, .int .i64 gw.2] [.int .i64 gw.1, .int .i64 gw.2] ?_
      clear H; intro _ _ H
      dsimp only [setL, delL] at H
      refine RW.nil ?_
      refine W.rg [(5, .pointer (some ⟨h, 0, none⟩)), (7, .pointer (some ⟨b4, 0, none⟩)), (8, .pointer (some ⟨b5, 0, none⟩))] fun TA => ?_
      refine W.seq ?_
      refine W.region ?_
      refine RW.v ?_
      refine RW.ld H 1 2 ?_
      refine RW.ld H 0 2 ?_
      refine RW.call (by kernel_rfl) (by kernel_rfl) rfl rfl rfl (by kernel_rfl) (by kernel_rfl) ((functions_wc (h := h) (m := m2) (ws := ws) (us := us) H.gn H.abs lo (elems_list hc1 hp1 lo (by omega) hf1) (elems_list hc2 hp2 lo (by omega) hf2) h1 h2 (hN.le H.old) (hTee.le H.old)).mono ?_)
      rintro _ _ ⟨sla, rfl, K⟩
      replace H := H.then K
      clear K
      dsimp only [List.nil_append, List.cons_append] at H
      obtain ⟨F, lea, hSa, H⟩ := H.freezeSl 0 rfl
      dsimp only [setL, delL] at H
      replace hl := hl.le lea
      replace hg := hg.le lea
      replace hN := hN.le lea
      replace hTee := hTee.le lea
      clear lea
      refine RW.v ?_
      refine RW.v ?_
      refine RW.v ?_
      refine RW.v ?_
      refine RW.v ?_
      refine RW.nil ?_
      refine W.rg [(5, .pointer (some ⟨h, 0, none⟩)), (7, .pointer (some ⟨b4, 0, none⟩)), (8, .pointer (some ⟨b5, 0, none⟩)), (9, sla), (10, .int .i64 0)] fun TA => ?_
      refine W.seq ?_
      refine W.drawn (by kernel_rfl) (by kernel_rfl) H.gn ?_
      have H6 := H
      refine RW.v ?_
      refine RW.cl ?_
      refine WC.enter (fn := Tryd.f10) Tryd.func10 rfl ?_
      replace H := H6
      refine W.rg [(0, .int .i64 1)] fun TA => ?_
      refine W.seq ?_
      refine W.region ?_
      refine RW.mk H (.row ⟨[.int .i64 0, .int .i64 0], 28, false⟩) ?_
      clear H; intro _ b7 _ H
      refine RW.nil ?_
      refine W.rg [(0, .int .i64 1), (2, .pointer (some ⟨b7, 0, none⟩))] fun TA => ?_
      refine W.seq ?_
      refine W.region ?_
      refine RW.v ?_
      refine RW.val (v := .agg #[.int .i64 1, .int .i64 1]) (by kernel_rfl) (by kernel_rfl) (by kernel_rfl) (by kernel_rfl) ?_
      refine RW.st H 0 [.int .i64 1, .int .i64 1] [.int .i64 1, .int .i64 1] ?_
      clear H; intro _ _ H
      dsimp only [setL, delL] at H
      refine RW.nil ?_
      refine W.rg [(2, .pointer (some ⟨b7, 0, none⟩))] fun TA => ?_
      refine W.ret ?_
      refine endG (by rfl) (by exact resL_cell rfl (H.get 0 rfl) (by rw [uT_eq]; exact Tryd.underlying28) (by kernel_rfl) rfl rfl rfl) ?_
      have H8 := H
      refine RW.ld H8 1 2 ?_
      refine RW.call (by kernel_rfl) (by kernel_rfl) rfl rfl rfl (by kernel_rfl) (by kernel_rfl) ((functions_wc (h := h) (m := m2) (ws := [(1, 1)]) (us := us) H8.gn H8.abs lo (elems_T lo) (elems_list hc2 hp2 lo (by omega) hf2) (by decide) h2 (hN.le H8.old) (hTee.le H8.old)).mono ?_)
      rintro _ _ ⟨slb, rfl, K⟩
      have H9 := H8.then K
      dsimp only [List.nil_append, List.cons_append] at H9
      clear K
      refine RW.v ?_
      refine RW.v ?_
      refine RW.v ?_
      refine RW.v ?_
      refine RW.v ?_
      refine RW.nil ?_
      refine ⟨⟨by kernel_rfl, ⟨trivial, trivial, dyn_row (H8.get 1 rfl) (H9.get 2 rfl) ⟨fun h => Bool.noConfusion h, fun _ => H6.get 0 rfl, fun h => Bool.noConfusion h, fun _ => H8.get 1 rfl, fun h => Bool.noConfusion h, fun h => Bool.noConfusion h, fun h => Bool.noConfusion h, fun h => Bool.noConfusion h, fun h => Bool.noConfusion h, trivial⟩, trivial, trivial, trivial, trivial, trivial, trivial, trivial⟩⟩, ?_⟩
      replace H := H9
      clear H6 H8 H9
      obtain ⟨F, leb, hSb, H⟩ := H.freezeSl 0 rfl
      dsimp only [setL, delL] at H
      replace hl := hl.le leb
      replace hg := hg.le leb
      replace hN := hN.le leb
      replace hTee := hTee.le leb
      replace hSa := hSa.le leb
      clear leb
      replace H := (H.del 0)
      dsimp only [setL, delL] at H
      refine W.rg [(5, .pointer (some ⟨h, 0, none⟩)), (7, .pointer (some ⟨b4, 0, none⟩)), (8, .pointer (some ⟨b5, 0, none⟩)), (9, sla), (10, .int .i64 0), (11, slb), (12, .int .i64 0)] fun TA => ?_
      refine W.seq ?_
      refine W.region ?_
      refine RW.v ?_
      refine RW.ld H 1 2 ?_
      refine RW.call (by kernel_rfl) (by kernel_rfl) rfl rfl rfl (by kernel_rfl) (by kernel_rfl) ((slice_k (G := G66) (h := h) (m := m2) hc1 H.gn H.abs lo hp1 (by omega)).mono ?_)
      rintro _ _ ⟨slx, rfl, K⟩
      replace H := H.then K
      clear K
      dsimp only [List.nil_append, List.cons_append] at H
      obtain ⟨F, lex, hSx, H⟩ := H.freezeSl 0 rfl
      dsimp only [setL, delL] at H
      replace hl := hl.le lex
      replace hg := hg.le lex
      replace hN := hN.le lex
      replace hTee := hTee.le lex
      replace hSa := hSa.le lex
      replace hSb := hSb.le lex
      clear lex
      refine RW.v ?_
      refine RW.v ?_
      refine RW.v ?_
      refine RW.v ?_
      refine RW.v ?_
      refine RW.nil ?_
      replace H := (H.del 1)
      dsimp only [setL, delL] at H
      refine W.rg [(5, .pointer (some ⟨h, 0, none⟩)), (8, .pointer (some ⟨b5, 0, none⟩)), (9, sla), (10, .int .i64 0), (11, slb), (12, .int .i64 0), (13, slx), (14, .int .i64 0)] fun TA => ?_
      refine W.seq ?_
      refine W.region ?_
      refine RW.v ?_
      refine RW.ld H 0 2 ?_
      refine RW.call (by kernel_rfl) (by kernel_rfl) rfl rfl rfl (by kernel_rfl) (by kernel_rfl) ((slice_k (G := G66) (h := h) (m := m2) hc2 H.gn H.abs lo hp2 (by omega)).mono ?_)
      rintro _ _ ⟨sly, rfl, K⟩
      replace H := H.then K
      clear K
      dsimp only [List.nil_append, List.cons_append] at H
      obtain ⟨F, ley, hSy, H⟩ := H.freezeSl 0 rfl
      dsimp only [setL, delL] at H
      replace hl := hl.le ley
      replace hg := hg.le ley
      replace hN := hN.le ley
      replace hTee := hTee.le ley
      replace hSa := hSa.le ley
      replace hSb := hSb.le ley
      replace hSx := hSx.le ley
      clear ley
      refine RW.v ?_
      refine RW.v ?_
      refine RW.v ?_
      refine RW.v ?_
      refine RW.v ?_
      refine RW.nil ?_
      replace H := (H.del 0)
      dsimp only [setL, delL] at H
      refine W.rg [(9, sla), (10, .int .i64 0), (11, slb), (12, .int .i64 0), (13, slx), (14, .int .i64 0), (15, sly), (16, .int .i64 0)] fun TA => ?_
      refine W.seq ?_
      refine W.seq ?_
      refine W.region ?_
      refine RW.v ?_
      refine RW.v ?_
      refine RW.v ?_
      refine RW.val (by rfl) (by kernel_rfl) rfl (by kernel_rfl) ?_
      refine RW.val (by rfl) (by kernel_rfl) rfl (by kernel_rfl) ?_
      refine RW.v ?_
      refine RW.v ?_
      refine RW.val (by rfl) (by kernel_rfl) rfl (by kernel_rfl) ?_
      refine RW.val (by rfl) (by kernel_rfl) rfl (by kernel_rfl) ?_
      refine RW.v ?_
      refine RW.v ?_
      refine RW.val (by rfl) (by kernel_rfl) rfl (by kernel_rfl) ?_
      refine RW.val (by rfl) (by kernel_rfl) rfl (by kernel_rfl) ?_
      refine RW.v ?_
      refine RW.nil ?_
      refine W.rg [(9, sla), (11, slb), (13, slx), (15, sly), (79, .bool false)] fun TA => ?_
      refine W.c0 ?_
      refine W.skip ?_
      refine W.seq ?_
      refine W.region ?_
      refine RW.v ?_
      refine RW.v ?_
      refine RW.nil ?_
      refine W.rg [(9, sla), (11, slb), (13, slx), (15, sly), (17, .slice none 0 0), (18, .slice none 0 0)] fun TA => ?_
      refine W.seq ?_
      refine W.seq ?_
      refine W.region ?_
      refine RW.v ?_
      refine RW.nil ?_
      refine W.rg [(9, sla), (11, slb), (13, slx), (15, sly), (17, .slice none 0 0), (18, .slice none 0 0), (19, .int .i64 0)] fun TA => ?_
      refine W.block ?_
      replace H := H.nilSl 28 2
      refine W.loop (fun mm ta σ => ∃ (k : Nat) (u : Value), (mm + k = us.length) ∧ (k ≤ us.length) ∧ Lies G66 (heapAbs h m2) F σ [.sl 28 2 u ((glob (us.take k)).length) (wdC (glob (us.take k)))] ∧ ta 9 = sla ∧ ta 11 = slb ∧ ta 13 = slx ∧ ta 15 = sly ∧ ta 17 = u ∧ ta 18 = .slice none 0 0 ∧ ta 19 = .int .i64 ((k : Nat) : Int)) us.length ?_ ?_
      · exact ⟨0, .slice none 0 0, (by omega), (by omega), H, rfl, rfl, rfl, rfl, rfl, rfl, rfl⟩
      clear H
      rintro mm ta _ ⟨k, u, hm, hkl, H, e9, e11, e13, e15, e17, e18, e19⟩
      refine W.rst [(9, sla), (11, slb), (13, slx), (15, sly), (17, u), (18, .slice none 0 0), (19, .int .i64 ((k : Nat) : Int))] ⟨e9, e11, e13, e15, e17, e18, e19, trivial⟩ fun TA => ?_
      clear e9 e11 e13 e15 e17 e18 e19
      have hbd := glob_le h2 k
      refine W.seq ?_
      refine W.seq ?_
      refine W.region ?_
      refine RW.v ?_
      refine RW.v ?_
      refine RW.len (by kernel_rfl) (by kernel_rfl) rfl rfl rfl rfl (hSy.len (e := 28) (by kernel_rfl)) (by kernel_rfl) ?_
      refine RW.v ?_
      refine RW.nil ?_
      refine W.rg [(9, sla), (11, slb), (13, slx), (15, sly), (17, u), (18, .slice none 0 0), (19, .int .i64 ((k : Nat) : Int)), (83, .bool (decide (((k : Nat) : Int) < (us.length : Int))))] fun TA => ?_
      refine W.cond rfl (fun hc10 => ?_) (fun hc10 => ?_)
      · have hc10b := hc10
        have hc10 := of_decide_eq_true hc10
        have hk : k < us.length := by omega
        refine W.skip ?_
        refine W.seq ?_
        refine W.block ?_
        refine W.seq ?_
        refine W.drawn (by kernel_rfl) (by kernel_rfl) H.gn ?_
        have H11 := H
        refine RW.v ?_
        refine RW.v ?_
        refine RW.idxF hSy (by kernel_rfl) (by kernel_rfl) rfl Tryd.underlying37 (by kernel_rfl) rfl rfl ⟨by omega, by omega⟩ (by kernel_rfl) ?_
        intro b12 q13 r14 hF15 hE16
        rw [wdC_at (l := us) (j := k) (by omega)] at hE16
        refine RW.loads 2 (by kernel_rfl) (by kernel_rfl) rfl rfl (H11.old _ _ hF15) hE16 rfl (by kernel_rfl) ?_
        refine RW.call (by kernel_rfl) (by kernel_rfl) rfl rfl rfl (by kernel_rfl) (by kernel_rfl) ⟨_, _, s_nilK (G := G66), ?_⟩
        refine RW.vop (v := .bool (!(((us.getD k (0, 0)).1) == 1 && ((us.getD k (0, 0)).2) == 0))) (by kernel_rfl) (by kernel_rfl) (vop_eqS (b := (((us.getD k (0, 0)).1) == 1 && ((us.getD k (0, 0)).2) == 0)) (r := !(((us.getD k (0, 0)).1) == 1 && ((us.getD k (0, 0)).2) == 0)) rfl (.inr ⟨rfl, rfl⟩) rfl rfl rfl rfl (by kernel_rfl) (fun w => eqWd _ _ _ _ w)) (by kernel_rfl) ?_
        refine RW.v ?_
        refine RW.both _ _ rfl rfl rfl (fun hc17 => ?_) (fun hc17 => ?_)
        · have hc17b := hc17
          refine RW.val (by rfl) (by kernel_rfl) rfl (by kernel_rfl) ?_
          refine RW.val (by rfl) (by kernel_rfl) rfl (by kernel_rfl) ?_
          refine RW.idxF hSy (by rfl) (by kernel_rfl) rfl Tryd.underlying37 (by kernel_rfl) rfl rfl ⟨by omega, by omega⟩ (by kernel_rfl) ?_
          intro b18 q19 r20 hF21 hE22
          rw [wdC_at (l := us) (j := k) (by omega)] at hE22
          refine RW.loads 2 (by rfl) (by kernel_rfl) rfl rfl (H11.old _ _ hF21) hE22 rfl (by kernel_rfl) ?_
          refine RW.call (by rfl) (by kernel_rfl) rfl rfl rfl (by kernel_rfl) (by kernel_rfl) ?_
          refine WC.enter (fn := Tryd.f16) Tryd.func16 rfl ?_
          replace H := H11
          refine W.rg [] fun TA => ?_
          refine W.seq ?_
          refine W.region ?_
          refine RW.mk H (.row ⟨[.int .i64 0, .int .i64 0], 28, false⟩) ?_
          clear H; intro _ b23 _ H
          refine RW.nil ?_
          refine W.rg [(0, .pointer (some ⟨b23, 0, none⟩))] fun TA => ?_
          refine W.seq ?_
          refine W.region ?_
          refine RW.cl ?_
          refine WC.enter (fn := Tryd.f21) Tryd.func21 rfl ?_
          refine W.rg [(0, .int .i64 1)] fun TA => ?_
          refine W.seq ?_
          refine W.region ?_
          refine RW.mk H (.row ⟨[.int .i64 0, .int .i64 0], 28, false⟩) ?_
          clear H; intro _ b24 _ H
          refine RW.nil ?_
          refine W.rg [(0, .int .i64 1), (2, .pointer (some ⟨b24, 0, none⟩))] fun TA => ?_
          refine W.seq ?_
          refine W.region ?_
          refine RW.v ?_
          refine RW.val (v := .agg #[.int .i64 1, .int .i64 1]) (by kernel_rfl) (by kernel_rfl) (by kernel_rfl) (by kernel_rfl) ?_
          refine RW.st H 0 [.int .i64 1, .int .i64 1] [.int .i64 1, .int .i64 1] ?_
          clear H; intro _ _ H
          dsimp only [setL, delL] at H
          refine RW.nil ?_
          refine W.rg [(2, .pointer (some ⟨b24, 0, none⟩))] fun TA => ?_
          refine W.ret ?_
          refine endG (by rfl) (by exact resL_cell rfl (H.get 0 rfl) (by rw [uT_eq]; exact Tryd.underlying28) (by kernel_rfl) rfl rfl rfl) ?_
          refine RW.st H 1 [.int .i64 1, .int .i64 1] [.int .i64 1, .int .i64 1] ?_
          clear H; intro _ _ H
          dsimp only [setL, delL] at H
          refine RW.nil ?_
          replace H := (H.del 0)
          dsimp only [setL, delL] at H
          refine W.rg [(0, .pointer (some ⟨b23, 0, none⟩))] fun TA => ?_
          refine W.ret ?_
          refine endG (by rfl) (by exact resL_cell rfl (H.get 0 rfl) (by rw [uT_eq]; exact Tryd.underlying28) (by kernel_rfl) rfl rfl rfl) ?_
          have H25 := H
          refine RW.vop (v := .bool (!(((us.getD k (0, 0)).1) == 1 && ((us.getD k (0, 0)).2) == 1))) (by rfl) (by kernel_rfl) (vop_eqS (b := (((us.getD k (0, 0)).1) == 1 && ((us.getD k (0, 0)).2) == 1)) (r := !(((us.getD k (0, 0)).1) == 1 && ((us.getD k (0, 0)).2) == 1)) rfl (.inr ⟨rfl, rfl⟩) rfl rfl rfl rfl (by kernel_rfl) (fun w => eqWd _ _ _ _ w)) (by kernel_rfl) ?_
          refine RW.v ?_
          refine RW.nil ?_
          refine ⟨⟨by kernel_rfl, ⟨trivial, trivial, trivial, dyn_row (H11.old _ _ hF15) (H25.old _ _ hF15) ⟨fun h => Bool.noConfusion h, fun h => Bool.noConfusion h, fun h => Bool.noConfusion h, fun h => Bool.noConfusion h, fun _ => H11.old _ _ hF15, fun h => Bool.noConfusion h, fun h => Bool.noConfusion h, fun h => Bool.noConfusion h, fun h => Bool.noConfusion h, fun h => Bool.noConfusion h, fun h => Bool.noConfusion h, fun _ => H11.old _ _ hF15, fun h => Bool.noConfusion h, fun h => Bool.noConfusion h, trivial⟩, trivial, trivial, trivial, trivial, trivial, trivial, dyn_row (H11.old _ _ hF21) (H25.old _ _ hF21) ⟨fun h => Bool.noConfusion h, fun h => Bool.noConfusion h, fun h => Bool.noConfusion h, fun h => Bool.noConfusion h, fun _ => H11.old _ _ hF21, fun h => Bool.noConfusion h, fun h => Bool.noConfusion h, fun h => Bool.noConfusion h, fun h => Bool.noConfusion h, fun h => Bool.noConfusion h, fun h => Bool.noConfusion h, fun _ => H11.old _ _ hF21, fun h => Bool.noConfusion h, fun h => Bool.noConfusion h, trivial⟩, trivial, trivial, trivial, trivial⟩⟩, ?_⟩
          replace H := H25
          clear H11 H25
          replace H := (H.del 0)
          dsimp only [setL, delL] at H
          refine W.rg [(9, sla), (11, slb), (13, slx), (15, sly), (17, u), (18, .slice none 0 0), (19, .int .i64 ((k : Nat) : Int)), (93, sly), (94, .int .i64 ((k : Nat) : Int)), (95, .pointer (some ⟨b18, q19, none⟩)), (96, .agg #[.int .i64 ((us.getD k (0, 0)).1), .int .i64 ((us.getD k (0, 0)).2)]), (97, .agg #[.int .i64 1, .int .i64 1]), (98, .bool (!(((us.getD k (0, 0)).1) == 1 && ((us.getD k (0, 0)).2) == 1))), (99, .bool (!(((us.getD k (0, 0)).1) == 1 && ((us.getD k (0, 0)).2) == 1)))] fun TA => ?_
          refine W.cond rfl (fun hc26 => ?_) (fun hc26 => ?_)
          · have hc26b := hc26
            refine W.region ?_
            refine RW.v ?_
            refine RW.v ?_
            refine RW.v ?_
            refine RW.idxF hSy (by kernel_rfl) (by kernel_rfl) rfl Tryd.underlying37 (by kernel_rfl) rfl rfl ⟨by omega, by omega⟩ (by kernel_rfl) ?_
            intro b27 q28 r29 hF30 hE31
            rw [wdC_at (l := us) (j := k) (by omega)] at hE31
            refine RW.loads 2 (by kernel_rfl) (by kernel_rfl) rfl rfl (H.old _ _ hF30) hE31 rfl (by kernel_rfl) ?_
            refine RW.mkL H (x := .row ⟨[.int .i64 ((us.getD k (0, 0)).1), .int .i64 ((us.getD k (0, 0)).2)], 28, false⟩) (fm := fun b => .slice (some ⟨b, 0, none⟩) 1 1) (by kernel_rfl) (by kernel_rfl) (by kernel_rfl) (by kernel_rfl) ?_
            clear H; intro _ b32 _ H
            refine RW.appL H 1 0 (n := 1) (e2 := 28) (by kernel_rfl) (by kernel_rfl) rfl rfl rfl rfl rfl rfl rfl rfl (by kernel_rfl) (by kernel_rfl) (by kernel_rfl) (by decide) (by decide) rfl rfl (by omega) (by kernel_rfl) ?_
            clear H; intro _ v33 _ H
            dsimp only [setL, delL] at H
            refine RW.v ?_
            refine RW.nil ?_
            refine blkQ_normal ?_
            refine W.rg [(9, sla), (11, slb), (13, slx), (15, sly), (17, v33), (18, .slice none 0 0), (19, .int .i64 ((k : Nat) : Int)), (93, sly), (94, .int .i64 ((k : Nat) : Int)), (95, .pointer (some ⟨b18, q19, none⟩)), (96, .agg #[.int .i64 ((us.getD k (0, 0)).1), .int .i64 ((us.getD k (0, 0)).2)]), (97, .agg #[.int .i64 1, .int .i64 1]), (98, .bool (!(((us.getD k (0, 0)).1) == 1 && ((us.getD k (0, 0)).2) == 1)))] fun TA => ?_
            refine W.region ?_
            refine RW.v ?_
            refine RW.valE (v' := .int .i64 (((k : Nat) : Int) + 1)) (by kernel_rfl) (by kernel_rfl) rfl (congrArg (Value.int .i64) (wrap_in (by omega) (by omega))) (by kernel_rfl) ?_
            refine RW.v ?_
            refine RW.nil ?_
            rw [wdC_snoc (glob (us.take k)) (us.getD k (0, 0)), len_snoc (glob (us.take k)) (us.getD k (0, 0)), ← glob_one hk (okW_yes hc17) (isT_no hc26)] at H
            exact ⟨rfl, mm - 1, by omega, k + 1, v33, (by omega), (by omega), H, rfl, rfl, rfl, rfl, rfl, rfl, rfl⟩
          · have hc26b := hc26
            refine W.skip ?_
            refine blkQ_normal ?_
            refine W.region ?_
            refine RW.v ?_
            refine RW.valE (v' := .int .i64 (((k : Nat) : Int) + 1)) (by kernel_rfl) (by kernel_rfl) rfl (congrArg (Value.int .i64) (wrap_in (by omega) (by omega))) (by kernel_rfl) ?_
            refine RW.v ?_
            refine RW.nil ?_
            rw [← glob_no hk (.inr (isT_yes hc26))] at H
            exact ⟨rfl, mm - 1, by omega, k + 1, u, (by omega), (by omega), H, rfl, rfl, rfl, rfl, rfl, rfl, rfl⟩
        · have hc17b := hc17
          refine RW.skip (by rfl) (by kernel_rfl) ?_
          refine RW.skip (by rfl) (by kernel_rfl) ?_
          refine RW.skip (by rfl) (by kernel_rfl) ?_
          refine RW.skip (by rfl) (by kernel_rfl) ?_
          refine RW.skip (by rfl) (by kernel_rfl) ?_
          refine RW.skip (by rfl) (by kernel_rfl) ?_
          refine RW.v ?_
          refine RW.nil ?_
          refine ⟨⟨by kernel_rfl, ⟨trivial, trivial, trivial, dyn_row (H11.old _ _ hF15) (H11.old _ _ hF15) ⟨fun h => Bool.noConfusion h, fun h => Bool.noConfusion h, fun h => Bool.noConfusion h, fun h => Bool.noConfusion h, fun _ => H11.old _ _ hF15, fun h => Bool.noConfusion h, fun h => Bool.noConfusion h, fun h => Bool.noConfusion h, fun h => Bool.noConfusion h, fun h => Bool.noConfusion h, fun h => Bool.noConfusion h, fun h => Bool.noConfusion h, fun h => Bool.noConfusion h, fun h => Bool.noConfusion h, trivial⟩, trivial, trivial, trivial, trivial, trivial, trivial, trivial, trivial, trivial, trivial, trivial⟩⟩, ?_⟩
          replace H := H11
          clear H11
          refine W.rg [(9, sla), (11, slb), (13, slx), (15, sly), (17, u), (18, .slice none 0 0), (19, .int .i64 ((k : Nat) : Int)), (93, undef), (94, undef), (95, undef), (96, undef), (97, undef), (98, undef), (99, .bool false)] fun TA => ?_
          refine W.c0 ?_
          refine W.skip ?_
          refine blkQ_normal ?_
          refine W.region ?_
          refine RW.v ?_
          refine RW.valE (v' := .int .i64 (((k : Nat) : Int) + 1)) (by kernel_rfl) (by kernel_rfl) rfl (congrArg (Value.int .i64) (wrap_in (by omega) (by omega))) (by kernel_rfl) ?_
          refine RW.v ?_
          refine RW.nil ?_
          rw [← glob_no hk (.inl (okW_no hc17))] at H
          exact ⟨rfl, mm - 1, by omega, k + 1, u, (by omega), (by omega), H, rfl, rfl, rfl, rfl, rfl, rfl, rfl⟩
      · have hc10b := hc10
        have hc10 := of_decide_eq_false hc10
        obtain rfl : k = us.length := by omega
        refine W.exit _ ?_
        refine seqQ_exit ?_
        refine rndQ_exit ?_
        rw [glob_all] at H
        obtain ⟨F, leg, hSg, H⟩ := H.freezeSl 0 rfl
        dsimp only [setL, delL] at H
        replace hl := hl.le leg
        replace hg := hg.le leg
        replace hN := hN.le leg
        replace hTee := hTee.le leg
        replace hSa := hSa.le leg
        replace hSb := hSb.le leg
        replace hSx := hSx.le leg
        replace hSy := hSy.le leg
        clear leg
        refine blkQ_here ?_
        refine W.seq ?_
        refine W.seq ?_
        refine W.region ?_
        refine RW.v ?_
        refine RW.nil ?_
        refine W.rg [(9, sla), (11, slb), (13, slx), (17, u), (18, .slice none 0 0), (20, .int .i64 0)] fun TA => ?_
        refine W.block ?_
        replace H := H.nilSl 28 2
        refine W.loop (fun mm2 ta σ => ∃ (j : Nat) (u2 : Value), (mm2 + j = ws.length) ∧ (j ≤ ws.length) ∧ Lies G66 (heapAbs h m2) F σ [.sl 28 2 u2 ((flatL (ws.take j) us).length) (wdC (flatL (ws.take j) us))] ∧ ta 9 = sla ∧ ta 11 = slb ∧ ta 13 = slx ∧ ta 17 = u ∧ ta 18 = u2 ∧ ta 20 = .int .i64 ((j : Nat) : Int)) ws.length ?_ ?_
        · exact ⟨0, .slice none 0 0, (by omega), (by omega), H, rfl, rfl, rfl, rfl, rfl, rfl⟩
        clear H
        rintro mm2 ta _ ⟨j, u2, hm2, hjl, H, e9, e11, e13, e17, e18, e20⟩
        refine W.rst [(9, sla), (11, slb), (13, slx), (17, u), (18, u2), (20, .int .i64 ((j : Nat) : Int))] ⟨e9, e11, e13, e17, e18, e20, trivial⟩ fun TA => ?_
        clear e9 e11 e13 e17 e18 e20
        have hbd := flat_le h1 h2 j
        have hbg := glob_len us
        refine W.seq ?_
        refine W.seq ?_
        refine W.region ?_
        refine RW.v ?_
        refine RW.v ?_
        refine RW.len (by kernel_rfl) (by kernel_rfl) rfl rfl rfl rfl (hSx.len (e := 28) (by kernel_rfl)) (by kernel_rfl) ?_
        refine RW.v ?_
        refine RW.nil ?_
        refine W.rg [(9, sla), (11, slb), (13, slx), (17, u), (18, u2), (20, .int .i64 ((j : Nat) : Int)), (110, .bool (decide (((j : Nat) : Int) < (ws.length : Int))))] fun TA => ?_
        refine W.cond rfl (fun hc34 => ?_) (fun hc34 => ?_)
        · have hc34b := hc34
          have hc34 := of_decide_eq_true hc34
          have hj : j < ws.length := by omega
          refine W.skip ?_
          refine W.seq ?_
          refine W.block ?_
          refine W.seq ?_
          refine W.region ?_
          refine RW.v ?_
          refine RW.v ?_
          refine RW.idxF hSx (by kernel_rfl) (by kernel_rfl) rfl Tryd.underlying37 (by kernel_rfl) rfl rfl ⟨by omega, by omega⟩ (by kernel_rfl) ?_
          intro b35 q36 r37 hF38 hE39
          rw [wdC_at (l := ws) (j := j) (by omega)] at hE39
          refine RW.loads 2 (by kernel_rfl) (by kernel_rfl) rfl rfl (H.old _ _ hF38) hE39 rfl (by kernel_rfl) ?_
          refine RW.nil ?_
          refine W.rg [(9, sla), (11, slb), (13, slx), (17, u), (18, u2), (20, .int .i64 ((j : Nat) : Int)), (116, .agg #[.int .i64 ((ws.getD j (0, 0)).1), .int .i64 ((ws.getD j (0, 0)).2)])] fun TA => ?_
          refine W.block ?_
          refine W.seq ?_
          refine W.region ?_
          refine RW.call (by kernel_rfl) (by kernel_rfl) rfl rfl rfl (by kernel_rfl) (by kernel_rfl) ⟨_, _, s_nilK (G := G66), ?_⟩
          refine RW.vop (v := .bool (((ws.getD j (0, 0)).1) == 1 && ((ws.getD j (0, 0)).2) == 0)) (by kernel_rfl) (by kernel_rfl) (vop_eqS (b := (((ws.getD j (0, 0)).1) == 1 && ((ws.getD j (0, 0)).2) == 0)) (r := (((ws.getD j (0, 0)).1) == 1 && ((ws.getD j (0, 0)).2) == 0)) rfl (.inl ⟨rfl, rfl⟩) rfl rfl rfl rfl (by kernel_rfl) (fun w => eqWd _ _ _ _ w)) (by kernel_rfl) ?_
          refine RW.v ?_
          refine RW.nil ?_
          refine W.rg [(9, sla), (11, slb), (13, slx), (17, u), (18, u2), (20, .int .i64 ((j : Nat) : Int)), (116, .agg #[.int .i64 ((ws.getD j (0, 0)).1), .int .i64 ((ws.getD j (0, 0)).2)]), (124, .bool (((ws.getD j (0, 0)).1) == 1 && ((ws.getD j (0, 0)).2) == 0))] fun TA => ?_
          refine W.cond rfl (fun hc40 => ?_) (fun hc40 => ?_)
          · have hc40b := hc40
            refine W.skip ?_
            refine blkQ_normal ?_
            refine blkQ_normal ?_
            refine W.region ?_
            refine RW.v ?_
            refine RW.valE (v' := .int .i64 (((j : Nat) : Int) + 1)) (by kernel_rfl) (by kernel_rfl) rfl (congrArg (Value.int .i64) (wrap_in (by omega) (by omega))) (by kernel_rfl) ?_
            refine RW.v ?_
            refine RW.nil ?_
            rw [← flat_no hj (okW_no' hc40)] at H
            exact ⟨rfl, mm2 - 1, by omega, j + 1, u2, (by omega), (by omega), H, rfl, rfl, rfl, rfl, rfl, rfl⟩
          · have hc40b := hc40
            refine W.seq ?_
            refine W.region ?_
            refine RW.cl ?_
            refine WC.enter (fn := Tryd.f16) Tryd.func16 rfl ?_
            refine W.rg [] fun TA => ?_
            refine W.seq ?_
            refine W.region ?_
            refine RW.mk H (.row ⟨[.int .i64 0, .int .i64 0], 28, false⟩) ?_
            clear H; intro _ b41 _ H
            refine RW.nil ?_
            refine W.rg [(0, .pointer (some ⟨b41, 0, none⟩))] fun TA => ?_
            refine W.seq ?_
            refine W.region ?_
            refine RW.cl ?_
            refine WC.enter (fn := Tryd.f21) Tryd.func21 rfl ?_
            refine W.rg [(0, .int .i64 1)] fun TA => ?_
            refine W.seq ?_
            refine W.region ?_
            refine RW.mk H (.row ⟨[.int .i64 0, .int .i64 0], 28, false⟩) ?_
            clear H; intro _ b42 _ H
            refine RW.nil ?_
            refine W.rg [(0, .int .i64 1), (2, .pointer (some ⟨b42, 0, none⟩))] fun TA => ?_
            refine W.seq ?_
            refine W.region ?_
            refine RW.v ?_
            refine RW.val (v := .agg #[.int .i64 1, .int .i64 1]) (by kernel_rfl) (by kernel_rfl) (by kernel_rfl) (by kernel_rfl) ?_
            refine RW.st H 0 [.int .i64 1, .int .i64 1] [.int .i64 1, .int .i64 1] ?_
            clear H; intro _ _ H
            dsimp only [setL, delL] at H
            refine RW.nil ?_
            refine W.rg [(2, .pointer (some ⟨b42, 0, none⟩))] fun TA => ?_
            refine W.ret ?_
            refine endG (by rfl) (by exact resL_cell rfl (H.get 0 rfl) (by rw [uT_eq]; exact Tryd.underlying28) (by kernel_rfl) rfl rfl rfl) ?_
            refine RW.st H 1 [.int .i64 1, .int .i64 1] [.int .i64 1, .int .i64 1] ?_
            clear H; intro _ _ H
            dsimp only [setL, delL] at H
            refine RW.nil ?_
            replace H := (H.del 0)
            dsimp only [setL, delL] at H
            refine W.rg [(0, .pointer (some ⟨b41, 0, none⟩))] fun TA => ?_
            refine W.ret ?_
            refine endG (by rfl) (by exact resL_cell rfl (H.get 0 rfl) (by rw [uT_eq]; exact Tryd.underlying28) (by kernel_rfl) rfl rfl rfl) ?_
            refine RW.vop (v := .bool (((ws.getD j (0, 0)).1) == 1 && ((ws.getD j (0, 0)).2) == 1)) (by kernel_rfl) (by kernel_rfl) (vop_eqS (b := (((ws.getD j (0, 0)).1) == 1 && ((ws.getD j (0, 0)).2) == 1)) (r := (((ws.getD j (0, 0)).1) == 1 && ((ws.getD j (0, 0)).2) == 1)) rfl (.inl ⟨rfl, rfl⟩) rfl rfl rfl rfl (by kernel_rfl) (fun w => eqWd _ _ _ _ w)) (by kernel_rfl) ?_
            refine RW.v ?_
            refine RW.nil ?_
            replace H := (H.del 0)
            dsimp only [setL, delL] at H
            refine W.rg [(9, sla), (11, slb), (13, slx), (17, u), (18, u2), (20, .int .i64 ((j : Nat) : Int)), (127, .bool (((ws.getD j (0, 0)).1) == 1 && ((ws.getD j (0, 0)).2) == 1))] fun TA => ?_
            refine W.cond rfl (fun hc43 => ?_) (fun hc43 => ?_)
            · have hc43b := hc43
              refine W.region ?_
              refine RW.v ?_
              refine RW.v ?_
              refine RW.appF H 0 (e2 := 28) hSg (by kernel_rfl) (by kernel_rfl) rfl rfl rfl rfl rfl rfl rfl (by kernel_rfl) (by kernel_rfl) (by kernel_rfl) (by decide) (wdC_ones _) (by omega) (by kernel_rfl) ?_
              clear H; intro _ v44 _ H
              dsimp only [setL, delL] at H
              refine RW.v ?_
              refine RW.nil ?_
              refine blkQ_normal ?_
              refine blkQ_normal ?_
              refine W.rg [(9, sla), (11, slb), (13, slx), (17, u), (18, v44), (20, .int .i64 ((j : Nat) : Int))] fun TA => ?_
              refine W.region ?_
              refine RW.v ?_
              refine RW.valE (v' := .int .i64 (((j : Nat) : Int) + 1)) (by kernel_rfl) (by kernel_rfl) rfl (congrArg (Value.int .i64) (wrap_in (by omega) (by omega))) (by kernel_rfl) ?_
              refine RW.v ?_
              refine RW.nil ?_
              rw [← wdC_app, ← List.length_append, ← flat_teeAt hj (okW_yes' hc40) hc43] at H
              exact ⟨rfl, mm2 - 1, by omega, j + 1, v44, (by omega), (by omega), H, rfl, rfl, rfl, rfl, rfl, rfl⟩
            · have hc43b := hc43
              refine W.region ?_
              refine RW.v ?_
              refine RW.v ?_
              refine RW.v ?_
              refine RW.idxF hSx (by kernel_rfl) (by kernel_rfl) rfl Tryd.underlying37 (by kernel_rfl) rfl rfl ⟨by omega, by omega⟩ (by kernel_rfl) ?_
              intro b45 q46 r47 hF48 hE49
              rw [wdC_at (l := ws) (j := j) (by omega)] at hE49
              refine RW.loads 2 (by kernel_rfl) (by kernel_rfl) rfl rfl (H.old _ _ hF48) hE49 rfl (by kernel_rfl) ?_
              refine RW.mkL H (x := .row ⟨[.int .i64 ((ws.getD j (0, 0)).1), .int .i64 ((ws.getD j (0, 0)).2)], 28, false⟩) (fm := fun b => .slice (some ⟨b, 0, none⟩) 1 1) (by kernel_rfl) (by kernel_rfl) (by kernel_rfl) (by kernel_rfl) ?_
              clear H; intro _ b50 _ H
              refine RW.appL H 1 0 (n := 1) (e2 := 28) (by kernel_rfl) (by kernel_rfl) rfl rfl rfl rfl rfl rfl rfl rfl (by kernel_rfl) (by kernel_rfl) (by kernel_rfl) (by decide) (by decide) rfl rfl (by omega) (by kernel_rfl) ?_
              clear H; intro _ v51 _ H
              dsimp only [setL, delL] at H
              refine RW.v ?_
              refine RW.nil ?_
              refine blkQ_normal ?_
              refine blkQ_normal ?_
              refine W.rg [(9, sla), (11, slb), (13, slx), (17, u), (18, v51), (20, .int .i64 ((j : Nat) : Int))] fun TA => ?_
              refine W.region ?_
              refine RW.v ?_
              refine RW.valE (v' := .int .i64 (((j : Nat) : Int) + 1)) (by kernel_rfl) (by kernel_rfl) rfl (congrArg (Value.int .i64) (wrap_in (by omega) (by omega))) (by kernel_rfl) ?_
              refine RW.v ?_
              refine RW.nil ?_
              rw [wdC_snoc (flatL (ws.take j) us) (ws.getD j (0, 0)), len_snoc (flatL (ws.take j) us) (ws.getD j (0, 0)), ← flat_one hj (okW_yes' hc40) hc43] at H
              exact ⟨rfl, mm2 - 1, by omega, j + 1, v51, (by omega), (by omega), H, rfl, rfl, rfl, rfl, rfl, rfl⟩
        · have hc34b := hc34
          have hc34 := of_decide_eq_false hc34
          obtain rfl : j = ws.length := by omega
          refine W.exit _ ?_
          refine seqQ_exit ?_
          refine rndQ_exit ?_
          rw [flat_all] at H
          obtain ⟨F, lew, hSw, H⟩ := H.freezeSl 0 rfl
          dsimp only [setL, delL] at H
          replace hl := hl.le lew
          replace hg := hg.le lew
          replace hN := hN.le lew
          replace hTee := hTee.le lew
          replace hSa := hSa.le lew
          replace hSb := hSb.le lew
          replace hSx := hSx.le lew
          replace hSy := hSy.le lew
          replace hSg := hSg.le lew
          clear lew
          refine blkQ_here ?_
          refine W.seq ?_
          refine W.region ?_
          refine RW.v ?_
          refine RW.v ?_
          refine RW.call (by kernel_rfl) (by kernel_rfl) rfl rfl rfl (by kernel_rfl) (by kernel_rfl) ((same_lies (G := G66) (l1 := flatL ws us) (l2 := flatL ws us) H hSa hSw rfl (by have := flat_le h1 h2 ws.length; rw [flat_all] at this; omega)).mono ?_)
          rintro _ _ ⟨rfl, e⟩
          subst e
          refine RW.v ?_
          refine RW.val (by rfl) (by kernel_rfl) rfl (by kernel_rfl) ?_
          refine RW.val (by rfl) (by kernel_rfl) rfl (by kernel_rfl) ?_
          refine RW.call (by rfl) (by kernel_rfl) rfl rfl rfl (by kernel_rfl) (by kernel_rfl) ((same_lies (G := G66) (l1 := flatL [(1, 1)] us) (l2 := glob us) H hSb hSg (flat_tee us) (by rw [flat_tee]; have := glob_len us; omega)).mono ?_)
          rintro _ _ ⟨rfl, e⟩
          subst e
          refine RW.v ?_
          refine RW.v ?_
          refine RW.nil ?_
          refine W.rg [(4, .bool true)] fun TA => ?_
          refine W.ret ?_
          refine endG (by rfl) (by exact resL_tmp rfl) ?_
          exact rfl
end Go.Proofs.YtaaebeiigkhcjaaDoor
