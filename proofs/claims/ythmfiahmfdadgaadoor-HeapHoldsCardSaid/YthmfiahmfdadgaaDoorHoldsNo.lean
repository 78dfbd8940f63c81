/-
  HeapHolds where there are words, the string not valid: the law returns true; nothing that lay before is changed. Conditions: the tables of unicode/utf8 lie as laid.
-/
import Derived.Test.YthmfiahmfdadgaaDoorHolds
namespace Go.Proofs.YthmfiahmfdadgaaDoor
open Go.RowKit
set_option maxRecDepth 100000
set_option maxHeartbeats 4000000 in
theorem holds_no (ab ao : Nat) (n c : Nat) (l : List Wd) (s : ByteArray) (i : Int) (x : Wd) (w : World) (hT : Tabs w) (hab : ab < w.heap.size) (hnl : l.length = n) (hw : WordsFrom w ab ao l) (hn0 : 0 < n) (hn : n ≤ 60) (hs : s.size ≤ 300) (hilo : -9223372036854775808 ≤ i) (hihi : i ≤ 9223372036854775807) (hv : Lib.validD s.data.toList = false) :
    Calls Tryd.prog 3 #[.slice (some ⟨ab, ao, none⟩) n c, .string s, .int .i64 i, .agg #[.int .i64 x.1, .int .i64 x.2]] w fun e w' => e = .returned (.bool true) ∧ Below w.heap.size w w' := by
  obtain ⟨xk, xn⟩ := x
  obtain ⟨i0, hi, hz0, hz1, hz2⟩ := info_parts info_word
  have hr : Reads w w.heap.size 2 (some ⟨ab, ao, none⟩) n (wdC l) := by rw [← hnl]; exact hw.reads _ hab
  have A1 : Below w.heap.size w (w.alloc (.cells #[.int .i64 xk, .int .i64 xn] 24)) := (Below.refl _ _).alloc (Nat.le_refl _) _
  have C := Lib.hid (lives_any _ (tabs_later hT A1))
  have d1 : decide ((60 : Int) < (n : Int)) = false := decide_eq_false (by omega)
  have d2 : decide ((300 : Int) < (s.size : Int)) = false := decide_eq_false (by omega)
  have HR := Lib.hid hr
  have HT := Lib.hid hT
  have HNL := Lib.hid hnl
  have HW := Lib.hid hw
  have X0 := Lib.hid (Blk.new w 24 #[.int .i64 xk, .int .i64 xn])
  have HV := Lib.hid hv
  clear hT hr hnl hv hw
  go_enter Tryd.func3, Tryd.ntmps3
  go_wp2_with fail
  refine C.out.mono ?_
  rintro e w1 ⟨rfl, hb1⟩
  have B1 := A1.trans (hb1.mono A1.size)
  have X1 := Lib.hid (X0.out.below hb1)
  clear C A1 hb1 X0
  go_wp2_with fail
  refine (new_law 200 w1 (by omega) (by omega)).mono ?_
  rintro e w2 ⟨rfl, L2⟩
  have H2 := Lib.hid L2
  have X2 := Lib.hid (VarAt.mk (S := Own.one w1.heap.size) (X1.out.below L2.bel) (by have := X1.out.lt; simp [Own.one]; omega))
  have HR2 := Lib.hid ((HR.out.below B1).below (L2.bel.mono B1.size))
  clear L2 X1
  generalize w1.heap.size = p at H2 X2 ⊢
  generalize Own.one p = S2 at H2 X2
  have hsz2 := H2.out.bel.size
  have hsz1 := B1.size
  go_wp2_with fail
  refine (vec_new S2 p _ (some ⟨ab, ao, none⟩) n c l w2 H2.out.heap (by omega) (HR2.out.more (by omega)) (by decide) rfl (by simp [HM.used]; omega)).mono ?_
  rintro e w3 ⟨S3, he3, hH3, hT3⟩
  obtain rfl : e = .returned (.tuple #[.agg #[.int .i64 4, .int .i64 0], .int .i64 0]) := he3
  have H3 := Lib.hid (H2.out.turn hH3 hT3)
  have X3 := Lib.hid (X2.out.turn hT3)
  clear hH3 hT3 H2 X2 HR2
  go_wp2_with fail
  have V4 := Lib.hid (VarAt.new H3.out.heap 24 #[.int .i64 4, .int .i64 0])
  have hb4 := (Below.refl w3.heap.size w3).alloc (Nat.le_refl _) (.cells #[.int .i64 4, .int .i64 0] 24)
  have H4 := Lib.hid (H3.out.below hb4)
  have X4 := Lib.hid (X3.out.below hb4)
  clear H3 X3 hb4
  generalize w3.alloc (.cells #[.int .i64 4, .int .i64 0] 24) = w4 at V4 X4 H4 ⊢
  generalize w3.heap.size = bv at V4 ⊢
  refine (text_bad S3 p _ s w4 H4.out.heap (by omega) (H4.out.tabs (tabs_later HT.out B1)).1 (H4.out.tabs (tabs_later HT.out B1)).2 HV.out).mono ?_
  rintro e w5 ⟨rfl, hb5⟩
  have H5 := Lib.hid (H4.out.below hb5)
  have X5 := Lib.hid (X4.out.below hb5)
  have V5 := Lib.hid (V4.out.below hb5)
  clear hb5 H4 X4 V4
  go_wp2_with fail
  have T6 := Lib.hid (VarAt.new H5.out.heap 24 #[.int .i64 0, .int .i64 0])
  have hb6 := (Below.refl w5.heap.size w5).alloc (Nat.le_refl _) (.cells #[.int .i64 0, .int .i64 0] 24)
  have H6 := Lib.hid (H5.out.below hb6)
  have X6 := Lib.hid (X5.out.below hb6)
  have V6 := Lib.hid (V5.out.below hb6)
  clear H5 X5 V5 hb6
  go_wp2_with fail
  generalize w5.alloc (.cells #[.int .i64 0, .int .i64 0] 24) = w6 at T6 V6 X6 H6 ⊢
  generalize w5.heap.size = bt at T6 ⊢
  obtain ⟨m6, hm6⟩ : ∃ m6 : HM, m6 = ⟨200, [some (.vec l)], []⟩ := ⟨_, rfl⟩
  have H6' : Hid (LawAt w1 w6 S3 p m6) := by rw [hm6]; exact H6.out
  have HM6 := Lib.hid hm6
  clear hm6 H6
  have hx6 := X6.out.blk.lt
  have hv6 := V6.out.blk.lt
  have ht6 := T6.out.blk.lt
  go_loopw [15, 16] (fun cs q wr => ∃ (k : Nat) (S : Own), k ≤ n ∧ q = .int .i64 k ∧ LawAt w1 wr S p { m6 with objs := m6.objs ++ consAll l k } ∧ VarAt wr S w.heap.size 24 #[.int .i64 xk, .int .i64 xn] ∧ VarAt wr S bv 24 #[.int .i64 4, .int .i64 0] ∧ VarAt wr S bt 24 #[.int .i64 0, .int .i64 0] ∧ RowAt wr S w6.heap.size 24 2 cs k (wdC (consWd 1 k)) ∧ w6.heap.size ≤ wr.heap.size) (fun _ q _ => n - (intOf q).toNat)
  case atStart => exact ⟨0, _, Nat.zero_le _, rfl, by simpa [consAll] using H6'.out, X6.out, V6.out, T6.out, RowAt.nil _ _ _ _ _, Nat.le_refl _⟩
  case round =>
    obtain ⟨k, S, hk, rfl, hL, hX, hV, hTt, hRw, hsz⟩ := hrel
    by_cases hkn : k < n
    · have hkl : l[k]? = some (l[k]'(by rw [HNL.out]; exact hkn)) := List.getElem?_eq_getElem _
      generalize (l[k]'(by rw [HNL.out]; exact hkn)) = y at hkl
      obtain ⟨yk, yn⟩ := y
      have WF : WordsFrom wr ab ao l := HW.out.keep ((hL.bel.block ab (by omega)).trans (B1.block ab hab))
      obtain ⟨g0, g1⟩ := WF k _ hkl
      simp only at g0 g1
      have v0 : wr.cell? ⟨bv, 0, none⟩ = some (.int .i64 4) := hV.blk.cell 0
      have v1 : wr.cell? ⟨bv, 1, none⟩ = some (.int .i64 0) := hV.blk.cell 1
      have i1 : (0 : Int) ≤ (k : Int) := by omega
      have i2 : (k : Int) < (n : Int) := by omega
      have HL := Lib.hid hL
      have HX := Lib.hid hX
      have HVv := Lib.hid hV
      have HTt := Lib.hid hTt
      have HRw := Lib.hid hRw
      have HKL := Lib.hid hkl
      clear hL hX hV hTt hRw hkl WF
      have hSab : S ab = none := HL.out.out ab (by omega)
      have hSbv : S bv = none := HVv.out.out
      have lab : ab < wr.heap.size := World.block_lt_of_cell? _ _ g0
      have lbv : bv < wr.heap.size := World.block_lt_of_cell? _ _ v0
      have nab : ab ≠ wr.heap.size := by omega
      have nbv : bv ≠ wr.heap.size := by omega
      have hSn : S wr.heap.size = none := (VarAt.new HL.out.heap 24 #[]).out
      have CC := Lib.hid (fun (V : World) (hV : Below wr.heap.size wr V) => (cons_new S p { m6 with objs := m6.objs ++ consAll l k } (yk, yn) (4, 0) V (HL.out.heap.below hV) (by have := HL.out.heap.ok.free; have := consAll_length l k (by rw [HNL.out]; omega); rw [HM6.out] at *; simp at *; omega) (by rw [HM6.out])).mono fun e w' h => h.at_ hV (m' := { m6 with objs := m6.objs ++ consAll l (k + 1) }) (N := 1 + (k : Int)) (by rw [consAll_succ l k _ HKL.out]; simp [HM.push]) (by have := consAll_length l k (by rw [HNL.out]; omega); rw [HM6.out]; simp [this]; omega))
      have k0 : wr.drew.cell? ⟨ab, ao + k * 2, none⟩ = some (.int .i64 yk) := g0
      have k1 : wr.drew.cell? ⟨ab, ao + k * 2 + 1, none⟩ = some (.int .i64 yn) := g1
      have k2 : wr.drew.cell? ⟨bv, 0, none⟩ = some (.int .i64 4) := v0
      have k3 : wr.drew.cell? ⟨bv, 1, none⟩ = some (.int .i64 0) := v1
      go_wp2_with fail
      go_region_held3 (fun w' => w'.cell? ⟨ab, ao + k * 2, none⟩ = some (.int .i64 yk) ∧ w'.cell? ⟨ab, ao + k * 2 + 1, none⟩ = some (.int .i64 yn) ∧ w'.cell? ⟨bv, 0, none⟩ = some (.int .i64 4) ∧ w'.cell? ⟨bv, 1, none⟩ = some (.int .i64 0))
        (first | exact ⟨k0, k1, k2, k3⟩ | exact ⟨al_cell k0, al_cell k1, al_cell k2, al_cell k3⟩ | exact ⟨kc0, kc1, kc2, kc3⟩ | exact ⟨al_cell kc0, al_cell kc1, al_cell kc2, al_cell kc3⟩ | exact ⟨st_cell (st_cell kc0 nab) nab, st_cell (st_cell kc1 nab) nab, st_cell (st_cell kc2 nbv) nbv, st_cell (st_cell kc3 nbv) nbv⟩)
        (first | (go_at_call 12; refine (CC.out _ ?_).mono ?_; (first | exact (Below.refl _ _).drew | exact ((Below.refl _ _).alloc (Nat.le_refl _) _).drew); rintro e wc ⟨Sc, rfl, hHc, hTc, hTw⟩; have kc0 := turn_cell hTw hSab g0; have kc1 := turn_cell hTw hSab g1; have kc2 := turn_cell hTw hSbv v0; have kc3 := turn_cell hTw hSbv v1; (try (have vb : VarAt wc Sc wr.heap.size 24 #[.int .i64 0, .int .i64 0] := VarAt.turn ⟨Blk.new wr _ _, hSn⟩ (Turn.of_drew hTc); have q0 : wc.cell? ⟨wr.heap.size, 0, none⟩ = some (.int .i64 0) := vb.blk.cell 0; have q1 : wc.cell? ⟨wr.heap.size, 1, none⟩ = some (.int .i64 0) := vb.blk.cell 1; have z0 := vb.blk.frozen 0; have z1 := vb.blk.frozen 1))))
      all_goals
        have HLc := HL.out.turn hHc hTw
        have HXc := HX.out.turn hTw
        have HVc := HVv.out.turn hTw
        have HTc := HTt.out.turn hTw
        have HRc := HRw.out.turn hTw
        have hrl := fun g hg => (HRw.out.row.lt g hg).2
        have hw16 := H6'.out.bel.size
        have hwcs := hTw.size
        have hlx := HX.out.blk.lt
        have hlt := HTt.out.blk.lt
      rotate_left
      · have hB := vb
        have VC := (vb.set 0 (.int .i64 2)).set 1 (.int .i64 (1 + (k : Int)))
        simp at VC
        have HLx := (HLc.store vb.out (by omega) 0 (.int .i64 2)).store vb.out (by omega) 1 (.int .i64 (1 + (k : Int)))
        have HXx := (HXc.store (c := wr.heap.size) (by omega) 0 (.int .i64 2)).store (c := wr.heap.size) (by omega) 1 (.int .i64 (1 + (k : Int)))
        have HVx := (HVc.store nbv 0 (.int .i64 2)).store nbv 1 (.int .i64 (1 + (k : Int)))
        have HTx := (HTc.store (c := wr.heap.size) (by omega) 0 (.int .i64 2)).store (c := wr.heap.size) (by omega) 1 (.int .i64 (1 + (k : Int)))
        have HRx := (HRc.store (c := wr.heap.size) (fun g hg => by have := hrl g hg; omega) 0 (.int .i64 2)).store (c := wr.heap.size) (fun g hg => by have := hrl g hg; omega) 1 (.int .i64 (1 + (k : Int)))
        have hwx : wr.heap.size ≤ (((wc.setCell ⟨wr.heap.size, 0, none⟩ (.int .i64 2)).setCell ⟨wr.heap.size, 1, none⟩ (.int .i64 (1 + (k : Int))))).heap.size := by simpa [World.setCell] using hwcs
        have hbcl : wr.heap.size ≤ wr.heap.size := Nat.le_refl _
        generalize ((wc.setCell ⟨wr.heap.size, 0, none⟩ (.int .i64 2)).setCell ⟨wr.heap.size, 1, none⟩ (.int .i64 (1 + (k : Int)))) = wx at VC HLx HXx HVx HTx HRx hwx ⊢
        generalize hbc : wr.heap.size = bc at VC hbcl ⊢
        have HBC := Lib.hid hbc
        clear hbc q0 q1 z0 z1 vb hB
        have c0 : wx.cell? ⟨bc, 0, none⟩ = some (.int .i64 2) := VC.blk.cell 0
        have c1 : wx.cell? ⟨bc, 1, none⟩ = some (.int .i64 (1 + (k : Int))) := VC.blk.cell 1
        have e0 : wx.cell? ⟨bv, 1, none⟩ = some (.int .i64 0) := HVx.blk.cell 1
        have t0 : wx.cell? ⟨bt, 1, none⟩ = some (.int .i64 0) := HTx.blk.cell 1
        have b0 : (((1 : Int)) + (k : Int) == 0) = false := beq_eq_false_iff_ne.2 (by omega)
        have b1 : (((1 : Int)) + (k : Int) == 0) = false := beq_eq_false_iff_ne.2 (by omega)
        have HF := Lib.hid (And.intro HLx (And.intro HXx (And.intro HVx (And.intro HTx HRx))))
        have HA := Lib.hid (HRx.row.alloc (.cells #[.int .i64 2, .int .i64 (1 + (k : Int))] 24))
        have HN := Lib.hid (reads_new2 wx (.int .i64 2) (.int .i64 (1 + (k : Int))) 24)
        clear HLc HXc HVc HTc HRc hHc hTc hTw kc0 kc1 kc2 kc3 VC HLx HXx HVx HTx HRx k0 k1 k2 k3 g0 g1 v0 v1 hrl
        go_wp2_with (at_builtin; refine (wpList_append_any _ rfl (.tmp 99) (.tmp 101) _ rfl w6.heap.size 24 i0 _ 2 16 Tryd.underlying22 hi hz0 hz1 hz2 rfl (by omega) u15 k (wdC (consWd 1 k)) rfl HA.out (wx.heap.size + 1) (some ⟨wx.heap.size, 0, none⟩) 1 1 [.int .i64 2, .int .i64 (1 + (k : Int))] rfl HN.out (fun u hu => by simp at hu; rcases hu with rfl | rfl <;> rfl) (by simp only [maxLen]; omega) (by omega) (by simp; omega) ?_); intro v2 wy hown2 hgrow2 hat2)
        obtain ⟨hLx, hXx, hVx, hTx, hRx⟩ := HF.out
        obtain ⟨hLy, hRy, hvars, hszy⟩ := row_appended hLx hRx hown2 hgrow2 hat2 hw16
        have HY := Lib.hid (And.intro hLy (And.intro (hvars _ _ _ hXx hx6) (And.intro (hvars _ _ _ hVx hv6) (And.intro (hvars _ _ _ hTx ht6) hRy))))
        clear hown2 hgrow2 hat2 hLx hXx hVx hTx hRx hLy hRy hvars HA HN c0 c1 e0 t0
        go_wp2
        go_roundw
        case rel =>
          obtain ⟨hLy, hXy, hVy, hTy, hRy⟩ := HY.out
          exact ⟨k + 1, Sc, by omega, by go_num, hLy, hXy, hVy, hTy, by rw [consWd_succ, wdC_append]; exact hRy, by omega⟩
        case measure => simp [intOf]; omega
      · have VC := VarAt.new HLc.heap 24 #[.int .i64 2, .int .i64 (1 + (k : Int))]
        have hax := (Below.refl wc.heap.size wc).alloc (Nat.le_refl _) (.cells #[.int .i64 2, .int .i64 (1 + (k : Int))] 24)
        have HLx := HLc.below hax
        have HXx := HXc.below hax
        have HVx := HVc.below hax
        have HTx := HTc.below hax
        have HRx := HRc.below hax
        have hwx : wr.heap.size ≤ (wc.alloc (.cells #[.int .i64 2, .int .i64 (1 + (k : Int))] 24)).heap.size := Nat.le_trans hwcs hax.size
        have hbcl : wr.heap.size ≤ wc.heap.size := hwcs
        generalize wc.alloc (.cells #[.int .i64 2, .int .i64 (1 + (k : Int))] 24) = wx at VC HLx HXx HVx HTx HRx hwx hax ⊢
        generalize hbc : wc.heap.size = bc at VC hbcl ⊢
        have HBC := Lib.hid hbc
        clear hbc hax
        have c0 : wx.cell? ⟨bc, 0, none⟩ = some (.int .i64 2) := VC.blk.cell 0
        have c1 : wx.cell? ⟨bc, 1, none⟩ = some (.int .i64 (1 + (k : Int))) := VC.blk.cell 1
        have e0 : wx.cell? ⟨bv, 1, none⟩ = some (.int .i64 0) := HVx.blk.cell 1
        have t0 : wx.cell? ⟨bt, 1, none⟩ = some (.int .i64 0) := HTx.blk.cell 1
        have b0 : (((1 : Int)) + (k : Int) == 0) = false := beq_eq_false_iff_ne.2 (by omega)
        have b1 : (((1 : Int)) + (k : Int) == 0) = false := beq_eq_false_iff_ne.2 (by omega)
        have HF := Lib.hid (And.intro HLx (And.intro HXx (And.intro HVx (And.intro HTx HRx))))
        have HA := Lib.hid (HRx.row.alloc (.cells #[.int .i64 2, .int .i64 (1 + (k : Int))] 24))
        have HN := Lib.hid (reads_new2 wx (.int .i64 2) (.int .i64 (1 + (k : Int))) 24)
        clear HLc HXc HVc HTc HRc hHc hTc hTw kc0 kc1 kc2 kc3 VC HLx HXx HVx HTx HRx k0 k1 k2 k3 g0 g1 v0 v1 hrl
        go_wp2_with (at_builtin; refine (wpList_append_any _ rfl (.tmp 99) (.tmp 101) _ rfl w6.heap.size 24 i0 _ 2 16 Tryd.underlying22 hi hz0 hz1 hz2 rfl (by omega) u15 k (wdC (consWd 1 k)) rfl HA.out (wx.heap.size + 1) (some ⟨wx.heap.size, 0, none⟩) 1 1 [.int .i64 2, .int .i64 (1 + (k : Int))] rfl HN.out (fun u hu => by simp at hu; rcases hu with rfl | rfl <;> rfl) (by simp only [maxLen]; omega) (by omega) (by simp; omega) ?_); intro v2 wy hown2 hgrow2 hat2)
        obtain ⟨hLx, hXx, hVx, hTx, hRx⟩ := HF.out
        obtain ⟨hLy, hRy, hvars, hszy⟩ := row_appended hLx hRx hown2 hgrow2 hat2 hw16
        have HY := Lib.hid (And.intro hLy (And.intro (hvars _ _ _ hXx hx6) (And.intro (hvars _ _ _ hVx hv6) (And.intro (hvars _ _ _ hTx ht6) hRy))))
        clear hown2 hgrow2 hat2 hLx hXx hVx hTx hRx hLy hRy hvars HA HN c0 c1 e0 t0
        go_wp2
        go_roundw
        case rel =>
          obtain ⟨hLy, hXy, hVy, hTy, hRy⟩ := HY.out
          exact ⟨k + 1, Sc, by omega, by go_num, hLy, hXy, hVy, hTy, by rw [consWd_succ, wdC_append]; exact hRy, by omega⟩
        case measure => simp [intOf]; omega
    · obtain rfl : k = n := by omega
      clear hk hkn
      have P1 := pick_range i k (by omega)
      obtain ⟨J, hJ⟩ : ∃ J : Nat, pickOf i k = (J : Int) := ⟨(pickOf i k).toNat, by omega⟩
      have hJk : J < k := by omega
      have CP : Hid (∀ W : World, Calls Tryd.prog 13 #[.int .i64 i, .int .i64 k] W fun e w' => e = .returned (.int .i64 (J : Int)) ∧ W = w') := fun W => by
        have := pick_any i k W hilo hihi (by omega) (by omega)
        rwa [hJ] at this
      clear hJ P1
      obtain ⟨yk, yn, hy⟩ : ∃ yk yn, l[J]? = some (yk, yn) := ⟨_, _, List.getElem?_eq_getElem (by rw [HNL.out]; exact hJk)⟩
      have HYJ := Lib.hid hy
      -- the heap behind both changes
      have hl0 : m6.objs.length = 1 := by rw [HM6.out]; rfl
      have hlen := consAll_length l k (by rw [HNL.out]; omega)
      have f1 : HM.find { m6 with objs := m6.objs ++ consAll l k } (4, 0) = some (.vec l) := HM.find_at (i := 0) rfl (by rw [HM6.out]; rfl) rfl
      have hsl : (J : Int).toNat < l.length := by rw [HNL.out]; simpa using hJk
      obtain ⟨mA, hmA⟩ : ∃ mA : HM, mA = HM.put { m6 with objs := m6.objs ++ consAll l k } 0 (.vec (l.set J (xk, xn))) := ⟨_, rfl⟩
      have sA : HM.setAt { m6 with objs := m6.objs ++ consAll l k } (4, 0) (J : Int) (xk, xn) = (mA, 0) := by
        have hneg : ¬ ((J : Int) < 0) := by omega
        rw [hmA]
        simp only [HM.setAt, f1, if_neg hneg, if_pos hsl]
        rfl
      have f2 : mA.find (2, 1 + (J : Int)) = some (.pair (yk, yn) (4, 0)) := by
        refine HM.find_at (i := 1 + J) (by simp) ?_ rfl
        rw [hmA]
        show ((m6.objs ++ consAll l k).set 0 _)[1 + J]? = _
        rw [List.getElem?_set_ne (by omega), List.getElem?_append_right (by omega), hl0, show 1 + J - 1 = J by omega]
        exact consAll_get l k J _ hJk hy
      obtain ⟨mB, hmB⟩ : ∃ mB : HM, mB = mA.put (1 + J) (.pair (yk, yn) (xk, xn)) := ⟨_, rfl⟩
      have sB : mA.setCdr (2, 1 + (J : Int)) (xk, xn) = (mB, 0) := by
        simp only [HM.setCdr, f2]
        rw [hmB, show (1 + (J : Int)).toNat = 1 + J by omega]
      have o0 : mB.objs[0]? = some (some (.vec (l.set J (xk, xn)))) := by
        rw [hmB, hmA]
        show (((m6.objs ++ consAll l k).set 0 _).set (1 + J) _)[0]? = _
        rw [List.getElem?_set_ne (by omega), List.getElem?_set_self (by simp; omega)]
      have oc : ∀ q a, q < k → l[q]? = some a → mB.objs[1 + q]? = some (some (.pair a (if q = J then (xk, xn) else (4, 0)))) := by
        intro q a hq ha
        rw [hmB, hmA]
        show (((m6.objs ++ consAll l k).set 0 _).set (1 + J) _)[1 + q]? = _
        by_cases e : q = J
        · subst e
          rw [hy] at ha
          cases ha
          rw [List.getElem?_set_self (by simp; omega), if_pos rfl]
        · rw [List.getElem?_set_ne (by omega), List.getElem?_set_ne (by omega), List.getElem?_append_right (by omega), hl0, show 1 + q - 1 = q by omega, if_neg e]
          exact consAll_get l k q a hq ha
      have HOT : Hid (mB.find (0, 0) = none) := by
        show HM.find mB (0, 0) = none
        simp [HM.find, o0, HObj.kind]
      have g4 : mB.find (4, 0) = some (.vec (l.set J (xk, xn))) := HM.find_at (i := 0) rfl o0 rfl
      have HG4 := Lib.hid g4
      have HOC := Lib.hid oc
      have CA : Hid (Calls Tryd.prog 14 #[.pointer (some ⟨p, 0, none⟩), .agg #[.int .i64 4, .int .i64 0], .int .i64 (J : Int), .agg #[.int .i64 xk, .int .i64 xn]] wr.drew fun e w' => e = .returned (.int .i64 0) ∧ HeapAt w' S p mA ∧ Turn S wr w' S) := by
        have := setAt_heap S p _ (4, 0) (J : Int) (xk, xn) wr.drew hL.heap.drew
        rw [sA] at this
        exact this.mono fun e w' ⟨h1, h2, h3⟩ => ⟨h1, h2, h3.of_drew⟩
      have CB : Hid (∀ V, HeapAt V S p mA → Calls Tryd.prog 15 #[.pointer (some ⟨p, 0, none⟩), .agg #[.int .i64 2, .int .i64 (1 + (J : Int))], .agg #[.int .i64 xk, .int .i64 xn]] V fun e w' => e = .returned (.int .i64 0) ∧ HeapAt w' S p mB ∧ Turn S V w' S) := by
        intro V hV
        have := setCdr_heap S p mA (2, 1 + (J : Int)) (xk, xn) V hV
        rw [sB] at this
        exact this.mono fun e w' ⟨h1, h2, h3⟩ => ⟨h1, h2, h3⟩
      clear sA sB f1 f2 o0 oc g4 hy hl0 hlen hsl
      have HmB := Lib.hid hmB
      have HmA := Lib.hid hmA
      clear hmA hmB
      obtain ⟨g, cap, hu15, hgw, hgl⟩ := hRw.row.form (by omega)
      subst hu15
      have hcell : ∀ q, q < k → wr.cell? ⟨g, q * 2, none⟩ = some (.int .i64 2) ∧ wr.cell? ⟨g, q * 2 + 1, none⟩ = some (.int .i64 (1 + (q : Int))) := by
        intro q hq
        have hc := hRw.row.cells (g := g) rfl
        have hq' : q < (consWd 1 k).length := by rw [consWd_length]; exact hq
        obtain ⟨w0, w1⟩ := wdC_get (consWd 1 k) q hq'
        have hget : (consWd 1 k)[q] = (2, 1 + (q : Int)) := Option.some.inj ((List.getElem?_eq_getElem hq').symm.trans (consWd_get 1 k q hq))
        rw [hget] at w0 w1
        have z0 := hc _ _ w0
        have z1 := hc _ _ w1
        rw [add_none] at z0 z1
        simp only [Nat.zero_add] at z0 z1
        exact ⟨z0, z1⟩
      have HCELL := Lib.hid hcell
      obtain ⟨j0, j1⟩ := hcell J hJk
      have v0 : wr.cell? ⟨bv, 0, none⟩ = some (.int .i64 4) := hV.blk.cell 0
      have v1 : wr.cell? ⟨bv, 1, none⟩ = some (.int .i64 0) := hV.blk.cell 1
      have x0 : wr.cell? ⟨w.heap.size, 0, none⟩ = some (.int .i64 xk) := hX.blk.cell 0
      have x1 : wr.cell? ⟨w.heap.size, 1, none⟩ = some (.int .i64 xn) := hX.blk.cell 1
      have hSg : S g = none := hRw.out g rfl
      have hSv : S bv = none := hV.out
      have hSx : S w.heap.size = none := hX.out
      have i1 : (0 : Int) ≤ (J : Int) := by omega
      have i2 : (J : Int) < (k : Int) := by omega
      have HL := Lib.hid hL
      have HX := Lib.hid hX
      have HVv := Lib.hid hV
      have HTt := Lib.hid hTt
      have HRw := Lib.hid hRw
      clear hL hX hV hTt hRw hcell
      have dk : decide ((0 : Int) < (k : Int)) = true := decide_eq_true (by omega)
      go_wp2_with (go_at_call 13; refine (CP.out _).mono ?_; rintro e w' ⟨rfl, rfl⟩)
      have k0 : wr.drew.cell? ⟨bv, 0, none⟩ = some (.int .i64 4) := v0
      have k1 : wr.drew.cell? ⟨bv, 1, none⟩ = some (.int .i64 0) := v1
      have k2 : wr.drew.cell? ⟨w.heap.size, 0, none⟩ = some (.int .i64 xk) := x0
      have k3 : wr.drew.cell? ⟨w.heap.size, 1, none⟩ = some (.int .i64 xn) := x1
      have k4 : wr.drew.cell? ⟨g, J * 2, none⟩ = some (.int .i64 2) := j0
      have k5 : wr.drew.cell? ⟨g, J * 2 + 1, none⟩ = some (.int .i64 (1 + (J : Int))) := j1
      go_region_held3 (fun w' => w'.cell? ⟨bv, 0, none⟩ = some (.int .i64 4) ∧ w'.cell? ⟨bv, 1, none⟩ = some (.int .i64 0) ∧ w'.cell? ⟨w.heap.size, 0, none⟩ = some (.int .i64 xk) ∧ w'.cell? ⟨w.heap.size, 1, none⟩ = some (.int .i64 xn) ∧ w'.cell? ⟨g, J * 2, none⟩ = some (.int .i64 2) ∧ w'.cell? ⟨g, J * 2 + 1, none⟩ = some (.int .i64 (1 + (J : Int))))
        (first | exact ⟨k0, k1, k2, k3, k4, k5⟩ | exact ⟨turn_cell hTb hSv ka0, turn_cell hTb hSv ka1, turn_cell hTb hSx ka2, turn_cell hTb hSx ka3, turn_cell hTb hSg ka4, turn_cell hTb hSg ka5⟩ | exact ⟨ka0, ka1, ka2, ka3, ka4, ka5⟩)
        (first | (go_at_call 14; refine CA.out.mono ?_; rintro e wa ⟨rfl, hHa, hTa⟩; have ka0 := turn_cell hTa hSv v0; have ka1 := turn_cell hTa hSv v1; have ka2 := turn_cell hTa hSx x0; have ka3 := turn_cell hTa hSx x1; have ka4 := turn_cell hTa hSg j0; have ka5 := turn_cell hTa hSg j1) | (go_at_call 15; refine (CB.out wa hHa).mono ?_; rintro e wb ⟨rfl, hHb, hTb⟩))
      have TT := hTa.trans hTb
      have HLb := Lib.hid (HL.out.turn hHb TT)
      have HXb := Lib.hid (HX.out.turn TT)
      have HVb := Lib.hid (HVv.out.turn TT)
      have HTb := Lib.hid (HTt.out.turn TT)
      have hcb : ∀ q, q < k → wb.cell? ⟨g, q * 2, none⟩ = some (.int .i64 2) ∧ wb.cell? ⟨g, q * 2 + 1, none⟩ = some (.int .i64 (1 + (q : Int))) := fun q hq => ⟨turn_cell TT hSg (HCELL.out q hq).1, turn_cell TT hSg (HCELL.out q hq).2⟩
      have HCB := Lib.hid hcb
      have hszb := TT.size
      clear hTa hTb TT hHa hHb ka0 ka1 ka2 ka3 ka4 ka5 k0 k1 k2 k3 k4 k5 v0 v1 x0 x1 j0 j1 hcb HCELL CA CB HL HX HVv HTt HRw
      have v0 : wb.cell? ⟨bv, 0, none⟩ = some (.int .i64 4) := HVb.out.blk.cell 0
      have v1 : wb.cell? ⟨bv, 1, none⟩ = some (.int .i64 0) := HVb.out.blk.cell 1
      go_wp2_with fail
      have CV := Lib.hid (vecOf_heap_yes S p mB (4, 0) (l.set J (xk, xn)) wb HLb.out.heap HG4.out (by simp [HNL.out]; omega))
      refine CV.out.mono ?_
      rintro e wq ⟨got, rfl, hgot, hbq⟩
      have hgl : (l.set J (xk, xn)).length = k := by simp [HNL.out]
      rw [hgl] at hgot
      obtain ⟨gq, capq, hgq, _, hgql⟩ := hgot.form (by omega)
      subst hgq
      have hqc : ∀ q a, (l.set J (xk, xn))[q]? = some a → wq.cell? ⟨gq, q * 2, none⟩ = some (.int .i64 a.1) ∧ wq.cell? ⟨gq, q * 2 + 1, none⟩ = some (.int .i64 a.2) := by
        intro q a ha
        have hc := hgot.cells (g := gq) rfl
        have hq' := (List.getElem?_eq_some_iff.1 ha).1
        obtain ⟨w0, w1⟩ := wdC_get _ q hq'
        have hget : (l.set J (xk, xn))[q] = a := Option.some.inj ((List.getElem?_eq_getElem hq').symm.trans ha)
        rw [hget] at w0 w1
        have z0 := hc _ _ w0
        have z1 := hc _ _ w1
        rw [add_none] at z0 z1
        simp only [Nat.zero_add] at z0 z1
        exact ⟨z0, z1⟩
      have HQC := Lib.hid hqc
      have HLq := Lib.hid (HLb.out.below hbq)
      have HXq := Lib.hid (HXb.out.below hbq)
      have HVq := Lib.hid (HVb.out.below hbq)
      have HTq := Lib.hid (HTb.out.below hbq)
      have HCQ : Hid (∀ q, q < k → wq.cell? ⟨g, q * 2, none⟩ = some (.int .i64 2) ∧ wq.cell? ⟨g, q * 2 + 1, none⟩ = some (.int .i64 (1 + (q : Int)))) := fun q hq => ⟨cell_later hbq (HCB.out q hq).1, cell_later hbq (HCB.out q hq).2⟩
      have hWq : WordsFrom wq ab ao l := HW.out.keep ((HLq.out.bel.block ab (by omega)).trans (B1.block ab hab))
      have HWQ := Lib.hid hWq
      clear hqc hgot hgl hWq hbq v0 v1 CV HLb HXb HVb HTb HCB
      go_wp2
      go_loopw [22] (fun q wr2 => ∃ r : Nat, r ≤ k ∧ q = .int .i64 r ∧ Below wq.heap.size wq wr2) (fun q _ => k - (intOf q).toNat)
      case atStart => exact ⟨0, Nat.zero_le _, rfl, Below.refl _ _⟩
      case round =>
        obtain ⟨r, hrk, rfl, hbr⟩ := hrel
        by_cases hr : r < k
        · have hrl : r < l.length := by rw [HNL.out]; exact hr
          obtain ⟨ak, an, hak⟩ : ∃ ak an, l[r]? = some (ak, an) := ⟨_, _, List.getElem?_eq_getElem hrl⟩
          have HAK := Lib.hid hak
          obtain ⟨a0, a1⟩ := HWQ.out r _ hak
          simp only at a0 a1
          have a0 := cell_later hbr a0
          have a1 := cell_later hbr a1
          have v0 := cell_later hbr (HVq.out.blk.cell 0)
          have v1 := cell_later hbr (HVq.out.blk.cell 1)
          have i3 : (0 : Int) ≤ (r : Int) := by omega
          have i4 : (r : Int) < (k : Int) := by omega
          have HBR := Lib.hid hbr
          have la := World.block_lt_of_cell? _ _ a0
          have lb := World.block_lt_of_cell? _ _ v0
          simp only at la lb
          have la1 : ab < wr.heap.size + 1 := by omega
          have lb1 : bv < wr.heap.size + 1 := by omega
          clear hbr
          have hor := HOC.out r _ hr hak
          have hfr : mB.find (2, 1 + (r : Int)) = some (.pair (ak, an) (if r = J then (xk, xn) else (4, 0))) := HM.find_at (i := 1 + r) (by simp) hor rfl
          have CCar : Hid (∀ V, Below wq.heap.size wq V → Calls Tryd.prog 17 #[.pointer (some ⟨p, 0, none⟩), .agg #[.int .i64 2, .int .i64 (1 + (r : Int))]] V fun e w' => e = .returned (.tuple #[.agg #[.int .i64 ak, .int .i64 an], .int .i64 0]) ∧ Below V.heap.size V w') := fun V hV => by
            have := car_heap S p mB (2, 1 + (r : Int)) V (HLq.out.heap.below hV)
            simp only [HM.car, hfr] at this
            exact this
          have hlen2 : (l.set J (xk, xn))[r]? = some (if r = J then (xk, xn) else (ak, an)) := by
            by_cases e : r = J
            · subst e; rw [List.getElem?_set_self hrl, if_pos rfl]
            · rw [List.getElem?_set_ne (Ne.symm e), if_neg e, hak]
          clear hor hak
          obtain ⟨wk, wn, hwk⟩ : ∃ wk wn, (if r = J then (xk, xn) else (ak, an) : Wd) = (wk, wn) := ⟨_, _, rfl⟩
          obtain ⟨tk, tn, htk⟩ : ∃ tk tn, (if r = J then (xk, xn) else (4, 0) : Wd) = (tk, tn) := ⟨_, _, rfl⟩
          rw [hwk] at hlen2
          rw [htk] at hfr
          have HGR := Lib.hid hlen2
          have HWK := Lib.hid hwk
          have HTK := Lib.hid htk
          have CCdr : Hid (∀ V, Below wq.heap.size wq V → Calls Tryd.prog 18 #[.pointer (some ⟨p, 0, none⟩), .agg #[.int .i64 2, .int .i64 (1 + (r : Int))]] V fun e w' => e = .returned (.tuple #[.agg #[.int .i64 tk, .int .i64 tn], .int .i64 0]) ∧ Below V.heap.size V w') := fun V hV => by
            have := cdr_heap S p mB (2, 1 + (r : Int)) V (HLq.out.heap.below hV)
            simp only [HM.cdr, hfr] at this
            exact this
          clear hlen2 hwk htk hfr
          go_upto_region 26 with (fail)
          go_cut [23, 24] (fun s23 s24 wx => ∃ b23 b24 : Nat, s23 = .pointer (some ⟨b23, 0, none⟩) ∧ s24 = .pointer (some ⟨b24, 0, none⟩) ∧ Blk wx b23 24 #[.int .i64 ak, .int .i64 an] ∧ Blk wx b24 24 #[.int .i64 4, .int .i64 0] ∧ b23 ≠ b24 ∧ wq.heap.size ≤ b23 ∧ wq.heap.size ≤ b24 ∧ Below wq.heap.size wq wx)
          case first =>
            have hzq := HBR.out.size
            have ZB1 := HBR.out.trans (((((Below.refl wr.heap.size wr).alloc (Nat.le_refl _) (.cells #[.int .i64 ak, .int .i64 an] 24)).alloc (by simp) (.cells #[.int .i64 4, .int .i64 0] 24)).drew).mono hzq)
            have ZB2 := HBR.out.trans (((((Below.refl wr.heap.size wr).alloc (Nat.le_refl _) (.cells #[.int .i64 4, .int .i64 0] 24)).alloc (by simp) (.cells #[.int .i64 ak, .int .i64 an] 24)).drew).mono hzq)
            have Z1 : Blk ((wr.alloc (.cells #[.int .i64 ak, .int .i64 an] 24)).alloc (.cells #[.int .i64 4, .int .i64 0] 24)).drew (wr.heap.size + 1) 24 #[.int .i64 4, .int .i64 0] := by have := Blk.new (wr.alloc (.cells #[.int .i64 ak, .int .i64 an] 24)) 24 #[.int .i64 4, .int .i64 0]; simp at this; exact this
            have Z2 : Blk ((wr.alloc (.cells #[.int .i64 4, .int .i64 0] 24)).alloc (.cells #[.int .i64 ak, .int .i64 an] 24)).drew (wr.heap.size + 1) 24 #[.int .i64 ak, .int .i64 an] := by have := Blk.new (wr.alloc (.cells #[.int .i64 4, .int .i64 0] 24)) 24 #[.int .i64 ak, .int .i64 an]; simp at this; exact this
            have HZ := Lib.hid (And.intro ZB1 (And.intro ZB2 (And.intro Z1 Z2)))
            clear ZB1 ZB2 Z1 Z2
            go_region
            all_goals
              go_wp2_with fail
              go_meet
              first
                | exact ⟨wr.heap.size, wr.heap.size + 1, rfl, rfl, (Blk.new wr 24 #[.int .i64 ak, .int .i64 an]).alloc _, HZ.out.2.2.1, by omega, by omega, by omega, HZ.out.1⟩
                | exact ⟨wr.heap.size + 1, wr.heap.size, rfl, rfl, HZ.out.2.2.2, (Blk.new wr 24 #[.int .i64 4, .int .i64 0]).alloc _, by omega, by omega, by omega, HZ.out.2.1⟩
          case rest =>
            obtain ⟨b23, b24, rfl, rfl, h23, h24, n23, l23, l24, BZ⟩ := hcut
            have HA23 := Lib.hid h23
            have HA24 := Lib.hid h24
            have HBZ := Lib.hid BZ
            clear h23 h24 BZ la lb la1 lb1 a0 a1 v0 v1 HBR
            go_upto_if 150 with (go_at_call 13; refine (CP.out _).mono ?_; rintro e w' ⟨rfl, rfl⟩)
            go_cut [23, 24] (fun s23 s24 wx => s23 = .pointer (some ⟨b23, 0, none⟩) ∧ s24 = .pointer (some ⟨b24, 0, none⟩) ∧ Blk wx b23 24 #[.int .i64 wk, .int .i64 wn] ∧ Blk wx b24 24 #[.int .i64 tk, .int .i64 tn] ∧ Below wq.heap.size wq wx)
            case first =>
              by_cases hrJ : r = J
              · have eJ : ((r : Int) == (J : Int)) = true := by simp [hrJ]
                have HEQ := HWK.out
                have HEQ2 := HTK.out
                rw [if_pos hrJ] at HEQ HEQ2
                cases HEQ
                cases HEQ2
                clear hrJ
                have p0 : wc.cell? ⟨b23, 0, none⟩ = some (.int .i64 ak) := HA23.out.cell 0
                have p1 : wc.cell? ⟨b23, 1, none⟩ = some (.int .i64 an) := HA23.out.cell 1
                have p2 : wc.cell? ⟨b24, 0, none⟩ = some (.int .i64 4) := HA24.out.cell 0
                have p3 : wc.cell? ⟨b24, 1, none⟩ = some (.int .i64 0) := HA24.out.cell 1
                have q0 := HA23.out.frozen 0
                have q1 := HA23.out.frozen 1
                have q2 := HA24.out.frozen 0
                have q3 := HA24.out.frozen 1
                have x0 : wc.cell? ⟨w.heap.size, 0, none⟩ = some (.int .i64 xk) := cell_later HBZ.out (HXq.out.blk.cell 0)
                have x1 : wc.cell? ⟨w.heap.size, 1, none⟩ = some (.int .i64 xn) := cell_later HBZ.out (HXq.out.blk.cell 1)
                have nx3 : w.heap.size ≠ b23 := by have := HXq.out.blk.lt; omega
                have nx4 : w.heap.size ≠ b24 := by have := HXq.out.blk.lt; omega
                have n24 := n23.symm
                go_wp2_with fail
                go_region
                all_goals
                  go_wp2_with fail
                  go_meet
                  refine ⟨rfl, rfl, ?_, ?_, ?_⟩
                  · have := (((HA23.out.set 0 (.int .i64 xk)).set 1 (.int .i64 xn)).far (p := ⟨b24, 0, none⟩) n23 (.int .i64 xk)).far (p := ⟨b24, 1, none⟩) n23 (.int .i64 xn)
                    simp at this
                    exact this
                  · have := (((HA24.out.far (p := ⟨b23, 0, none⟩) n24 (.int .i64 xk)).far (p := ⟨b23, 1, none⟩) n24 (.int .i64 xn)).set 0 (.int .i64 xk)).set 1 (.int .i64 xn)
                    simp at this
                    exact this
                  · exact ((((HBZ.out.setCell (p := ⟨b23, 0, none⟩) l23 _).setCell (p := ⟨b23, 1, none⟩) l23 _).setCell (p := ⟨b24, 0, none⟩) l24 _).setCell (p := ⟨b24, 1, none⟩) l24 _).drew
              · have eJ : ((r : Int) == (J : Int)) = false := beq_eq_false_iff_ne.2 (by omega)
                have HEQ := HWK.out
                have HEQ2 := HTK.out
                rw [if_neg hrJ] at HEQ HEQ2
                cases HEQ
                cases HEQ2
                clear hrJ
                go_wp2_with fail
                go_meet
                exact ⟨rfl, rfl, HA23.out, HA24.out, HBZ.out⟩
            case rest =>
              obtain ⟨rfl, rfl, h23, h24, BS⟩ := hcut
              obtain ⟨ws, rfl⟩ : ∃ ws : World, ws = wc := ⟨_, rfl⟩
              have cr0 := cell_later BS (HCQ.out r hr).1
              have cr1 := cell_later BS (HCQ.out r hr).2
              go_wp2_with fail
              refine (CCar.out ws BS).mono ?_
              rintro e wu ⟨rfl, hbu⟩
              have BU := BS.trans (hbu.mono BS.size)
              have h23u := h23.below hbu
              have h24u := h24.below hbu
              have cr0u := cell_later hbu cr0
              have cr1u := cell_later hbu cr1
              clear hbu cr0 cr1 h23 h24
              have lgu := World.block_lt_of_cell? _ _ cr0u
              simp only at lgu
              go_wp2_with fail
              have hal := (Below.refl wu.heap.size wu).alloc (Nat.le_refl _) (.cells #[.int .i64 ak, .int .i64 an] 24)
              have h25 := Blk.new wu 24 #[.int .i64 ak, .int .i64 an]
              have BU2 := BU.trans (hal.mono BU.size)
              have h23v := h23u.below hal
              have h24v := h24u.below hal
              generalize wu.alloc (.cells #[.int .i64 ak, .int .i64 an] 24) = wu2 at h25 BU2 h23v h24v hal ⊢
              generalize wu.heap.size = b25 at h25 ⊢
              clear h23u h24u hal BU
              have cr0v := cell_later BU2 (HCQ.out r hr).1
              have cr1v := cell_later BU2 (HCQ.out r hr).2
              clear cr0u cr1u
              refine (CCdr.out wu2 BU2).mono ?_
              rintro e wv ⟨rfl, hbv⟩
              have BV := BU2.trans (hbv.mono BU2.size)
              have h23w := h23v.below hbv
              have h24w := h24v.below hbv
              have h25w := h25.below hbv
              clear h23v h24v h25 hbv cr0v cr1v
              go_wp2
              have hal := (Below.refl wv.heap.size wv).alloc (Nat.le_refl _) (.cells #[.int .i64 tk, .int .i64 tn] 24)
              have h27 := Blk.new wv 24 #[.int .i64 tk, .int .i64 tn]
              have BV2 := BV.trans (hal.mono BV.size)
              have h23x := h23w.below hal
              have h24x := h24w.below hal
              have h25x := h25w.below hal
              generalize wv.alloc (.cells #[.int .i64 tk, .int .i64 tn] 24) = wx2 at h27 BV2 h23x h24x h25x hal ⊢
              generalize wv.heap.size = b27 at h27 ⊢
              clear h23w h24w h25w hal BV
              have m0 : wx2.cell? ⟨b25, 0, none⟩ = some (.int .i64 ak) := h25x.cell 0
              have m1 : wx2.cell? ⟨b25, 1, none⟩ = some (.int .i64 an) := h25x.cell 1
              have m2 : wx2.cell? ⟨b27, 0, none⟩ = some (.int .i64 tk) := h27.cell 0
              have m3 : wx2.cell? ⟨b27, 1, none⟩ = some (.int .i64 tn) := h27.cell 1
              have m4 : wx2.cell? ⟨b24, 0, none⟩ = some (.int .i64 tk) := h24x.cell 0
              have m5 : wx2.cell? ⟨b24, 1, none⟩ = some (.int .i64 tn) := h24x.cell 1
              have m6' : wx2.cell? ⟨b23, 0, none⟩ = some (.int .i64 wk) := h23x.cell 0
              have m7 : wx2.cell? ⟨b23, 1, none⟩ = some (.int .i64 wn) := h23x.cell 1
              have m8 := cell_later BV2 (HWQ.out r _ HAK.out).1
              have m9 := cell_later BV2 (HWQ.out r _ HAK.out).2
              have m10 := cell_later BV2 (HQC.out r _ HGR.out).1
              have m11 := cell_later BV2 (HQC.out r _ HGR.out).2
              simp only at m8 m9 m10 m11
              have dr : decide ((k : Int) ≤ (r : Int)) = false := decide_eq_false (by omega)
              clear h23x h24x h25x h27
              go_quiet (fail)
              go_wp2
              have BV3 : Below wq.heap.size wq (wx2.drewN nq) := below_drewN BV2 nq
              generalize wx2.drewN nq = wi at BV3 ⊢
              clear m0 m1 m2 m3 m4 m5 m6' m7 m8 m9 m10 m11 BV2 dr
              go_loopw [29] (fun q w3 => ∃ z : Nat, z ≤ r ∧ q = .int .i64 z ∧ Below wq.heap.size wq w3) (fun q _ => r - (intOf q).toNat)
              case atStart => exact ⟨0, Nat.zero_le _, rfl, BV3⟩
              case round =>
                obtain ⟨z, hzr, rfl, hbz⟩ := hrel
                by_cases hz : z < r
                · have s0 := cell_later hbz (HCQ.out r hr).1
                  have s1 := cell_later hbz (HCQ.out r hr).2
                  have s2 := cell_later hbz (HCQ.out z (by omega)).1
                  have s3 := cell_later hbz (HCQ.out z (by omega)).2
                  have sb : (((1 : Int)) + (z : Int) == 1 + (r : Int)) = false := beq_eq_false_iff_ne.2 (by omega)
                  have z1 : (0 : Int) ≤ (z : Int) := by omega
                  have z2 : (z : Int) < (k : Int) := by omega
                  have HBZ := Lib.hid hbz
                  clear hbz
                  go_wp2
                  go_quiet (fail)
                  go_wp2
                  go_roundw
                  case rel => exact ⟨z + 1, by omega, by go_num, below_drewN HBZ.out _⟩
                  case measure => simp [intOf]; omega
                · have HBZ := Lib.hid hbz
                  clear hbz
                  go_wp2
                  go_roundw
                  case rel => first | exact ⟨r + 1, by omega, by go_num, HBZ.out⟩ | ((repeat apply Exists.intro); exact ⟨⟨r + 1, by omega, by go_num, HBZ.out⟩, rfl⟩)
                  case measure => simp [intOf]; omega
        · obtain rfl : r = k := by omega
          have t0 : wr.cell? ⟨bt, 0, none⟩ = some (.int .i64 0) := cell_later hbr (HTq.out.blk.cell 0)
          have t1 : wr.cell? ⟨bt, 1, none⟩ = some (.int .i64 0) := cell_later hbr (HTq.out.blk.cell 1)
          have BW : Below w.heap.size w wr := B1.trans ((HLq.out.bel.trans (hbr.mono HLq.out.bel.size)).mono B1.size)
          have CT : Hid (Calls Tryd.prog 19 #[.pointer (some ⟨p, 0, none⟩), .agg #[.int .i64 0, .int .i64 0]] wr fun e w' => e = .returned (.tuple #[.string ⟨#[]⟩, .int .i64 6]) ∧ Below wr.heap.size wr w') := by
            have := textOf_heap S p mB (0, 0) wr (HLq.out.heap.below hbr)
            simp only [HM.textOf, HOT.out] at this
            exact this
          clear hbr hrk hr
          go_wp2_with fail
          refine CT.out.mono ?_
          rintro e wz ⟨rfl, hbz⟩
          have BE : Below w.heap.size w wz := BW.trans (hbz.mono BW.size)
          clear hbz
          go_wp2
          go_ret
          exact ⟨rfl, BE⟩
end Go.Proofs.YthmfiahmfdadgaaDoor
