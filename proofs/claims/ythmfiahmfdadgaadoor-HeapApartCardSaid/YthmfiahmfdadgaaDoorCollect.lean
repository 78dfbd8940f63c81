/-
  (*heap.Heap).Collect: what it frees, said of the plain heap. Conditions: the heap lies as HeapAt says; the numbers that are free are below the ones that go.
-/
import Derived.Test.YthmfiahmfdadgaaDoorSwept
import Derived.Deep.DeepCutAuto
namespace Go.Proofs.YthmfiahmfdadgaaDoor
open Go.RowKit
set_option maxRecDepth 100000

theorem info_bool : (Tryd.prog.info? 4).map (fun i => (i.zero, i.size, i.bytes)) = some (some (.bool false), 1, 1) := by kernel_rfl
/-- make([]bool, n). -/
theorem make_bools (n : Nat) (w : World) (hn : n ≤ 100000) : (Instr.makeSlice 55 (.int .i64 (n : Int)) (.int .i64 (n : Int))).run Tryd.prog w = .ok (.slice (some ⟨w.heap.size, 0, none⟩) n n) (w.alloc (.cells (madeCells #[.bool false] n) 4)) := by
  obtain ⟨i0, hi, hz0, hz1, hz2⟩ := info_parts info_bool
  have h := run_make (P := Tryd.prog) w 55 4 i0 (.bool false) Tryd.underlying55 hi hz0 .i64 .i64 n n (by omega) (Int.le_refl _) (by rw [hz2]; omega) (by omega)
  simp only [Int.toNat_natCast, hz1, Nat.mul_one] at h
  exact h
theorem made_bools (n : Nat) : madeCells #[.bool false] n = ((List.replicate n false).map Value.bool).toArray := by
  apply Array.ext'
  rw [toList_madeCells_one]
  simp

theorem HM.Ok.live_size {m : HM} (hok : m.Ok) {i : Nat} {o : HObj} (h : m.objs[i]? = some (some o)) : o.size ≤ 1048576 := by
  have h2 : optSize (some o) ∈ m.objs.map optSize := List.mem_map.2 ⟨some o, List.mem_of_getElem? h, rfl⟩
  have h3 := sum_mem _ _ h2
  have h4 := hok.used
  unfold HM.used at h4
  simp [optSize] at h3
  omega
/-- What Collect leaves: the objects that no word of l reaches are gone. -/
def Collected (S : Own) (w : World) (p : Nat) (m : HM) (l : List Wd) (e : Ending) (w' : World) : Prop :=
  ∃ M S', Marks m (markL m (List.replicate m.objs.length false, []) l) M ∧ e = .returned (.int .i64 (m.gone M)) ∧ HeapAt w' S' p (m.swept M) ∧ Turn S w w' S'
set_option maxHeartbeats 4000000 in
theorem collect_any (S : Own) (p : Nat) (m : HM) (A : Option Addr) (c : Nat) (l : List Wd) (w : World) (hH : HeapAt w S p m) (hf : ∀ M, Marks m (markL m (List.replicate m.objs.length false, []) l) M → m.Above M) (hn2 : l.length ≤ 2000000) (hT : Tabs w) (hTS : TabsOut S) (hTX : m.Texts)
    (hA : 0 < l.length → ∃ ab ao, A = some ⟨ab, ao, none⟩ ∧ WordsFrom w ab ao l ∧ ab < w.heap.size) :
    Calls Tryd.prog 25 #[.pointer (some ⟨p, 0, none⟩), .slice A l.length c] w (Collected S w p m l) := by
  obtain ⟨hok, vo, vf, os, hI⟩ := hH
  have c0 : w.cell? ⟨p, 0, none⟩ = some (.int .i64 m.limit) := hI.blk.cell 0
  have c3 : w.cell? ⟨p, 3, none⟩ = some vo := hI.blk.cell 3
  have hlt := hI.blk.lt
  have h0 : 0 < m.limit := hok.lo
  have hlen : os.length ≤ 65536 := by have := hok.len; have := hok.hi; rw [hI.len]; omega
  obtain ⟨A2, cv, hvo, _⟩ := hI.vo_form
  subst hvo
  have hmk := fun W => make_bools os.length W (by omega)
  have A1 : Below w.heap.size w (w.alloc (.cells #[.pointer (some ⟨p, 0, none⟩)] 26)) := (Below.refl _ _).alloc (Nat.le_refl _) _
  have k0 := cell_later A1 c0
  have HI := Lib.hid hI
  have HOK := Lib.hid hok
  have HA := Lib.hid hA
  have HF := Lib.hid hf
  have HTB := Lib.hid hT
  have HTS := Lib.hid hTS
  have HTX := Lib.hid hTX
  have HOL := Lib.hid hI.len
  clear hI hok hA hf hT hTS hTX
  go_enter Tryd.func25, Tryd.ntmps25
  go_wp2_with (go_at_call 36; refine (made_yes p m.limit _ h0 k0).mono ?_; rintro e w' ⟨rfl, rfl⟩)
  have M4 := MarkAt.start HOK.out HI.out
  rw [← made_bools] at M4
  have B4 : Below w.heap.size w ((((w.alloc (.cells #[.pointer (some ⟨p, 0, none⟩)] 26)).alloc (.cells (madeCells #[.bool false] os.length) 4)).alloc (.cells #[.slice (some ⟨w.heap.size + 1, 0, none⟩) os.length os.length] 55)).alloc (.cells #[.slice none 0 0] 64)) :=
    ((((Below.refl _ _).alloc (Nat.le_refl _) _).alloc (by simp) _).alloc (by simp; omega) _).alloc (by simp; omega) _
  clear k0 A1 c0 c3 hmk
  generalize ((((w.alloc (.cells #[.pointer (some ⟨p, 0, none⟩)] 26)).alloc (.cells (madeCells #[.bool false] os.length) 4)).alloc (.cells #[.slice (some ⟨w.heap.size + 1, 0, none⟩) os.length os.length] 55)).alloc (.cells #[.slice none 0 0] 64)) = w4 at M4 B4 ⊢
  have CM := Lib.hid (mark_words S p m _ vf os w.heap.size (w.heap.size + 1 + 1) (w.heap.size + 1) (w.heap.size + 1 + 1 + 1) A c l _ _ w4 M4 hn2 (fun hl => by
    obtain ⟨ab, ao, h1, h2, h3⟩ := HA.out hl
    exact ⟨ab, ao, h1, h2.keep (B4.block ab h3), Own.mark_none (by omega) (by omega) (by simp [Value.ownBlock]), Nat.lt_of_lt_of_le h3 B4.size⟩))
  refine CM.out.mono ?_
  rintro e w5 ⟨rfl, vs5, hM5, hT5, hv5⟩
  have B5 : Below w.heap.size w w5 := B4.trans (hT5.below B4.size fun b hb => Own.mark_none (by omega) (by omega) (by simp [Value.ownBlock]))
  have hg5 : ∀ g, vs5.ownBlock = some g → w.heap.size ≤ g := fun g hg => by
    rcases hv5 with e1 | ⟨g2, e1, e2⟩
    · rw [e1] at hg; simp [Value.ownBlock] at hg
    · rw [e1] at hg; cases hg; exact Nat.le_trans B4.size e2
  have H5 := Lib.hid (And.intro hM5 (And.intro B5 hg5))
  clear CM M4 B4 hM5 hT5 hv5 B5 hg5
  go_wp2_with fail
  obtain ⟨st0, HST0⟩ : ∃ st0, st0 = markL m (List.replicate os.length false, []) l := ⟨_, rfl⟩
  have R5 : Round w S p m (.slice A2 os.length cv) vf os st0 (unm st0.1 + st0.2.length) w5 := by
    obtain ⟨h1, h2, h3⟩ := H5.out
    exact ⟨st0, vs5, rfl, by rw [HST0]; exact h1, h2, h3, fun _ h => h⟩
  have HR5 := Lib.hid R5
  have HS0 := Lib.hid HST0
  clear R5 HST0 H5
  go_loopg [8] (unm st0.1 + st0.2.length) (fun gn s8 wr => Round w S p m (.slice A2 os.length cv) vf os st0 gn wr)
  case atStart => exact HR5.out
  case round =>
    obtain ⟨⟨M, K⟩, vs, hgk, hM, hB, hg, hI⟩ := hrel
    rcases List.eq_nil_or_concat K with rfl | ⟨K', i, rfl⟩
    · have hmk := hI M (.done M)
      have HMK := Lib.hid hmk
      have HAB := Lib.hid (HF.out M (by rw [HS0.out, HOL.out] at hmk; exact hmk))
      have s0 : wr.cell? ⟨w.heap.size + 1 + 1 + 1, 0, none⟩ = some vs := hM.sv.blk.cell 0
      obtain ⟨va, vc, hvs⟩ : ∃ va vc, vs = .slice va 0 vc := by
        rcases hM.sr.2 with ⟨h, _⟩ | ⟨g', cap', cur, h, _⟩
        · exact ⟨_, _, h⟩
        · exact ⟨_, _, h⟩
      subst hvs
      have hS0 := SweepAt.start hM
      have HW0 := Lib.hid (And.intro hS0 (Turn.of_below (S := S) hB))
      have hh0 : wr.cell? ⟨w.heap.size, 0, none⟩ = some (.pointer (some ⟨p, 0, none⟩)) := hM.hv.blk.cell 0
      have c3 : wr.cell? ⟨p, 3, none⟩ = some (.slice A2 os.length cv) := hM.inn.blk.cell 3
      clear hM hB hg hI hgk hmk hS0
      go_wp2
      clear hh0 c3 s0
      go_loopw [12, 81] (fun s12 s81 wx => ∃ (z : Nat) (oz : List Value) (uf : Value) (Sz : Own), z ≤ os.length ∧ s81 = .int .i64 z ∧ s12 = .int .i64 ((sweptFree m.objs M z).length : Int) ∧ oz.length = os.length ∧ SweepAt wx Sz p m (.slice A2 os.length cv) oz w.heap.size (w.heap.size + 1 + 1) (w.heap.size + 1) M z uf ∧ Turn S w wx Sz) (fun _ s81 _ => os.length - (intOf s81).toNat)
      case atStart => exact ⟨0, os, vf, S, Nat.zero_le _, rfl, rfl, rfl, HW0.out.1, HW0.out.2⟩
      case round =>
        obtain ⟨z, oz, uf, Sz, hz, rfl, rfl, hozl, hSw, hTw⟩ := hrel
        by_cases hzn : z < os.length
        · obtain ⟨g0, cap0, v, hv0, hvz, x0, fz, hcz⟩ := hSw.row0 (by omega)
          rw [hozl] at hv0
          injection hv0 with hA2 _ hcv
          subst hA2
          subst hcv
          have m0 : wr.cell? ⟨w.heap.size + 1 + 1, 0, none⟩ = some (.slice (some ⟨w.heap.size + 1, 0, none⟩) M.length M.length) := hSw.mv.blk.cell 0
          have hml : M.length = os.length := by rw [hSw.mlen, ← hSw.len, hozl]
          have hzM : z < M.length := by omega
          have m1 : wr.cell? ⟨w.heap.size + 1, z, none⟩ = some (.bool M[z]) := by rw [hSw.mr.blk.cell]; simp [hzM]
          have i1 : (0 : Int) ≤ (z : Int) := by omega
          have i2 : (z : Int) < (os.length : Int) := by omega
          have i3 : (z : Int) < (M.length : Int) := by omega
          cases hoz : (m.objs[z]?).join with
          | none =>
            rw [hoz] at hcz
            have hv : v = .nilIface := hcz
            subst hv
            have hgo : goes m.objs M z = false := by simp [goes, hoz]
            have heq := neq_nil_nil
            have e2 : sweptFree m.objs M (z + 1) = sweptFree m.objs M z := by simp [sweptFree, hgo]
            have HE2 := Lib.hid e2
            have HS := Lib.hid (And.intro (hSw.skip hgo) hTw)
            have HZL := Lib.hid hozl
            clear hSw hTw hcz hoz hgo e2 hvz hml
            go_wp2
            go_roundw
            case rel => exact ⟨z + 1, oz, uf, Sz, by omega, by go_num, by rw [HE2.out], HZL.out, HS.out.1, HS.out.2⟩
            case measure => simp [intOf]; omega
          | some o =>
            have hozz : m.objs[z]? = some (some o) := by
              cases e : m.objs[z]? with
              | none => rw [e] at hoz; simp at hoz
              | some y => rw [e] at hoz; simp at hoz; rw [hoz]
            rw [hoz] at hcz
            have hcz : ObjAt wr Sz (z + 3) v o := hcz
            cases hMz : M[z] with
            | true =>
              have hgo : goes m.objs M z = false := by simp [goes, hzM, hMz]
              obtain ⟨T0, b, rfl⟩ : ∃ T0 b, v = .iface T0 b := by
                cases o with
                | pair => obtain ⟨b, h, _⟩ := hcz; exact ⟨_, _, h⟩
                | text => obtain ⟨b, h, _⟩ := hcz; exact ⟨_, _, h⟩
                | vec => obtain ⟨b, r, h, _⟩ := hcz; exact ⟨_, _, h⟩
                | code => obtain ⟨b, r, q, h, _⟩ := hcz; exact ⟨_, _, h⟩
              have heq := neq_nil_iface T0 b
              rw [hMz] at m1
              have e2 : sweptFree m.objs M (z + 1) = sweptFree m.objs M z := by simp [sweptFree, hgo]
              have HE2 := Lib.hid e2
              have HS := Lib.hid (And.intro (hSw.skip hgo) hTw)
              have HZL := Lib.hid hozl
              clear hSw hTw hcz hoz hozz hMz hgo e2 hvz hml
              go_wp2
              go_roundw
              case rel => exact ⟨z + 1, oz, uf, Sz, by omega, by go_num, by rw [HE2.out], HZL.out, HS.out.1, HS.out.2⟩
              case measure => simp [intOf]; omega
            | false =>
              have hgo : goes m.objs M z = true := by simp [goes, hzM, hMz, hoz]
              rw [hMz] at m1
              cases o with
              | pair a d =>
                obtain ⟨b, rfl, _⟩ := id hcz
                have heq := neq_nil_iface 77 (.pointer (some ⟨b, 0, none⟩))
                have hm := msize_pair ⟨b, 0, none⟩
                obtain ⟨D1, E1, F1, G1, T1⟩ := hSw.goner rfl hcz
                obtain ⟨b', eb, _⟩ := G1
                have HT1 : Hid (Tabs (wr.setCell ⟨g0, z, none⟩ .nilIface).drew) := (HTS.out.turn hTw HTB.out).tabs (T1.drewN 1) (HTS.out.tabs hTw HTB.out)
                have CS := Lib.hid (size_pair ⟨b, 0, none⟩ (wr.setCell ⟨g0, z, none⟩ .nilIface).drew)
                have HP := Lib.hid fun (w2 : World) (hb : Below (wr.setCell ⟨g0, z, none⟩ .nilIface).heap.size (wr.setCell ⟨g0, z, none⟩ .nilIface) w2) => hpush p (z : Int) (.int .i64 m.limit) (.int .i64 m.many) (.int .i64 (usedOf (sweptObjs m.objs M (z + 1)))) (.slice (some ⟨g0, 0, none⟩) os.length cv) uf (m.free ++ sweptFree m.objs M z) (w2.setCell ⟨p, 2, none⟩ (.int .i64 (usedOf (sweptObjs m.objs M (z + 1))))) ((D1.below hb).set 2 _) (owns_keep (owns_later F1 hb) fun g hg => Below.heap_setCell _ _ _ _ (fun e => by have e' : g = p := e; have := hSw.freOwn g hg; rw [e', hSw.own] at this; cases this)) (fun e => by have := hSw.freOwn p e; rw [hSw.own] at this; cases this) (by have := HOK.out.free_swept M z; omega) (fun x hx => (List.mem_append.1 hx).elim (HAB.out z hgo x) fun h => (free_lt m.objs M z x h).2)
                have HST : Hid (∀ (w2 w4 : World) (e : Ending), Below wr.heap.size (wr.setCell ⟨g0, z, none⟩ .nilIface) w2 → Pushed (w2.setCell ⟨p, 2, none⟩ (.int .i64 (usedOf (sweptObjs m.objs M (z + 1))))) p (.int .i64 m.limit) (.int .i64 m.many) (.int .i64 (usedOf (sweptObjs m.objs M (z + 1)))) (.slice (some ⟨g0, 0, none⟩) os.length cv) uf (m.free ++ sweptFree m.objs M z) z e w4 →
                    ∃ u S4, SweepAt w4 S4 p m (.slice (some ⟨g0, 0, none⟩) os.length cv) (oz.set z .nilIface) w.heap.size (w.heap.size + 1 + 1) (w.heap.size + 1) M (z + 1) u ∧ Turn S w w4 S4) := fun w2 w4 e hb hPu => by
                  obtain ⟨u, S4, h1, h2⟩ := hSw.step (e := e) (w2 := w2) (w4 := w4) hgo hozz (by rw [hozl]) hb hPu
                  exact ⟨u, S4, h1, hTw.trans h2⟩
                have h0h : wr.cell? ⟨w.heap.size, 0, none⟩ = some (.pointer (some ⟨p, 0, none⟩)) := hSw.hv.blk.cell 0
                have h03 : wr.cell? ⟨p, 3, none⟩ = some (.slice (some ⟨g0, 0, none⟩) os.length cv) := hSw.blk.cell 3
                have HZL := Lib.hid hozl
                have HD := Lib.hid (And.intro D1 E1)
                have HE2 := Lib.hid (show sweptFree m.objs M (z + 1) = sweptFree m.objs M z ++ [(z : Int)] by simp [sweptFree, hgo])
                have hsz1 : (wr.setCell ⟨g0, z, none⟩ .nilIface).heap.size = wr.heap.size := by simp [World.setCell]
                have d2 : (wr.setCell ⟨g0, z, none⟩ .nilIface).cell? ⟨p, 2, none⟩ = some (.int .i64 (usedOf (sweptObjs m.objs M z))) := D1.cell 2
                have d2f := D1.frozen 2
                have d0 : (wr.setCell ⟨g0, z, none⟩ .nilIface).cell? ⟨w.heap.size, 0, none⟩ = some (.pointer (some ⟨p, 0, none⟩)) := E1.cell 0
                have hsz := swept_used m.objs M z _ hgo hozz
                have hle := swept_used_le m.objs M z
                have hus : usedOf m.objs ≤ 1048576 := HOK.out.used
                have hfl := free_length m.objs M z
                simp only [HObj.size] at hsz
                skip
                have hwr : (usedOf (sweptObjs m.objs M z) : Int) - (0 : Int) = (usedOf (sweptObjs m.objs M (z + 1)) : Int) := by omega
                have hpl := hSw.blk.lt
                have hbl := hSw.hv.blk.lt
                generalize hU1 : usedOf (sweptObjs m.objs M z) = U1 at *
                generalize hU2 : usedOf (sweptObjs m.objs M (z + 1)) = U2 at *
                clear hU1 hU2 hSw hTw hcz hoz hgo hozz hMz D1 E1 F1 T1  hozl hvz HT1 hml
                go_wp2
                generalize (wr.setCell ⟨g0, z, none⟩ .nilIface) = w1 at *
                go_region_with ((go_at_call 85; refine CS.out.mono ?_; rintro e w2 ⟨rfl, hb2⟩; have s2 : w2.cell? ⟨p, 2, none⟩ = some (.int .i64 U1) := cell_later hb2 d2; have t2 : w2.frozen? ⟨p, 2, none⟩ = false := frozen_later hb2 d2 d2f; have s0 : w2.cell? ⟨w.heap.size, 0, none⟩ = some (.pointer (some ⟨p, 0, none⟩)) := cell_later hb2 d0))
                all_goals
                  have hb2' : Below w1.heap.size w1 w2 := ⟨hb2.os, hb2.tape, hb2.output, hb2.size, hb2.block⟩
                  have hw2 : IntKind.i64.wrap (U2 : Int) = (U2 : Int) := IntWalk.i64_in _ (by omega)
                  have s0' : (w2.setCell ⟨p, 2, none⟩ (.int .i64 (U2 : Int))).cell? ⟨w.heap.size, 0, none⟩ = some (.pointer (some ⟨p, 0, none⟩)) := ((HD.out.2.below hb2').far (p := ⟨p, 2, none⟩) (by show w.heap.size ≠ p; omega) _).cell 0
                  have CP := Lib.hid (HP.out w2 hb2')
                  have HS2 := Lib.hid (HST.out w2)
                  have HB2 : Hid (Below wr.heap.size w1 w2) := hsz1 ▸ hb2'
                  have hfw : ((sweptFree m.objs M z).length : Int) ≤ 70000 := by omega
                  simp only [hw2]
                  clear HP HST hb2 hb2' s2 t2 s0 d0 d2 d2f CS hw2 HD hm heq
                  generalize (w2.setCell ⟨p, 2, none⟩ (.int .i64 (U2 : Int))) = w3 at *
                  go_wp2_with (go_at_call 48; refine CP.out.mono ?_; intro e w4 hPu; have HPU := Lib.hid hPu; obtain rfl := hPu.1; clear hPu; refine Hid.out ?_)
                  refine Lib.hid ?_
                  obtain ⟨u, S4, hS4, hT4⟩ := HS2.out w4 _ HB2.out HPU.out
                  have HS4 := Lib.hid (And.intro hS4 hT4)
                  clear hS4 hT4 HPU CP HS2
                  go_wp2
                  go_roundw
                  case rel => exact ⟨z + 1, oz.set z .nilIface, u, S4, by omega, by go_num, by rw [HE2.out, List.length_append]; go_num, by rw [List.length_set]; exact HZL.out, HS4.out.1, HS4.out.2⟩
                  case measure => simp [intOf]; omega
              | text s =>
                obtain ⟨b, rfl, _⟩ := id hcz
                have heq := neq_nil_iface 74 (.pointer (some ⟨b, 0, none⟩))
                have hm := msize_text ⟨b, 0, none⟩
                obtain ⟨D1, E1, F1, G1, T1⟩ := hSw.goner rfl hcz
                obtain ⟨b', eb, _, G1b⟩ := G1
                have HT1 : Hid (Tabs (wr.setCell ⟨g0, z, none⟩ .nilIface).drew) := (HTS.out.turn hTw HTB.out).tabs (T1.drewN 1) (HTS.out.tabs hTw HTB.out)
                have CS := Lib.hid (size_text b s (wr.setCell ⟨g0, z, none⟩ .nilIface).drew (HTX.out z s hozz) HT1.out (by cases eb; exact G1b.cell 0))
                have HP := Lib.hid fun (w2 : World) (hb : Below (wr.setCell ⟨g0, z, none⟩ .nilIface).heap.size (wr.setCell ⟨g0, z, none⟩ .nilIface) w2) => hpush p (z : Int) (.int .i64 m.limit) (.int .i64 m.many) (.int .i64 (usedOf (sweptObjs m.objs M (z + 1)))) (.slice (some ⟨g0, 0, none⟩) os.length cv) uf (m.free ++ sweptFree m.objs M z) (w2.setCell ⟨p, 2, none⟩ (.int .i64 (usedOf (sweptObjs m.objs M (z + 1))))) ((D1.below hb).set 2 _) (owns_keep (owns_later F1 hb) fun g hg => Below.heap_setCell _ _ _ _ (fun e => by have e' : g = p := e; have := hSw.freOwn g hg; rw [e', hSw.own] at this; cases this)) (fun e => by have := hSw.freOwn p e; rw [hSw.own] at this; cases this) (by have := HOK.out.free_swept M z; omega) (fun x hx => (List.mem_append.1 hx).elim (HAB.out z hgo x) fun h => (free_lt m.objs M z x h).2)
                have HST : Hid (∀ (w2 w4 : World) (e : Ending), Below wr.heap.size (wr.setCell ⟨g0, z, none⟩ .nilIface) w2 → Pushed (w2.setCell ⟨p, 2, none⟩ (.int .i64 (usedOf (sweptObjs m.objs M (z + 1))))) p (.int .i64 m.limit) (.int .i64 m.many) (.int .i64 (usedOf (sweptObjs m.objs M (z + 1)))) (.slice (some ⟨g0, 0, none⟩) os.length cv) uf (m.free ++ sweptFree m.objs M z) z e w4 →
                    ∃ u S4, SweepAt w4 S4 p m (.slice (some ⟨g0, 0, none⟩) os.length cv) (oz.set z .nilIface) w.heap.size (w.heap.size + 1 + 1) (w.heap.size + 1) M (z + 1) u ∧ Turn S w w4 S4) := fun w2 w4 e hb hPu => by
                  obtain ⟨u, S4, h1, h2⟩ := hSw.step (e := e) (w2 := w2) (w4 := w4) hgo hozz (by rw [hozl]) hb hPu
                  exact ⟨u, S4, h1, hTw.trans h2⟩
                have h0h : wr.cell? ⟨w.heap.size, 0, none⟩ = some (.pointer (some ⟨p, 0, none⟩)) := hSw.hv.blk.cell 0
                have h03 : wr.cell? ⟨p, 3, none⟩ = some (.slice (some ⟨g0, 0, none⟩) os.length cv) := hSw.blk.cell 3
                have HZL := Lib.hid hozl
                have HD := Lib.hid (And.intro D1 E1)
                have HE2 := Lib.hid (show sweptFree m.objs M (z + 1) = sweptFree m.objs M z ++ [(z : Int)] by simp [sweptFree, hgo])
                have hsz1 : (wr.setCell ⟨g0, z, none⟩ .nilIface).heap.size = wr.heap.size := by simp [World.setCell]
                have d2 : (wr.setCell ⟨g0, z, none⟩ .nilIface).cell? ⟨p, 2, none⟩ = some (.int .i64 (usedOf (sweptObjs m.objs M z))) := D1.cell 2
                have d2f := D1.frozen 2
                have d0 : (wr.setCell ⟨g0, z, none⟩ .nilIface).cell? ⟨w.heap.size, 0, none⟩ = some (.pointer (some ⟨p, 0, none⟩)) := E1.cell 0
                have hsz := swept_used m.objs M z _ hgo hozz
                have hle := swept_used_le m.objs M z
                have hus : usedOf m.objs ≤ 1048576 := HOK.out.used
                have hfl := free_length m.objs M z
                simp only [HObj.size] at hsz
                skip
                have hwr : (usedOf (sweptObjs m.objs M z) : Int) - (lenOf s.data.toList : Int) = (usedOf (sweptObjs m.objs M (z + 1)) : Int) := by omega
                have hpl := hSw.blk.lt
                have hbl := hSw.hv.blk.lt
                generalize hU1 : usedOf (sweptObjs m.objs M z) = U1 at *
                generalize hU2 : usedOf (sweptObjs m.objs M (z + 1)) = U2 at *
                clear hU1 hU2 hSw hTw hcz hoz hgo hozz hMz D1 E1 F1 T1 G1b hozl hvz HT1 hml
                go_wp2
                generalize (wr.setCell ⟨g0, z, none⟩ .nilIface) = w1 at *
                go_region_with ((go_at_call 82; refine CS.out.mono ?_; rintro e w2 ⟨rfl, hb2⟩; have s2 : w2.cell? ⟨p, 2, none⟩ = some (.int .i64 U1) := cell_later hb2 d2; have t2 : w2.frozen? ⟨p, 2, none⟩ = false := frozen_later hb2 d2 d2f; have s0 : w2.cell? ⟨w.heap.size, 0, none⟩ = some (.pointer (some ⟨p, 0, none⟩)) := cell_later hb2 d0))
                all_goals
                  have hb2' : Below w1.heap.size w1 w2 := ⟨hb2.os, hb2.tape, hb2.output, hb2.size, hb2.block⟩
                  have hw2 : IntKind.i64.wrap (U2 : Int) = (U2 : Int) := IntWalk.i64_in _ (by omega)
                  have s0' : (w2.setCell ⟨p, 2, none⟩ (.int .i64 (U2 : Int))).cell? ⟨w.heap.size, 0, none⟩ = some (.pointer (some ⟨p, 0, none⟩)) := ((HD.out.2.below hb2').far (p := ⟨p, 2, none⟩) (by show w.heap.size ≠ p; omega) _).cell 0
                  have CP := Lib.hid (HP.out w2 hb2')
                  have HS2 := Lib.hid (HST.out w2)
                  have HB2 : Hid (Below wr.heap.size w1 w2) := hsz1 ▸ hb2'
                  have hfw : ((sweptFree m.objs M z).length : Int) ≤ 70000 := by omega
                  simp only [hw2]
                  clear HP HST hb2 hb2' s2 t2 s0 d0 d2 d2f CS hw2 HD hm heq
                  generalize (w2.setCell ⟨p, 2, none⟩ (.int .i64 (U2 : Int))) = w3 at *
                  go_wp2_with (go_at_call 48; refine CP.out.mono ?_; intro e w4 hPu; have HPU := Lib.hid hPu; obtain rfl := hPu.1; clear hPu; refine Hid.out ?_)
                  refine Lib.hid ?_
                  obtain ⟨u, S4, hS4, hT4⟩ := HS2.out w4 _ HB2.out HPU.out
                  have HS4 := Lib.hid (And.intro hS4 hT4)
                  clear hS4 hT4 HPU CP HS2
                  go_wp2
                  go_roundw
                  case rel => exact ⟨z + 1, oz.set z .nilIface, u, S4, by omega, by go_num, by rw [HE2.out, List.length_append]; go_num, by rw [List.length_set]; exact HZL.out, HS4.out.1, HS4.out.2⟩
                  case measure => simp [intOf]; omega
              | vec lv =>
                obtain ⟨b, r0, rfl, _⟩ := id hcz
                have heq := neq_nil_iface 69 (.pointer (some ⟨b, 0, none⟩))
                have hm := msize_vector ⟨b, 0, none⟩
                obtain ⟨D1, E1, F1, G1, T1⟩ := hSw.goner rfl hcz
                obtain ⟨b', r, eb, _, G1b, Gr⟩ := G1
                have HT1 : Hid (Tabs (wr.setCell ⟨g0, z, none⟩ .nilIface).drew) := (HTS.out.turn hTw HTB.out).tabs (T1.drewN 1) (HTS.out.tabs hTw HTB.out)
                have CS := Lib.hid (size_vector b ((row_words Gr).choose) lv.length ((row_words Gr).choose_spec.choose) (wr.setCell ⟨g0, z, none⟩ .nilIface).drew (by cases eb; have := (row_words Gr).choose_spec.choose_spec.1; rw [← this]; exact G1b.cell 0))
                have HP := Lib.hid fun (w2 : World) (hb : Below (wr.setCell ⟨g0, z, none⟩ .nilIface).heap.size (wr.setCell ⟨g0, z, none⟩ .nilIface) w2) => hpush p (z : Int) (.int .i64 m.limit) (.int .i64 m.many) (.int .i64 (usedOf (sweptObjs m.objs M (z + 1)))) (.slice (some ⟨g0, 0, none⟩) os.length cv) uf (m.free ++ sweptFree m.objs M z) (w2.setCell ⟨p, 2, none⟩ (.int .i64 (usedOf (sweptObjs m.objs M (z + 1))))) ((D1.below hb).set 2 _) (owns_keep (owns_later F1 hb) fun g hg => Below.heap_setCell _ _ _ _ (fun e => by have e' : g = p := e; have := hSw.freOwn g hg; rw [e', hSw.own] at this; cases this)) (fun e => by have := hSw.freOwn p e; rw [hSw.own] at this; cases this) (by have := HOK.out.free_swept M z; omega) (fun x hx => (List.mem_append.1 hx).elim (HAB.out z hgo x) fun h => (free_lt m.objs M z x h).2)
                have HST : Hid (∀ (w2 w4 : World) (e : Ending), Below wr.heap.size (wr.setCell ⟨g0, z, none⟩ .nilIface) w2 → Pushed (w2.setCell ⟨p, 2, none⟩ (.int .i64 (usedOf (sweptObjs m.objs M (z + 1))))) p (.int .i64 m.limit) (.int .i64 m.many) (.int .i64 (usedOf (sweptObjs m.objs M (z + 1)))) (.slice (some ⟨g0, 0, none⟩) os.length cv) uf (m.free ++ sweptFree m.objs M z) z e w4 →
                    ∃ u S4, SweepAt w4 S4 p m (.slice (some ⟨g0, 0, none⟩) os.length cv) (oz.set z .nilIface) w.heap.size (w.heap.size + 1 + 1) (w.heap.size + 1) M (z + 1) u ∧ Turn S w w4 S4) := fun w2 w4 e hb hPu => by
                  obtain ⟨u, S4, h1, h2⟩ := hSw.step (e := e) (w2 := w2) (w4 := w4) hgo hozz (by rw [hozl]) hb hPu
                  exact ⟨u, S4, h1, hTw.trans h2⟩
                have h0h : wr.cell? ⟨w.heap.size, 0, none⟩ = some (.pointer (some ⟨p, 0, none⟩)) := hSw.hv.blk.cell 0
                have h03 : wr.cell? ⟨p, 3, none⟩ = some (.slice (some ⟨g0, 0, none⟩) os.length cv) := hSw.blk.cell 3
                have HZL := Lib.hid hozl
                have HD := Lib.hid (And.intro D1 E1)
                have HE2 := Lib.hid (show sweptFree m.objs M (z + 1) = sweptFree m.objs M z ++ [(z : Int)] by simp [sweptFree, hgo])
                have hsz1 : (wr.setCell ⟨g0, z, none⟩ .nilIface).heap.size = wr.heap.size := by simp [World.setCell]
                have d2 : (wr.setCell ⟨g0, z, none⟩ .nilIface).cell? ⟨p, 2, none⟩ = some (.int .i64 (usedOf (sweptObjs m.objs M z))) := D1.cell 2
                have d2f := D1.frozen 2
                have d0 : (wr.setCell ⟨g0, z, none⟩ .nilIface).cell? ⟨w.heap.size, 0, none⟩ = some (.pointer (some ⟨p, 0, none⟩)) := E1.cell 0
                have hsz := swept_used m.objs M z _ hgo hozz
                have hle := swept_used_le m.objs M z
                have hus : usedOf m.objs ≤ 1048576 := HOK.out.used
                have hfl := free_length m.objs M z
                simp only [HObj.size] at hsz
                skip
                have hwr : (usedOf (sweptObjs m.objs M z) : Int) - (lv.length : Int) = (usedOf (sweptObjs m.objs M (z + 1)) : Int) := by omega
                have hpl := hSw.blk.lt
                have hbl := hSw.hv.blk.lt
                generalize hU1 : usedOf (sweptObjs m.objs M z) = U1 at *
                generalize hU2 : usedOf (sweptObjs m.objs M (z + 1)) = U2 at *
                clear hU1 hU2 hSw hTw hcz hoz hgo hozz hMz D1 E1 F1 T1 G1b hozl hvz HT1 hml
                go_wp2
                generalize (wr.setCell ⟨g0, z, none⟩ .nilIface) = w1 at *
                go_region_with ((go_at_call 79; refine CS.out.mono ?_; rintro e w2 ⟨rfl, hb2⟩; have s2 : w2.cell? ⟨p, 2, none⟩ = some (.int .i64 U1) := cell_later hb2 d2; have t2 : w2.frozen? ⟨p, 2, none⟩ = false := frozen_later hb2 d2 d2f; have s0 : w2.cell? ⟨w.heap.size, 0, none⟩ = some (.pointer (some ⟨p, 0, none⟩)) := cell_later hb2 d0))
                all_goals
                  have hb2' : Below w1.heap.size w1 w2 := ⟨hb2.os, hb2.tape, hb2.output, hb2.size, hb2.block⟩
                  have hw2 : IntKind.i64.wrap (U2 : Int) = (U2 : Int) := IntWalk.i64_in _ (by omega)
                  have s0' : (w2.setCell ⟨p, 2, none⟩ (.int .i64 (U2 : Int))).cell? ⟨w.heap.size, 0, none⟩ = some (.pointer (some ⟨p, 0, none⟩)) := ((HD.out.2.below hb2').far (p := ⟨p, 2, none⟩) (by show w.heap.size ≠ p; omega) _).cell 0
                  have CP := Lib.hid (HP.out w2 hb2')
                  have HS2 := Lib.hid (HST.out w2)
                  have HB2 : Hid (Below wr.heap.size w1 w2) := hsz1 ▸ hb2'
                  have hfw : ((sweptFree m.objs M z).length : Int) ≤ 70000 := by omega
                  simp only [hw2]
                  clear HP HST hb2 hb2' s2 t2 s0 d0 d2 d2f CS hw2 HD hm heq
                  generalize (w2.setCell ⟨p, 2, none⟩ (.int .i64 (U2 : Int))) = w3 at *
                  go_wp2_with (go_at_call 48; refine CP.out.mono ?_; intro e w4 hPu; have HPU := Lib.hid hPu; obtain rfl := hPu.1; clear hPu; refine Hid.out ?_)
                  refine Lib.hid ?_
                  obtain ⟨u, S4, hS4, hT4⟩ := HS2.out w4 _ HB2.out HPU.out
                  have HS4 := Lib.hid (And.intro hS4 hT4)
                  clear hS4 hT4 HPU CP HS2
                  go_wp2
                  go_roundw
                  case rel => exact ⟨z + 1, oz.set z .nilIface, u, S4, by omega, by go_num, by rw [HE2.out, List.length_append]; go_num, by rw [List.length_set]; exact HZL.out, HS4.out.1, HS4.out.2⟩
                  case measure => simp [intOf]; omega
              | code x1 x2 x3 bs cs =>
                obtain ⟨b, r0, q0, rfl, _⟩ := id hcz
                have heq := neq_nil_iface 88 (.pointer (some ⟨b, 0, none⟩))
                have hm := msize_code ⟨b, 0, none⟩
                obtain ⟨D1, E1, F1, G1, T1⟩ := hSw.goner rfl hcz
                obtain ⟨b', r, q, eb, _, G1b, Gb, Gr⟩ := G1
                have HT1 : Hid (Tabs (wr.setCell ⟨g0, z, none⟩ .nilIface).drew) := (HTS.out.turn hTw HTB.out).tabs (T1.drewN 1) (HTS.out.tabs hTw HTB.out)
                have CS := Lib.hid (size_code b ((row_form Gb).choose) ((row_form Gr).choose) bs.length ((row_form Gb).choose_spec.choose) cs.length ((row_form Gr).choose_spec.choose) (wr.setCell ⟨g0, z, none⟩ .nilIface).drew (by cases eb; have := (row_form Gb).choose_spec.choose_spec; rw [← this]; exact G1b.cell 3) (by cases eb; have := (row_form Gr).choose_spec.choose_spec; rw [← this]; exact G1b.cell 4) (by have := HOK.out.live_size hozz; simp [HObj.size] at this; omega) (by have := HOK.out.live_size hozz; simp [HObj.size] at this; omega))
                have HP := Lib.hid fun (w2 : World) (hb : Below (wr.setCell ⟨g0, z, none⟩ .nilIface).heap.size (wr.setCell ⟨g0, z, none⟩ .nilIface) w2) => hpush p (z : Int) (.int .i64 m.limit) (.int .i64 m.many) (.int .i64 (usedOf (sweptObjs m.objs M (z + 1)))) (.slice (some ⟨g0, 0, none⟩) os.length cv) uf (m.free ++ sweptFree m.objs M z) (w2.setCell ⟨p, 2, none⟩ (.int .i64 (usedOf (sweptObjs m.objs M (z + 1))))) ((D1.below hb).set 2 _) (owns_keep (owns_later F1 hb) fun g hg => Below.heap_setCell _ _ _ _ (fun e => by have e' : g = p := e; have := hSw.freOwn g hg; rw [e', hSw.own] at this; cases this)) (fun e => by have := hSw.freOwn p e; rw [hSw.own] at this; cases this) (by have := HOK.out.free_swept M z; omega) (fun x hx => (List.mem_append.1 hx).elim (HAB.out z hgo x) fun h => (free_lt m.objs M z x h).2)
                have HST : Hid (∀ (w2 w4 : World) (e : Ending), Below wr.heap.size (wr.setCell ⟨g0, z, none⟩ .nilIface) w2 → Pushed (w2.setCell ⟨p, 2, none⟩ (.int .i64 (usedOf (sweptObjs m.objs M (z + 1))))) p (.int .i64 m.limit) (.int .i64 m.many) (.int .i64 (usedOf (sweptObjs m.objs M (z + 1)))) (.slice (some ⟨g0, 0, none⟩) os.length cv) uf (m.free ++ sweptFree m.objs M z) z e w4 →
                    ∃ u S4, SweepAt w4 S4 p m (.slice (some ⟨g0, 0, none⟩) os.length cv) (oz.set z .nilIface) w.heap.size (w.heap.size + 1 + 1) (w.heap.size + 1) M (z + 1) u ∧ Turn S w w4 S4) := fun w2 w4 e hb hPu => by
                  obtain ⟨u, S4, h1, h2⟩ := hSw.step (e := e) (w2 := w2) (w4 := w4) hgo hozz (by rw [hozl]) hb hPu
                  exact ⟨u, S4, h1, hTw.trans h2⟩
                have h0h : wr.cell? ⟨w.heap.size, 0, none⟩ = some (.pointer (some ⟨p, 0, none⟩)) := hSw.hv.blk.cell 0
                have h03 : wr.cell? ⟨p, 3, none⟩ = some (.slice (some ⟨g0, 0, none⟩) os.length cv) := hSw.blk.cell 3
                have HZL := Lib.hid hozl
                have HD := Lib.hid (And.intro D1 E1)
                have HE2 := Lib.hid (show sweptFree m.objs M (z + 1) = sweptFree m.objs M z ++ [(z : Int)] by simp [sweptFree, hgo])
                have hsz1 : (wr.setCell ⟨g0, z, none⟩ .nilIface).heap.size = wr.heap.size := by simp [World.setCell]
                have d2 : (wr.setCell ⟨g0, z, none⟩ .nilIface).cell? ⟨p, 2, none⟩ = some (.int .i64 (usedOf (sweptObjs m.objs M z))) := D1.cell 2
                have d2f := D1.frozen 2
                have d0 : (wr.setCell ⟨g0, z, none⟩ .nilIface).cell? ⟨w.heap.size, 0, none⟩ = some (.pointer (some ⟨p, 0, none⟩)) := E1.cell 0
                have hsz := swept_used m.objs M z _ hgo hozz
                have hle := swept_used_le m.objs M z
                have hus : usedOf m.objs ≤ 1048576 := HOK.out.used
                have hfl := free_length m.objs M z
                simp only [HObj.size] at hsz
                generalize hnn : bs.length + cs.length = n0 at *
                have hwr : (usedOf (sweptObjs m.objs M z) : Int) - (n0 : Int) = (usedOf (sweptObjs m.objs M (z + 1)) : Int) := by omega
                have hpl := hSw.blk.lt
                have hbl := hSw.hv.blk.lt
                generalize hU1 : usedOf (sweptObjs m.objs M z) = U1 at *
                generalize hU2 : usedOf (sweptObjs m.objs M (z + 1)) = U2 at *
                clear hU1 hU2 hSw hTw hcz hoz hgo hozz hMz D1 E1 F1 T1 G1b hozl hvz HT1 hml
                go_wp2
                generalize (wr.setCell ⟨g0, z, none⟩ .nilIface) = w1 at *
                go_region_with ((go_at_call 88; refine CS.out.mono ?_; rintro e w2 ⟨rfl, hb2⟩; have s2 : w2.cell? ⟨p, 2, none⟩ = some (.int .i64 U1) := cell_later hb2 d2; have t2 : w2.frozen? ⟨p, 2, none⟩ = false := frozen_later hb2 d2 d2f; have s0 : w2.cell? ⟨w.heap.size, 0, none⟩ = some (.pointer (some ⟨p, 0, none⟩)) := cell_later hb2 d0))
                all_goals
                  have hb2' : Below w1.heap.size w1 w2 := ⟨hb2.os, hb2.tape, hb2.output, hb2.size, hb2.block⟩
                  have hw2 : IntKind.i64.wrap (U2 : Int) = (U2 : Int) := IntWalk.i64_in _ (by omega)
                  have s0' : (w2.setCell ⟨p, 2, none⟩ (.int .i64 (U2 : Int))).cell? ⟨w.heap.size, 0, none⟩ = some (.pointer (some ⟨p, 0, none⟩)) := ((HD.out.2.below hb2').far (p := ⟨p, 2, none⟩) (by show w.heap.size ≠ p; omega) _).cell 0
                  have CP := Lib.hid (HP.out w2 hb2')
                  have HS2 := Lib.hid (HST.out w2)
                  have HB2 : Hid (Below wr.heap.size w1 w2) := hsz1 ▸ hb2'
                  have hfw : ((sweptFree m.objs M z).length : Int) ≤ 70000 := by omega
                  simp only [hw2]
                  clear HP HST hb2 hb2' s2 t2 s0 d0 d2 d2f CS hw2 HD hm heq
                  generalize (w2.setCell ⟨p, 2, none⟩ (.int .i64 (U2 : Int))) = w3 at *
                  go_wp2_with (go_at_call 48; refine CP.out.mono ?_; intro e w4 hPu; have HPU := Lib.hid hPu; obtain rfl := hPu.1; clear hPu; refine Hid.out ?_)
                  refine Lib.hid ?_
                  obtain ⟨u, S4, hS4, hT4⟩ := HS2.out w4 _ HB2.out HPU.out
                  have HS4 := Lib.hid (And.intro hS4 hT4)
                  clear hS4 hT4 HPU CP HS2
                  go_wp2
                  go_roundw
                  case rel => exact ⟨z + 1, oz.set z .nilIface, u, S4, by omega, by go_num, by rw [HE2.out, List.length_append]; go_num, by rw [List.length_set]; exact HZL.out, HS4.out.1, HS4.out.2⟩
                  case measure => simp [intOf]; omega
        · have hzz : z = m.objs.length := by have := HOL.out; omega
          have c1 : wr.cell? ⟨p, 1, none⟩ = some (.int .i64 m.many) := hSw.blk.cell 1
          have f1 := hSw.blk.frozen 1
          have h0h : wr.cell? ⟨w.heap.size, 0, none⟩ = some (.pointer (some ⟨p, 0, none⟩)) := hSw.hv.blk.cell 0
          have hmg := HM.many_swept m M
          have hmn : m.many ≤ 65536 := by have := HOK.out.free; have := HOK.out.len; have := HOK.out.hi; omega
          subst hzz
          have HDN := Lib.hid (hSw.done HOK.out)
          have HTD := Lib.hid (hTw.setCell (p := ⟨p, 1, none⟩) (by show Sz p ≠ none; rw [hSw.own]; simp) (.int .i64 ((m.swept M).many : Int)))
          have hi2 : decide ((m.objs.length : Int) < (os.length : Int)) = false := decide_eq_false (by omega)
          have hwr : (m.many : Int) - ((sweptFree m.objs M m.objs.length).length : Int) = ((m.swept M).many : Int) := by unfold HM.gone at hmg; omega
          clear hSw hTw hozl
          go_wp2
          go_ret
          exact ⟨M, Sz, by have := HMK.out; rwa [HS0.out, HOL.out] at this, rfl, HDN.out, HTD.out⟩
    · rw [List.concat_eq_append] at hM hgk hI
      obtain ⟨g, cap, V, o, rfl, hcell, ho, hobj⟩ := hM.top
      have hP := hM.popped
      have s0 : wr.cell? ⟨w.heap.size + 1 + 1 + 1, 0, none⟩ = some (.slice (some ⟨g, 0, none⟩) (K'.length + 1) cap) := hM.sv.blk.cell 0
      have y0 := hM.sv.blk.frozen 0
      have hcap : K'.length + 1 ≤ cap ∧ cap ≤ 9223372036854775807 := by
        rcases hM.sr.2 with ⟨h, _⟩ | ⟨g', cap', cur, h, _, _, h6, h7, _⟩
        · cases h
        · injection h with _ e2 e3
          simp [maxLen] at h6 h7
          omega
      have hmany := hM.many
      simp at hmany
      have d0 : decide ((0 : Int) < (K'.length : Int) + 1) = true := decide_eq_true (by omega)
      have B1 : Below w.heap.size w (wr.setCell ⟨w.heap.size + 1 + 1 + 1, 0, none⟩ (.slice (some ⟨g, 0, none⟩) K'.length cap)) := hB.setCell (by show _ ≤ _; simp <;> omega) _
      have hg1 : ∀ g', (Value.slice (some ⟨g, 0, none⟩) K'.length cap).ownBlock = some g' → w.heap.size ≤ g' := fun g' h => hg g' (by simpa [Value.ownBlock] using h)
      have hobj1 : ObjAt (wr.setCell ⟨w.heap.size + 1 + 1 + 1, 0, none⟩ (.slice (some ⟨g, 0, none⟩) K'.length cap)) S (i + 3) V o := hobj.keep fun b hb => ⟨Below.heap_setCell _ _ _ _ (fun e => by have e' : b = w.heap.size + 1 + 1 + 1 := e; have := hM.sv.out; rw [← e', hb] at this; cases this), hb⟩
      have hgk' : gk = unm M + K'.length + 1 := by rw [hgk]; simp; omega
      have HM := Lib.hid hP
      have HB1 := Lib.hid B1
      have HG1 := Lib.hid hg1
      have HO := Lib.hid ho
      have HI' := Lib.hid hI
      have HK := Lib.hid hgk'
      clear hM hB hg hI hgk hobj hP B1 hg1 ho hgk'
      cases o with
      | text s =>
        obtain ⟨b, rfl, _⟩ := hobj1
        have t1 : ∀ w : World, (Instr.typeAssert (.iface 74 (.pointer (some ⟨b, 0, none⟩))) 86 77 true).run Tryd.prog w = .ok (.tuple #[.pointer none, .bool false]) w := fun _ => by kernel_rfl
        have t2 : ∀ w : World, (Instr.typeAssert (.iface 74 (.pointer (some ⟨b, 0, none⟩))) 86 69 true).run Tryd.prog w = .ok (.tuple #[.pointer none, .bool false]) w := fun _ => by kernel_rfl
        have t3 : ∀ w : World, (Instr.typeAssert (.iface 74 (.pointer (some ⟨b, 0, none⟩))) 86 88 true).run Tryd.prog w = .ok (.tuple #[.pointer none, .bool false]) w := fun _ => by kernel_rfl
        have HR : Hid (Round w S p m (.slice A2 os.length cv) vf os st0 (unm M + K'.length) (wr.setCell ⟨w.heap.size + 1 + 1 + 1, 0, none⟩ (.slice (some ⟨g, 0, none⟩) K'.length cap))) := ⟨(M, K'), _, rfl, HM.out, HB1.out, HG1.out, Marks.back HO.out HI'.out⟩
        go_wp2
        go_roundg (unm M + K'.length)
        case measure => have := HK.out; omega
        case rel => exact HR.out
      | pair a d =>
        obtain ⟨b, rfl, hSb, hb⟩ := hobj1
        obtain ⟨a1, a2⟩ := a
        obtain ⟨d1, d2⟩ := d
        have t1 : ∀ w : World, (Instr.typeAssert (.iface 77 (.pointer (some ⟨b, 0, none⟩))) 86 77 true).run Tryd.prog w = .ok (.tuple #[.pointer (some ⟨b, 0, none⟩), .bool true]) w := fun _ => by kernel_rfl
        have hmk := HM.out.owned (b := b) (by rw [hSb]; simp)
        have hn2' : b ≠ w.heap.size + 1 + 1 + 1 := fun e => by have := HM.out.sv.out; rw [← e, hSb] at this; cases this
        have p0 : (wr.setCell ⟨w.heap.size + 1 + 1 + 1, 0, none⟩ (.slice (some ⟨g, 0, none⟩) K'.length cap)).drew.cell? ⟨b, 0, none⟩ = some (.int .i64 a1) := hb.cell 0
        have p1 : (wr.setCell ⟨w.heap.size + 1 + 1 + 1, 0, none⟩ (.slice (some ⟨g, 0, none⟩) K'.length cap)).drew.cell? ⟨b, 1, none⟩ = some (.int .i64 a2) := hb.cell 1
        have p2 : (wr.setCell ⟨w.heap.size + 1 + 1 + 1, 0, none⟩ (.slice (some ⟨g, 0, none⟩) K'.length cap)).drew.cell? ⟨b, 2, none⟩ = some (.int .i64 d1) := hb.cell 2
        have p3 : (wr.setCell ⟨w.heap.size + 1 + 1 + 1, 0, none⟩ (.slice (some ⟨g, 0, none⟩) K'.length cap)).drew.cell? ⟨b, 3, none⟩ = some (.int .i64 d2) := hb.cell 3
        clear hb
        go_wp2
        generalize (wr.setCell ⟨w.heap.size + 1 + 1 + 1, 0, none⟩ (.slice (some ⟨g, 0, none⟩) K'.length cap)) = w1 at HM HB1 p0 p1 p2 p3 ⊢
        have CM := Lib.hid (mark_words S p m _ vf os w.heap.size (w.heap.size + 1 + 1) (w.heap.size + 1) (w.heap.size + 1 + 1 + 1) (some ⟨w1.heap.size, 0, none⟩) 2 [(a1, a2), (d1, d2)] (M, K') _ (w1.alloc (.cells #[.int .i64 a1, .int .i64 a2, .int .i64 d1, .int .i64 d2] 24)).drew (HM.out.below ((Below.refl _ _).alloc (Nat.le_refl _) _).drew) (by simp) (fun _ => ⟨w1.heap.size, 0, rfl, (fun j y hj => by
          match j, hj with
          | 0, hj => simp at hj; subst hj; exact ⟨(Blk.new w1 _ _).cell 0, (Blk.new w1 _ _).cell 1⟩
          | 1, hj => simp at hj; subst hj; exact ⟨(Blk.new w1 _ _).cell 2, (Blk.new w1 _ _).cell 3⟩
          | j + 2, hj => simp at hj), Own.mark_none (by have := HM.out.mr.blk.lt; omega) (by have := HM.out.sv.blk.lt; omega) (fun e => by have := HM.out.sr.lt _ e; omega), by show _ < (w1.alloc _).heap.size; simp⟩))
        go_region_held3 (fun w' => w'.cell? ⟨b, 0, none⟩ = some (.int .i64 a1) ∧ w'.cell? ⟨b, 1, none⟩ = some (.int .i64 a2) ∧ w'.cell? ⟨b, 2, none⟩ = some (.int .i64 d1) ∧ w'.cell? ⟨b, 3, none⟩ = some (.int .i64 d2))
          (first | exact ⟨p0, p1, p2, p3⟩ | exact ⟨al_cell p0, al_cell p1, al_cell p2, al_cell p3⟩ | exact ⟨turn_cell hT (hmk) (al_cell p0), turn_cell hT (hmk) (al_cell p1), turn_cell hT (hmk) (al_cell p2), turn_cell hT (hmk) (al_cell p3)⟩)
          (first | (go_at_call 47; refine CM.out.mono ?_; intro e w2 hMk; have hT : Turn _ (w1.alloc (.cells #[.int .i64 a1, .int .i64 a2, .int .i64 d1, .int .i64 d2] 24)).drew w2 _ := hMk.2.choose_spec.2.1; have hMk' := Lib.hid hMk; obtain rfl := hMk.1; clear hMk))
        have HR : Hid (Round w S p m (.slice A2 os.length cv) vf os st0 (unm M + K'.length) w2) := Round.next (HB1.out.trans ((((Below.refl w1.heap.size w1).alloc (Nat.le_refl _) _).drew).mono HB1.out.size)) HG1.out HO.out HI'.out hMk'.out
        clear CM hT hMk'
        go_wp2
        go_roundg (unm M + K'.length)
        case measure => have := HK.out; omega
        case rel => exact HR.out
      | vec lv =>
        obtain ⟨b, r, rfl, hSb, hb, hr⟩ := hobj1
        obtain ⟨Ar, cr, rfl, hrw⟩ := row_words hr
        have t1 : ∀ w : World, (Instr.typeAssert (.iface 69 (.pointer (some ⟨b, 0, none⟩))) 86 77 true).run Tryd.prog w = .ok (.tuple #[.pointer none, .bool false]) w := fun _ => by kernel_rfl
        have t2 : ∀ w : World, (Instr.typeAssert (.iface 69 (.pointer (some ⟨b, 0, none⟩))) 86 69 true).run Tryd.prog w = .ok (.tuple #[.pointer (some ⟨b, 0, none⟩), .bool true]) w := fun _ => by kernel_rfl
        have CM := Lib.hid (mark_words S p m _ vf os w.heap.size (w.heap.size + 1 + 1) (w.heap.size + 1) (w.heap.size + 1 + 1 + 1) Ar cr lv (M, K') _ (wr.setCell ⟨w.heap.size + 1 + 1 + 1, 0, none⟩ (.slice (some ⟨g, 0, none⟩) K'.length cap)) HM.out (Nat.le_trans (HOK.out.live_size HO.out) (by omega)) (fun h0 => by
          obtain ⟨g', e1, e2, e3, e4⟩ := hrw h0
          exact ⟨g', 0, e1, e3, HM.out.owned (by rw [e2]; simp), e4⟩))
        have p0 : (wr.setCell ⟨w.heap.size + 1 + 1 + 1, 0, none⟩ (.slice (some ⟨g, 0, none⟩) K'.length cap)).cell? ⟨b, 0, none⟩ = some (.slice Ar lv.length cr) := hb.cell 0
        have HB' := Lib.hid hb
        clear hb hr hrw
        have nbs : b ≠ w.heap.size + 1 + 1 + 1 := fun e => by have := HM.out.sv.out; rw [← e, hSb] at this; cases this
        have q0 : wr.cell? ⟨b, 0, none⟩ = some (.slice Ar lv.length cr) := by
          rw [← p0]; exact (World.cell?_setCell_other wr _ ⟨b, 0, none⟩ _ (fun e => nbs (congrArg Addr.block e).symm)).symm
        clear p0
        go_wp2_with fail
        refine CM.out.mono ?_
        intro e w2 hMk
        have HR : Hid (Round w S p m (.slice A2 os.length cv) vf os st0 (unm M + K'.length) w2) := Round.next HB1.out HG1.out HO.out HI'.out hMk
        obtain rfl := hMk.1
        clear hMk CM
        go_wp2
        go_roundg (unm M + K'.length)
        case measure => have := HK.out; omega
        case rel => exact HR.out
      | code x1 x2 x3 bs cs =>
        obtain ⟨b, r, q, rfl, hSb, hb, _, hr⟩ := hobj1
        obtain ⟨Ar, cr, rfl, hrw⟩ := row_words hr
        have t1 : ∀ w : World, (Instr.typeAssert (.iface 88 (.pointer (some ⟨b, 0, none⟩))) 86 77 true).run Tryd.prog w = .ok (.tuple #[.pointer none, .bool false]) w := fun _ => by kernel_rfl
        have t2 : ∀ w : World, (Instr.typeAssert (.iface 88 (.pointer (some ⟨b, 0, none⟩))) 86 69 true).run Tryd.prog w = .ok (.tuple #[.pointer none, .bool false]) w := fun _ => by kernel_rfl
        have t3 : ∀ w : World, (Instr.typeAssert (.iface 88 (.pointer (some ⟨b, 0, none⟩))) 86 88 true).run Tryd.prog w = .ok (.tuple #[.pointer (some ⟨b, 0, none⟩), .bool true]) w := fun _ => by kernel_rfl
        have CM := Lib.hid (mark_words S p m _ vf os w.heap.size (w.heap.size + 1 + 1) (w.heap.size + 1) (w.heap.size + 1 + 1 + 1) Ar cr cs (M, K') _ (wr.setCell ⟨w.heap.size + 1 + 1 + 1, 0, none⟩ (.slice (some ⟨g, 0, none⟩) K'.length cap)) HM.out (by have := HOK.out.live_size HO.out; simp [HObj.size] at this; omega) (fun h0 => by
          obtain ⟨g', e1, e2, e3, e4⟩ := hrw h0
          exact ⟨g', 0, e1, e3, HM.out.owned (by rw [e2]; simp), e4⟩))
        have p0 : (wr.setCell ⟨w.heap.size + 1 + 1 + 1, 0, none⟩ (.slice (some ⟨g, 0, none⟩) K'.length cap)).cell? ⟨b, 4, none⟩ = some (.slice Ar cs.length cr) := hb.cell 4
        clear hb hr hrw
        have nbs : b ≠ w.heap.size + 1 + 1 + 1 := fun e => by have := HM.out.sv.out; rw [← e, hSb] at this; cases this
        have q0 : wr.cell? ⟨b, 4, none⟩ = some (.slice Ar cs.length cr) := by
          rw [← p0]; exact (World.cell?_setCell_other wr _ ⟨b, 4, none⟩ _ (fun e => nbs (congrArg Addr.block e).symm)).symm
        clear p0
        go_wp2_with fail
        refine CM.out.mono ?_
        intro e w2 hMk
        have HR : Hid (Round w S p m (.slice A2 os.length cv) vf os st0 (unm M + K'.length) w2) := Round.next HB1.out HG1.out HO.out HI'.out hMk
        obtain rfl := hMk.1
        clear hMk CM
        go_wp2
        go_roundg (unm M + K'.length)
        case measure => have := HK.out; omega
        case rel => exact HR.out
end Go.Proofs.YthmfiahmfdadgaaDoor
