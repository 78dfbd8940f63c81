/-
  (*heap.Heap).Copy: a heap of its own with the same objects. Conditions: the heap holds no code and no free number.
-/
import Derived.Test.YthmfiahmfdadgaaDoorCopy
import Derived.Test.YthmfiahmfdadgaaDoorCnt
import Derived.Test.YthmfiahmfdadgaaDoorLives
namespace Go.Proofs.YthmfiahmfdadgaaDoor
open Go.RowKit
set_option maxRecDepth 100000
theorem HeapIn.row0 {w : World} {S : Own} {p : Nat} {m : HM} {vo vf : Value} {os : List Value} {z : Nat} (h : HeapIn w S p m vo vf os) (hz : z < os.length) :
    ∃ g0 cap v o, vo = .slice (some ⟨g0, 0, none⟩) os.length cap ∧ w.cell? ⟨g0, z, none⟩ = some v ∧ m.objs[z]? = some o ∧ CellIs w S (z + 3) v o := by
  obtain ⟨g0, cap, hv, _, _⟩ := h.row.form (by omega)
  have h1 := h.row
  rw [hv] at h1
  have hz' : z < m.objs.length := by rw [← h.len]; exact hz
  refine ⟨g0, cap, os[z], m.objs[z], hv, ?_, List.getElem?_eq_getElem hz', h.objs z _ _ (List.getElem?_eq_getElem hz) (List.getElem?_eq_getElem hz')⟩
  rw [h1.cellAt z (by omega)]
  exact List.getElem?_eq_getElem hz
theorem CopyAt.start {w w1 : World} {m : HM} {va : Option Addr} {vc : Nat} (hb : Below w.heap.size w w1) (hn : w1.ownsRow w.heap.size 3 1 (.slice va 0 vc) 0 []) :
    CopyAt w (w1.alloc (.cells #[.int .i64 m.limit, .int .i64 m.many, .int .i64 m.used, .slice none 0 0, .slice va 0 vc] 67)) (fun b => if b = w1.heap.size then some 0 else if (Value.slice va 0 vc).ownBlock = some b then some 2 else none) w1.heap.size m 0 (.slice none 0 0) (.slice va 0 vc) [] := by
  have hlt : ∀ g, (Value.slice va 0 vc).ownBlock = some g → w.heap.size ≤ g ∧ g < w1.heap.size := fun g hg => hn.lt g hg
  exact {
    below := hb.alloc hb.size _
    blk := Blk.new w1 _ _
    own := by simp
    new := fun b e => by
      show _ ∧ b < (w1.alloc _).heap.size
      have := hb.size
      by_cases h1 : b = w1.heap.size
      · subst h1; simp; omega
      · by_cases h2 : (Value.slice va 0 vc).ownBlock = some b
        · have := hlt b h2; simp; omega
        · simp [h1, h2] at e
    row := World.ownsRow_nil _ _ _ _
    rowOwn := fun g hg => by simp [Value.ownBlock] at hg
    objs := fun i v o hi => absurd hi (by omega)
    fre := owns_later (owns_mono hn (Nat.zero_le _)) ((Below.refl _ _).alloc (Nat.le_refl _) _)
    freOwn := fun g hg => by
      have := hlt g hg
      rw [if_neg (by omega), if_pos hg]
    top := fun b k e => by
      split at e
      · cases e; omega
      · split at e
        · cases e; omega
        · cases e }
set_option maxHeartbeats 4000000 in
theorem copy_any (S : Own) (p : Nat) (m : HM) (w : World) (hH : HeapAt w S p m) (hf : m.free = []) (hC : ∀ (i : Nat) x y z bs cs, m.objs[i]? ≠ some (some (HObj.code x y z bs cs))) :
    Calls Tryd.prog 30 #[.pointer (some ⟨p, 0, none⟩)] w fun e w' => ∃ q S', e = .returned (.pointer (some ⟨q, 0, none⟩)) ∧ w.heap.size ≤ q ∧ HeapAt w' S' q m ∧ Below w.heap.size w w' ∧ ∀ b, S' b ≠ none → w.heap.size ≤ b := by
  obtain ⟨hok, vo, vf, os, hI⟩ := hH
  obtain ⟨fa, cf, rfl⟩ := hI.vf_form hf
  obtain ⟨i0, hi, hz0, hz1, hz2⟩ := info_parts info_obj
  obtain ⟨A2, cv, hvo⟩ : ∃ A cv, vo = .slice A os.length cv := by
    rcases hI.row.2 with ⟨h, h2⟩ | ⟨g, cap, cur, h, _⟩
    · exact ⟨none, 0, by rw [h, h2]⟩
    · exact ⟨_, _, h⟩
  subst hvo
  have c0 : w.cell? ⟨p, 0, none⟩ = some (.int .i64 m.limit) := hI.blk.cell 0
  have c1 : w.cell? ⟨p, 1, none⟩ = some (.int .i64 m.many) := hI.blk.cell 1
  have c2 : w.cell? ⟨p, 2, none⟩ = some (.int .i64 m.used) := hI.blk.cell 2
  have c3 : w.cell? ⟨p, 3, none⟩ = some (.slice A2 os.length cv) := hI.blk.cell 3
  have c4 : w.cell? ⟨p, 4, none⟩ = some (.slice fa 0 cf) := hI.blk.cell 4
  have hlt := hI.blk.lt
  have h0 : 0 < m.limit := hok.lo
  have hol : os.length ≤ 65536 := by have := hok.len; have := hok.hi; rw [hI.len]; omega
  have HI := Lib.hid hI
  have HOK := Lib.hid hok
  have HF := Lib.hid hf
  have HCC := Lib.hid hC
  clear hI hok hf hC
  go_enter Tryd.func30, Tryd.ntmps30
  go_wp2_with (go_at_call 36; refine (made_yes p m.limit _ h0 c0).mono ?_; rintro e w' ⟨rfl, rfl⟩)
  have k0 : w.drew.cell? ⟨p, 0, none⟩ = some (.int .i64 m.limit) := c0
  have k1 : w.drew.cell? ⟨p, 1, none⟩ = some (.int .i64 m.many) := c1
  have k2 : w.drew.cell? ⟨p, 2, none⟩ = some (.int .i64 m.used) := c2
  have k4 : w.drew.cell? ⟨p, 4, none⟩ = some (.slice fa 0 cf) := c4
  have A1 : Below w.heap.size w w.drew := (Below.refl _ _).drew
  go_region_held3 (fun w' => w'.cell? ⟨p, 0, none⟩ = some (.int .i64 m.limit) ∧ w'.cell? ⟨p, 1, none⟩ = some (.int .i64 m.many) ∧ w'.cell? ⟨p, 2, none⟩ = some (.int .i64 m.used) ∧ w'.cell? ⟨p, 4, none⟩ = some (.slice fa 0 cf) ∧ Below w.heap.size w w')
    (first | exact ⟨k0, k1, k2, k4, A1⟩ | (go_split_ands; exact ⟨cell_later hb (by assumption), cell_later hb (by assumption), cell_later hb (by assumption), cell_later hb (by assumption), Below.trans (by assumption) (hb.mono (Below.size (by assumption)))⟩) | (go_split_ands; exact ⟨al_cell (by assumption), al_cell (by assumption), al_cell (by assumption), al_cell (by assumption), Below.alloc (by assumption) (Below.size (by assumption)) _⟩))
    (first | (go_at_call 49; refine (clone_none fa cf _).mono ?_; rintro e w1 ⟨vn, rfl, hn1, hb⟩; have hn2 : w1.ownsRow w.heap.size 3 1 vn 0 [] := owns_mono hn1 (by go_split_ands; exact Below.size (by assumption)); have B1 : Below w.heap.size w w1 := (by go_split_ands; exact Below.trans (by assumption) (hb.mono (Below.size (by assumption)))); obtain ⟨va, vc, rfl⟩ : ∃ a c, vn = .slice a 0 c := (by rcases hn1.2 with ⟨h, _⟩ | ⟨g, cap, cur, h, _⟩ <;> exact ⟨_, _, h⟩)))
  have HC0 := Lib.hid (CopyAt.start (m := m) B1 hn2)
  have s3 : (w1.alloc (.cells #[.int .i64 m.limit, .int .i64 m.many, .int .i64 m.used, .slice none 0 0, .slice va 0 vc] 67)).cell? ⟨p, 3, none⟩ = some (.slice A2 os.length cv) := al_cell (cell_later B1 c3)
  have hqw : w.heap.size ≤ w1.heap.size := B1.size
  obtain ⟨q, hq⟩ : ∃ q, q = w1.heap.size := ⟨_, rfl⟩
  rw [← hq] at HC0 hqw ⊢
  obtain ⟨S0, hS0⟩ : ∃ S0 : Own, S0 = fun b => if b = q then some 0 else if (Value.slice va 0 vc).ownBlock = some b then some 2 else none := ⟨_, rfl⟩
  rw [← hS0] at HC0
  generalize w1.alloc (.cells #[.int .i64 m.limit, .int .i64 m.many, .int .i64 m.used, .slice none 0 0, .slice va 0 vc] 67) = wq at HC0 s3 ⊢
  clear hq hS0 hn1 hn2 hb B1 A1 k0 k1 k2 k4 c0 c1 c2 c4
  (try go_split_ands)
  go_wp2
  go_loopw [33] (fun s33 wr => ∃ (z : Nat) (vo' : Value) (os' : List Value) (Sz : Own), z ≤ os.length ∧ s33 = .int .i64 z ∧ CopyAt w wr Sz q m z vo' (.slice va 0 vc) os') (fun s33 _ => os.length - (intOf s33).toNat)
  case atStart => exact ⟨0, _, _, _, Nat.zero_le _, rfl, HC0.out⟩
  case round =>
    obtain ⟨z, vo', os', Sz, hz, rfl, hCA⟩ := hrel
    by_cases hzn : z < os.length
    · have hIr := HI.out.keep hCA.below.size fun b hb => hCA.below.block b (HI.out.lt b hb)
      obtain ⟨g0, cap0, v, o, hv0, x0, ho, hcz⟩ := hIr.row0 hzn
      injection hv0 with hA2 _ hcv
      subst hA2
      subst hcv
      have i1 : (0 : Int) ≤ (z : Int) := by omega
      have i2 : (z : Int) < (os.length : Int) := by omega
      have hosl : os'.length = z := by have := hCA.row.1; omega
      have d3 : wr.cell? ⟨q, 3, none⟩ = some vo' := hCA.blk.cell 3
      have f3 := hCA.blk.frozen 3
      obtain ⟨A3, cv3, hvo3⟩ : ∃ A cv, vo' = .slice A z cv := by
        rcases hCA.row.2 with ⟨h, h2⟩ | ⟨g, cap, cur, h, _⟩
        · exact ⟨none, 0, by rw [h, h2]⟩
        · exact ⟨_, _, h⟩
      subst hvo3
      have HO := Lib.hid ho
      have HCA := Lib.hid hCA
      clear hIr hCA ho
      cases o with
      | none =>
        have hv : v = .nilIface := hcz
        subst hv
        have heq := neq_nil_nil
        have BB : Below wr.heap.size wr wr := Below.refl _ _
        have HN : Hid (CellNew wr wr .nilIface none) := rfl
        clear hcz
        have O1 := Lib.hid (owns_later HCA.out.row BB)
        have D1 := Lib.hid (HCA.out.blk.below BB)
        have HV : Hid (Reads (wr.alloc (.cells #[.nilIface] 86)) (wr.heap.size + 1) 1 (some ⟨wr.heap.size, 0, none⟩) 1 [.nilIface]) := ⟨rfl, fun _ => ⟨_, rfl, Nat.lt_succ_self _, cell_one_new _ _ _⟩⟩
        have e3 : wr.cell? ⟨q, 3, none⟩ = some (.slice A3 z cv3) := D1.out.cell 3
        clear d3 f3
        go_wp2_with (at_builtin; refine (wpList_append_any _ rfl (.tmp 45) (.tmp 47) _ rfl 0 86 i0 _ 1 16 Tryd.underlying64 hi hz0 hz1 hz2 rfl (by omega) (.slice A3 z cv3) z os' rfl (O1.out.alloc _) (wr.heap.size + 1) (some ⟨wr.heap.size, 0, none⟩) 1 1 [.nilIface] rfl HV.out (fun u hu => by simp at hu; subst hu; rfl) (by simp only [maxLen]; omega) (by omega) (Nat.zero_le _) ?_); intro v2 w2 hown2 hgrow2 hat2; refine Hid.out ?_)
        refine Lib.hid ?_
        have HG := Lib.hid hgrow2
        have hqv : some q ≠ (Value.slice A3 z cv3).ownBlock := fun e => by have h1 := HCA.out.rowOwn q e.symm; rw [HCA.out.own] at h1; cases h1
        have D2 := (D1.out.alloc (.cells #[.nilIface] 86)).keep (hgrow2.block q (by have := D1.out.lt; simp; omega) hqv)
        have s3 : w2.cell? ⟨q, 3, none⟩ = some (.slice A3 z cv3) := D2.cell 3
        have t3 := D2.frozen 3
        have HST := Lib.hid (HCA.out.step HO.out BB HN.out hown2 hgrow2 hat2)
        obtain ⟨va2, vn2, vc2, hv2⟩ : ∃ a n c, v2 = .slice a n c := by
          rcases hown2.2 with ⟨h, _⟩ | ⟨g, cap, cur, h, _⟩ <;> exact ⟨_, _, _, h⟩
        subst hv2
        clear hown2 hgrow2 hat2 D2 O1 D1 HV e3 HG hqv HCA
        go_wp2
        go_roundw
        case rel => exact ⟨z + 1, _, _, _, by omega, by go_num, HST.out⟩
        case measure => simp [intOf]; omega
      | some o =>
        cases o with
        | pair a d =>
          obtain ⟨b, rfl, _, hb0⟩ := hcz
          have heq := neq_nil_iface 77 (.pointer (some ⟨b, 0, none⟩))
          have hm := mcopied_pair ⟨b, 0, none⟩
          have CC := Lib.hid (copied_pair b a d wr hb0)
          clear hb0
          go_wp2_with fail
          refine CC.out.mono ?_
          rintro e w1 ⟨b', rfl, hN, BB⟩
          have HN : Hid (CellNew wr w1 (.iface 77 (.pointer (some ⟨b', 0, none⟩))) (some (.pair a d))) := hN
          have B' : Below wr.heap.size wr w1 := ⟨BB.os, BB.tape, BB.output, BB.size, BB.block⟩
          clear hN CC hm heq x0
          have O1 := Lib.hid (owns_later HCA.out.row B')
          have D1 := Lib.hid (HCA.out.blk.below B')
          have HV : Hid (Reads (w1.alloc (.cells #[.iface 77 (.pointer (some ⟨b', 0, none⟩))] 86)) (w1.heap.size + 1) 1 (some ⟨w1.heap.size, 0, none⟩) 1 [.iface 77 (.pointer (some ⟨b', 0, none⟩))]) := ⟨rfl, fun _ => ⟨_, rfl, Nat.lt_succ_self _, cell_one_new _ _ _⟩⟩
          have e3 : w1.cell? ⟨q, 3, none⟩ = some (.slice A3 z cv3) := D1.out.cell 3
          clear d3 f3
          go_wp2_with (at_builtin; refine (wpList_append_any _ rfl (.tmp 45) (.tmp 47) _ rfl 0 86 i0 _ 1 16 Tryd.underlying64 hi hz0 hz1 hz2 rfl (by omega) (.slice A3 z cv3) z os' rfl (O1.out.alloc _) (w1.heap.size + 1) (some ⟨w1.heap.size, 0, none⟩) 1 1 [.iface 77 (.pointer (some ⟨b', 0, none⟩))] rfl HV.out (fun u hu => by simp at hu; subst hu; rfl) (by simp only [maxLen]; omega) (by omega) (Nat.zero_le _) ?_); intro v2 w2 hown2 hgrow2 hat2; refine Hid.out ?_)
          refine Lib.hid ?_
          have HG := Lib.hid hgrow2
          have hqv : some q ≠ (Value.slice A3 z cv3).ownBlock := fun e => by have h1 := HCA.out.rowOwn q e.symm; rw [HCA.out.own] at h1; cases h1
          have D2 := (D1.out.alloc (.cells #[.iface 77 (.pointer (some ⟨b', 0, none⟩))] 86)).keep (hgrow2.block q (by have := D1.out.lt; simp; omega) hqv)
          have s3 : w2.cell? ⟨q, 3, none⟩ = some (.slice A3 z cv3) := D2.cell 3
          have t3 := D2.frozen 3
          have HST := Lib.hid (HCA.out.step HO.out B' HN.out hown2 hgrow2 hat2)
          obtain ⟨va2, vn2, vc2, hv2⟩ : ∃ a n c, v2 = .slice a n c := by
            rcases hown2.2 with ⟨h, _⟩ | ⟨g, cap, cur, h, _⟩ <;> exact ⟨_, _, _, h⟩
          subst hv2
          clear hown2 hgrow2 hat2 D2 O1 D1 HV e3 HG hqv HCA
          go_wp2
          go_roundw
          case rel => exact ⟨z + 1, _, _, _, by omega, by go_num, HST.out⟩
          case measure => simp [intOf]; omega
        | text s =>
          obtain ⟨b, rfl, _, hb0⟩ := hcz
          have heq := neq_nil_iface 74 (.pointer (some ⟨b, 0, none⟩))
          have hm := mcopied_text ⟨b, 0, none⟩
          have CC := Lib.hid (copied_text b s wr hb0)
          clear hb0
          go_wp2_with fail
          refine CC.out.mono ?_
          rintro e w1 ⟨b', rfl, hN, BB⟩
          have HN : Hid (CellNew wr w1 (.iface 74 (.pointer (some ⟨b', 0, none⟩))) (some (.text s))) := hN
          have B' : Below wr.heap.size wr w1 := ⟨BB.os, BB.tape, BB.output, BB.size, BB.block⟩
          clear hN CC hm heq x0
          have O1 := Lib.hid (owns_later HCA.out.row B')
          have D1 := Lib.hid (HCA.out.blk.below B')
          have HV : Hid (Reads (w1.alloc (.cells #[.iface 74 (.pointer (some ⟨b', 0, none⟩))] 86)) (w1.heap.size + 1) 1 (some ⟨w1.heap.size, 0, none⟩) 1 [.iface 74 (.pointer (some ⟨b', 0, none⟩))]) := ⟨rfl, fun _ => ⟨_, rfl, Nat.lt_succ_self _, cell_one_new _ _ _⟩⟩
          have e3 : w1.cell? ⟨q, 3, none⟩ = some (.slice A3 z cv3) := D1.out.cell 3
          clear d3 f3
          go_wp2_with (at_builtin; refine (wpList_append_any _ rfl (.tmp 45) (.tmp 47) _ rfl 0 86 i0 _ 1 16 Tryd.underlying64 hi hz0 hz1 hz2 rfl (by omega) (.slice A3 z cv3) z os' rfl (O1.out.alloc _) (w1.heap.size + 1) (some ⟨w1.heap.size, 0, none⟩) 1 1 [.iface 74 (.pointer (some ⟨b', 0, none⟩))] rfl HV.out (fun u hu => by simp at hu; subst hu; rfl) (by simp only [maxLen]; omega) (by omega) (Nat.zero_le _) ?_); intro v2 w2 hown2 hgrow2 hat2; refine Hid.out ?_)
          refine Lib.hid ?_
          have HG := Lib.hid hgrow2
          have hqv : some q ≠ (Value.slice A3 z cv3).ownBlock := fun e => by have h1 := HCA.out.rowOwn q e.symm; rw [HCA.out.own] at h1; cases h1
          have D2 := (D1.out.alloc (.cells #[.iface 74 (.pointer (some ⟨b', 0, none⟩))] 86)).keep (hgrow2.block q (by have := D1.out.lt; simp; omega) hqv)
          have s3 : w2.cell? ⟨q, 3, none⟩ = some (.slice A3 z cv3) := D2.cell 3
          have t3 := D2.frozen 3
          have HST := Lib.hid (HCA.out.step HO.out B' HN.out hown2 hgrow2 hat2)
          obtain ⟨va2, vn2, vc2, hv2⟩ : ∃ a n c, v2 = .slice a n c := by
            rcases hown2.2 with ⟨h, _⟩ | ⟨g, cap, cur, h, _⟩ <;> exact ⟨_, _, _, h⟩
          subst hv2
          clear hown2 hgrow2 hat2 D2 O1 D1 HV e3 HG hqv HCA
          go_wp2
          go_roundw
          case rel => exact ⟨z + 1, _, _, _, by omega, by go_num, HST.out⟩
          case measure => simp [intOf]; omega
        | vec l =>
          obtain ⟨b, r, rfl, _, hb0, hr0⟩ := hcz
          have hll : l.length ≤ 2000000 := by have h1 := HOK.out.used; have h2 := HO.out; have h3 := size_le_used h2; simp only [HObj.size] at h3; omega
          have heq := neq_nil_iface 69 (.pointer (some ⟨b, 0, none⟩))
          have hm := mcopied_vector ⟨b, 0, none⟩
          have CC := Lib.hid (copied_vector b r l wr hb0 hr0 hll)
          clear hb0 hr0 hll
          go_wp2_with fail
          refine CC.out.mono ?_
          rintro e w1 ⟨b', rfl, hN, BB⟩
          have HN : Hid (CellNew wr w1 (.iface 69 (.pointer (some ⟨b', 0, none⟩))) (some (.vec l))) := hN
          have B' : Below wr.heap.size wr w1 := ⟨BB.os, BB.tape, BB.output, BB.size, BB.block⟩
          clear hN CC hm heq x0
          have O1 := Lib.hid (owns_later HCA.out.row B')
          have D1 := Lib.hid (HCA.out.blk.below B')
          have HV : Hid (Reads (w1.alloc (.cells #[.iface 69 (.pointer (some ⟨b', 0, none⟩))] 86)) (w1.heap.size + 1) 1 (some ⟨w1.heap.size, 0, none⟩) 1 [.iface 69 (.pointer (some ⟨b', 0, none⟩))]) := ⟨rfl, fun _ => ⟨_, rfl, Nat.lt_succ_self _, cell_one_new _ _ _⟩⟩
          have e3 : w1.cell? ⟨q, 3, none⟩ = some (.slice A3 z cv3) := D1.out.cell 3
          clear d3 f3
          go_wp2_with (at_builtin; refine (wpList_append_any _ rfl (.tmp 45) (.tmp 47) _ rfl 0 86 i0 _ 1 16 Tryd.underlying64 hi hz0 hz1 hz2 rfl (by omega) (.slice A3 z cv3) z os' rfl (O1.out.alloc _) (w1.heap.size + 1) (some ⟨w1.heap.size, 0, none⟩) 1 1 [.iface 69 (.pointer (some ⟨b', 0, none⟩))] rfl HV.out (fun u hu => by simp at hu; subst hu; rfl) (by simp only [maxLen]; omega) (by omega) (Nat.zero_le _) ?_); intro v2 w2 hown2 hgrow2 hat2; refine Hid.out ?_)
          refine Lib.hid ?_
          have HG := Lib.hid hgrow2
          have hqv : some q ≠ (Value.slice A3 z cv3).ownBlock := fun e => by have h1 := HCA.out.rowOwn q e.symm; rw [HCA.out.own] at h1; cases h1
          have D2 := (D1.out.alloc (.cells #[.iface 69 (.pointer (some ⟨b', 0, none⟩))] 86)).keep (hgrow2.block q (by have := D1.out.lt; simp; omega) hqv)
          have s3 : w2.cell? ⟨q, 3, none⟩ = some (.slice A3 z cv3) := D2.cell 3
          have t3 := D2.frozen 3
          have HST := Lib.hid (HCA.out.step HO.out B' HN.out hown2 hgrow2 hat2)
          obtain ⟨va2, vn2, vc2, hv2⟩ : ∃ a n c, v2 = .slice a n c := by
            rcases hown2.2 with ⟨h, _⟩ | ⟨g, cap, cur, h, _⟩ <;> exact ⟨_, _, _, h⟩
          subst hv2
          clear hown2 hgrow2 hat2 D2 O1 D1 HV e3 HG hqv HCA
          go_wp2
          go_roundw
          case rel => exact ⟨z + 1, _, _, _, by omega, by go_num, HST.out⟩
          case measure => simp [intOf]; omega
        | code x y z bs cs => exact absurd HO.out (HCC.out _ _ _ _ _ _)
    · have hzl : z = m.objs.length := by rw [← HI.out.len]; omega
      have HD := Lib.hid hCA
      clear hCA
      go_wp2
      go_ret
      have hD := HD.out
      rw [hzl] at hD
      exact ⟨q, Sz, rfl, hqw, hD.done HOK.out HF.out, hD.below, fun b e => (hD.new b e).1⟩
end Go.Proofs.YthmfiahmfdadgaaDoor
