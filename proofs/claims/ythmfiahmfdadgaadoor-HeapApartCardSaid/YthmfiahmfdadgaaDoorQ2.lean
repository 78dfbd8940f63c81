/-
  Copies of code objects, and what CodeOf returns. Conditions: the object lies as said.
  (*heap.Heap).Copy: a heap of its own with the same objects. Conditions: the heap holds no free number.
-/
import Derived.Test.YthmfiahmfdadgaaDoorC1
import Derived.Test.YthmfiahmfdadgaaDoorHeap
import Derived.Test.YthmfiahmfdadgaaDoorQ1
import Derived.Test.YthmfiahmfdadgaaDoorCnt
import Derived.Test.YthmfiahmfdadgaaDoorLives
namespace Go.Proofs.YthmfiahmfdadgaaDoor
open Go.RowKit
set_option maxRecDepth 100000
theorem mcopied_code (a : Addr) (w : World) : (method 232 88 (.pointer (some a)) "copyist/heap.copied").run Tryd.prog w = .ok (86, .pointer (some a)) w := by kernel_rfl
set_option maxHeartbeats 1000000 in
theorem copied_code (b : Nat) (r q : Value) (x y z : Int) (bs : List Int) (cs : List Wd) (w : World) {S : Own} {k : Nat} (hB : Blk w b 91 #[.int .i64 x, .int .i64 y, .int .i64 z, r, q]) (hr : RowOf w S k 5 1 r bs.length (bs.map (Value.int .u8))) (hq : RowOf w S k 24 2 q cs.length (wdC cs)) (hl : bs.length ≤ 2000000) (hl2 : cs.length ≤ 2000000) :
    Calls Tryd.prog 86 #[.pointer (some ⟨b, 0, none⟩)] w fun e w' => ∃ b', e = .returned (.iface 88 (.pointer (some ⟨b', 0, none⟩))) ∧ NewObj w w' (.iface 88 (.pointer (some ⟨b', 0, none⟩))) (.code x y z bs cs) ∧ Below w.heap.size w w' := by
  obtain ⟨A, c, rfl, hR⟩ := hr.reads
  obtain ⟨B, d, rfl, hQ⟩ := hq.reads
  have c0 : w.cell? ⟨b, 0, none⟩ = some (.int .i64 x) := hB.cell 0
  have c1 : w.cell? ⟨b, 1, none⟩ = some (.int .i64 y) := hB.cell 1
  have c2 : w.cell? ⟨b, 2, none⟩ = some (.int .i64 z) := hB.cell 2
  have c3 : w.cell? ⟨b, 3, none⟩ = some (.slice A bs.length c) := hB.cell 3
  have c4 : w.cell? ⟨b, 4, none⟩ = some (.slice B cs.length d) := hB.cell 4
  have hlt := hB.lt
  have HR := Lib.hid hR
  have HQ := Lib.hid hQ
  clear hB hr hq hR hQ
  go_enter Tryd.func86, Tryd.ntmps86
  go_wp2_with fail
  refine (own_code x y z A B bs.length c cs.length d bs cs w hl hl2 HR.out HQ.out).mono ?_
  rintro e w1 ⟨u1, u2, mid, rfl, hmid, ho1, hL1, ho2, hb1⟩
  obtain ⟨va1, vc1, rfl⟩ := owns_slice ho1
  obtain ⟨va2, vc2, rfl⟩ := owns_slice ho2
  have H1 := Lib.hid (And.intro ho1 (And.intro ho2 hb1))
  clear ho1 ho2 hb1 hL1
  go_wp2
  go_ret
  obtain ⟨ho1, ho2, hb1⟩ := H1.out
  have hz := hb1.size
  refine ⟨w1.heap.size, rfl, fun S k hS => ?_, hb1.alloc hb1.size _⟩
  refine ⟨w1.heap.size, .slice va1 bs.length vc1, .slice va2 cs.length vc2, rfl, hS _ hz (by simp), Blk.new w1 _ _, ⟨owns_mono (owns_later ho1 ((Below.refl _ _).alloc (Nat.le_refl _) _)) (Nat.zero_le _), fun g hg => ?_⟩, ⟨owns_mono (owns_later ho2 ((Below.refl _ _).alloc (Nat.le_refl _) _)) (Nat.zero_le _), fun g hg => ?_⟩⟩
  · have := ho1.lt g hg
    exact hS g this.1 (by simp; omega)
  · have := ho2.lt g hg
    exact hS g (by omega) (by simp; omega)
theorem assert_code_yes (a : Addr) (w : World) : (Instr.typeAssert (.iface 88 (.pointer (some a))) 86 88 true).run Tryd.prog w = .ok (.tuple #[.pointer (some a), .bool true]) w := rfl
set_option maxHeartbeats 1000000 in
theorem codeOf_yes (p n b : Nat) (X : Wd) (A B : Option Addr) (c d : Nat) (x y z : Int) (bs : List Int) (cs : List Wd) (w : World) (h0 : 0 < n) (hc : w.cell? ⟨p, 0, none⟩ = some (.int .i64 n)) (hF : Finds w p X (.iface 88 (.pointer (some ⟨b, 0, none⟩)))) (hb : Blk w b 91 #[.int .i64 x, .int .i64 y, .int .i64 z, .slice A bs.length c, .slice B cs.length d])
    (hA : Reads w w.heap.size 1 A bs.length (byC bs)) (hB : Reads w w.heap.size 2 B cs.length (wdC cs)) (hl : bs.length ≤ 2000000) (hl2 : cs.length ≤ 2000000) :
    Calls Tryd.prog 33 #[.pointer (some ⟨p, 0, none⟩), .agg #[.int .i64 X.1, .int .i64 X.2]] w fun e w' => ∃ v1 v2 mid, e = .returned (.tuple #[.agg #[.int .i64 x, .int .i64 y, .int .i64 z, v1, v2], .int .i64 0]) ∧ w.heap.size ≤ mid ∧ w'.ownsRow w.heap.size 5 1 v1 bs.length (byC bs) ∧ (∀ g, v1.ownBlock = some g → g < mid) ∧ w'.ownsRow mid 24 2 v2 cs.length (wdC cs) ∧ Below w.heap.size w w' := by
  have hbl := hb.lt
  have hlt : p < w.heap.size := World.block_lt_of_cell? _ _ hc
  obtain ⟨xk, xn⟩ := X
  have HF := Lib.hid hF
  have HB := Lib.hid hb
  have HRA := Lib.hid hA
  have HRB := Lib.hid hB
  clear hF hb hA hB
  have hta := assert_code_yes ⟨b, 0, none⟩
  have BR : Below w.heap.size w ((w.alloc (.cells #[.int .i64 xk, .int .i64 xn] 24)).alloc (.cells #[.int .i64 0, .int .i64 0, .int .i64 0, .slice none 0 0, .slice none 0 0] 49)) := ((Below.refl _ _).alloc (Nat.le_refl _) _).alloc (by simp) _
  have k0 := cell_later BR hc
  have RR : Hid (Blk ((w.alloc (.cells #[.int .i64 xk, .int .i64 xn] 24)).alloc (.cells #[.int .i64 0, .int .i64 0, .int .i64 0, .slice none 0 0, .slice none 0 0] 49)) (w.heap.size + 1) 49 #[.int .i64 0, .int .i64 0, .int .i64 0, .slice none 0 0, .slice none 0 0]) := by
    have := Blk.new (w.alloc (.cells #[.int .i64 xk, .int .i64 xn] 24)) 49 #[.int .i64 0, .int .i64 0, .int .i64 0, .slice none 0 0, .slice none 0 0]
    simp at this
    exact this
  go_enter Tryd.func33, Tryd.ntmps33
  go_wp2_with (go_at_call 36; refine (made_yes p n _ h0 k0).mono ?_; rintro e w' ⟨rfl, rfl⟩)
  refine (HF.out _ BR).mono ?_
  rintro e w1 ⟨rfl, hb1⟩
  have B1 : Below w.heap.size w w1 := BR.trans (hb1.mono BR.size)
  have D := HB.out.below B1
  have d0 : w1.cell? ⟨b, 0, none⟩ = some (.int .i64 x) := D.cell 0
  have d1 : w1.cell? ⟨b, 1, none⟩ = some (.int .i64 y) := D.cell 1
  have d2 : w1.cell? ⟨b, 2, none⟩ = some (.int .i64 z) := D.cell 2
  have d3 : w1.cell? ⟨b, 3, none⟩ = some (.slice A bs.length c) := D.cell 3
  have d4 : w1.cell? ⟨b, 4, none⟩ = some (.slice B cs.length d) := D.cell 4
  have hz1 := hb1.size
  simp at hz1
  have R1 := Lib.hid (RR.out.below hb1)
  clear hb1 D RR k0 hc
  go_wp2_with fail
  refine (own_code x y z A B bs.length c cs.length d bs cs w1 hl hl2 ((HRA.out.below B1).more B1.size) ((HRB.out.below B1).more B1.size)).mono ?_
  rintro e w2 ⟨u1, u2, mid, rfl, hmid, ho1, hL1, ho2, hb2⟩
  obtain ⟨va1, vc1, rfl⟩ := owns_slice ho1
  obtain ⟨va2, vc2, rfl⟩ := owns_slice ho2
  have B2 : Below w.heap.size w w2 := B1.trans (hb2.mono B1.size)
  have R2 := R1.out.below hb2
  have s0 : w2.cell? ⟨w.heap.size + 1, 0, none⟩ = some (.int .i64 0) := R2.cell 0
  have s1 : w2.cell? ⟨w.heap.size + 1, 1, none⟩ = some (.int .i64 0) := R2.cell 1
  have s2 : w2.cell? ⟨w.heap.size + 1, 2, none⟩ = some (.int .i64 0) := R2.cell 2
  have s3 : w2.cell? ⟨w.heap.size + 1, 3, none⟩ = some (.slice none 0 0) := R2.cell 3
  have s4 : w2.cell? ⟨w.heap.size + 1, 4, none⟩ = some (.slice none 0 0) := R2.cell 4
  have f0 := R2.frozen 0
  have f1 := R2.frozen 1
  have f2 := R2.frozen 2
  have f3 := R2.frozen 3
  have f4 := R2.frozen 4
  have hlr : w.heap.size + 1 < w2.heap.size := R2.lt
  have HH := Lib.hid (And.intro ho1 (And.intro ho2 (And.intro hL1 B2)))
  clear ho1 ho2 hL1 hb2 R2 R1 B1 BR d0 d1 d2 d3 d4 B2
  go_wp2
  obtain ⟨ho1, ho2, hL1, B2⟩ := HH.out
  have hfar : ∀ g, w.heap.size + 2 ≤ g → (((((w2.setCell ⟨w.heap.size + 1, 0, none⟩ (.int .i64 x)).setCell ⟨w.heap.size + 1, 1, none⟩ (.int .i64 y)).setCell ⟨w.heap.size + 1, 2, none⟩ (.int .i64 z)).setCell ⟨w.heap.size + 1, 3, none⟩ (.slice va1 bs.length vc1)).setCell ⟨w.heap.size + 1, 4, none⟩ (.slice va2 cs.length vc2)).heap[g]? = w2.heap[g]? := fun g hg => by
    have hne : g ≠ w.heap.size + 1 := by omega
    rw [Below.heap_setCell _ _ _ _ hne, Below.heap_setCell _ _ _ _ hne, Below.heap_setCell _ _ _ _ hne, Below.heap_setCell _ _ _ _ hne, Below.heap_setCell _ _ _ _ hne]
  refine bodyPost_ret (v := .tuple #[.agg #[.int .i64 x, .int .i64 y, .int .i64 z, .slice va1 bs.length vc1, .slice va2 cs.length vc2], .int .i64 0]) (by simp [results, Tryd.results33, go_sem, s0, s1, s2, s3, s4]) rfl ⟨_, _, mid, rfl, by omega, owns_mono (owns_keep ho1 fun g hg => hfar g (by have := (ho1.lt g hg).1; omega)) (by omega), hL1, owns_keep ho2 fun g hg => hfar g (by have := (ho2.lt g hg).1; omega), ?_⟩
  exact ((((B2.setCell (by simp) _).setCell (by simp) _).setCell (by simp) _).setCell (by simp) _).setCell (by simp) _
theorem codeOf_heap_yes (S : Own) (p : Nat) (m : HM) (X : Wd) (x y z : Int) (bs : List Int) (cs : List Wd) (w : World) (hH : HeapAt w S p m) (he : m.find X = some (.code x y z bs cs)) (hl : bs.length ≤ 2000000) (hl2 : cs.length ≤ 2000000) :
    Calls Tryd.prog 33 #[.pointer (some ⟨p, 0, none⟩), wdV X] w fun e w' => ∃ v1 v2 mid, e = .returned (.tuple #[.agg #[.int .i64 x, .int .i64 y, .int .i64 z, v1, v2], .int .i64 0]) ∧ w.heap.size ≤ mid ∧ w'.ownsRow w.heap.size 5 1 v1 bs.length (byC bs) ∧ (∀ g, v1.ownBlock = some g → g < mid) ∧ w'.ownsRow mid 24 2 v2 cs.length (wdC cs) ∧ Below w.heap.size w w' := by
  obtain ⟨V, hF, hV⟩ := finds_any hH X
  obtain ⟨h0, hc⟩ := hH.c0
  rw [he] at hV
  obtain ⟨b, r, q, rfl, _, hb, hr, hq⟩ := hV
  obtain ⟨A, c, rfl, hR⟩ := hr.reads
  obtain ⟨B, d, rfl, hQ⟩ := hq.reads
  exact codeOf_yes p m.limit b X A B c d x y z bs cs w h0 hc hF hb hR hQ hl hl2
end Go.Proofs.YthmfiahmfdadgaaDoor
namespace Go.Proofs.YthmfiahmfdadgaaDoor
open Go.RowKit
set_option maxRecDepth 100000
set_option maxHeartbeats 4000000 in
theorem copy_all (S : Own) (p : Nat) (m : HM) (w : World) (hH : HeapAt w S p m) (hf : m.free = []) :
    Calls Tryd.prog 30 #[.pointer (some ⟨p, 0, none⟩)] w fun e w' => ∃ q S', e = .returned (.pointer (some ⟨q, 0, none⟩)) ∧ w.heap.size ≤ q ∧ HeapAt w' S' q m ∧ Below w.heap.size w w' ∧ ∀ b, S' b ≠ none → w.heap.size ≤ b := by
  obtain ⟨hok, vo, vf, os, hI⟩ := hH
  obtain ⟨fa, cf, rfl⟩ := hI.vf_form hf
  obtain ⟨i0, hi, hz0, hz1, hz2⟩ := info_parts info_obj
  obtain ⟨A2, cv, hvo⟩ : ∃ A cv, vo = .slice A os.length cv := by
    rcases hI.row.2 with ⟨h, h2⟩ | ⟨g, cap, cur, h, _⟩
    · exact ⟨none, 0, by rw [h, h2]⟩
    · exact ⟨_, _, h⟩
  subst hvo
  have c0 : w.cell? ⟨p, 0, none⟩ = some (.int .i64 m.limit) := hI.blk.cell 0
  have c1 : w.cell? ⟨p, 1, none⟩ = some (.int .i64 m.many) := hI.blk.cell 1
  have c2 : w.cell? ⟨p, 2, none⟩ = some (.int .i64 m.used) := hI.blk.cell 2
  have c3 : w.cell? ⟨p, 3, none⟩ = some (.slice A2 os.length cv) := hI.blk.cell 3
  have c4 : w.cell? ⟨p, 4, none⟩ = some (.slice fa 0 cf) := hI.blk.cell 4
  have hlt := hI.blk.lt
  have h0 : 0 < m.limit := hok.lo
  have hol : os.length ≤ 65536 := by have := hok.len; have := hok.hi; rw [hI.len]; omega
  have HI := Lib.hid hI
  have HOK := Lib.hid hok
  have HF := Lib.hid hf
  clear hI hok hf
  go_enter Tryd.func30, Tryd.ntmps30
  go_wp2_with (go_at_call 36; refine (made_yes p m.limit _ h0 c0).mono ?_; rintro e w' ⟨rfl, rfl⟩)
  have k0 : w.drew.cell? ⟨p, 0, none⟩ = some (.int .i64 m.limit) := c0
  have k1 : w.drew.cell? ⟨p, 1, none⟩ = some (.int .i64 m.many) := c1
  have k2 : w.drew.cell? ⟨p, 2, none⟩ = some (.int .i64 m.used) := c2
  have k4 : w.drew.cell? ⟨p, 4, none⟩ = some (.slice fa 0 cf) := c4
  have A1 : Below w.heap.size w w.drew := (Below.refl _ _).drew
  go_region_held3 (fun w' => w'.cell? ⟨p, 0, none⟩ = some (.int .i64 m.limit) ∧ w'.cell? ⟨p, 1, none⟩ = some (.int .i64 m.many) ∧ w'.cell? ⟨p, 2, none⟩ = some (.int .i64 m.used) ∧ w'.cell? ⟨p, 4, none⟩ = some (.slice fa 0 cf) ∧ Below w.heap.size w w')
    (first | exact ⟨k0, k1, k2, k4, A1⟩ | (go_split_ands; exact ⟨cell_later hb (by assumption), cell_later hb (by assumption), cell_later hb (by assumption), cell_later hb (by assumption), Below.trans (by assumption) (hb.mono (Below.size (by assumption)))⟩) | (go_split_ands; exact ⟨al_cell (by assumption), al_cell (by assumption), al_cell (by assumption), al_cell (by assumption), Below.alloc (by assumption) (Below.size (by assumption)) _⟩))
    (first | (go_at_call 49; refine (clone_none fa cf _).mono ?_; rintro e w1 ⟨vn, rfl, hn1, hb⟩; have hn2 : w1.ownsRow w.heap.size 3 1 vn 0 [] := owns_mono hn1 (by go_split_ands; exact Below.size (by assumption)); have B1 : Below w.heap.size w w1 := (by go_split_ands; exact Below.trans (by assumption) (hb.mono (Below.size (by assumption)))); obtain ⟨va, vc, rfl⟩ : ∃ a c, vn = .slice a 0 c := (by rcases hn1.2 with ⟨h, _⟩ | ⟨g, cap, cur, h, _⟩ <;> exact ⟨_, _, h⟩)))
  have HC0 := Lib.hid (CopyAt.start (m := m) B1 hn2)
  have s3 : (w1.alloc (.cells #[.int .i64 m.limit, .int .i64 m.many, .int .i64 m.used, .slice none 0 0, .slice va 0 vc] 67)).cell? ⟨p, 3, none⟩ = some (.slice A2 os.length cv) := al_cell (cell_later B1 c3)
  have hqw : w.heap.size ≤ w1.heap.size := B1.size
  obtain ⟨q, hq⟩ : ∃ q, q = w1.heap.size := ⟨_, rfl⟩
  rw [← hq] at HC0 hqw ⊢
  obtain ⟨S0, hS0⟩ : ∃ S0 : Own, S0 = fun b => if b = q then some 0 else if (Value.slice va 0 vc).ownBlock = some b then some 2 else none := ⟨_, rfl⟩
  rw [← hS0] at HC0
  generalize w1.alloc (.cells #[.int .i64 m.limit, .int .i64 m.many, .int .i64 m.used, .slice none 0 0, .slice va 0 vc] 67) = wq at HC0 s3 ⊢
  clear hq hS0 hn1 hn2 hb B1 A1 k0 k1 k2 k4 c0 c1 c2 c4
  (try go_split_ands)
  go_wp2
  go_loopw [33] (fun s33 wr => ∃ (z : Nat) (vo' : Value) (os' : List Value) (Sz : Own), z ≤ os.length ∧ s33 = .int .i64 z ∧ CopyAt w wr Sz q m z vo' (.slice va 0 vc) os') (fun s33 _ => os.length - (intOf s33).toNat)
  case atStart => exact ⟨0, _, _, _, Nat.zero_le _, rfl, HC0.out⟩
  case round =>
    obtain ⟨z, vo', os', Sz, hz, rfl, hCA⟩ := hrel
    by_cases hzn : z < os.length
    · have hIr := HI.out.keep hCA.below.size fun b hb => hCA.below.block b (HI.out.lt b hb)
      obtain ⟨g0, cap0, v, o, hv0, x0, ho, hcz⟩ := hIr.row0 hzn
      injection hv0 with hA2 _ hcv
      subst hA2
      subst hcv
      have i1 : (0 : Int) ≤ (z : Int) := by omega
      have i2 : (z : Int) < (os.length : Int) := by omega
      have hosl : os'.length = z := by have := hCA.row.1; omega
      have d3 : wr.cell? ⟨q, 3, none⟩ = some vo' := hCA.blk.cell 3
      have f3 := hCA.blk.frozen 3
      obtain ⟨A3, cv3, hvo3⟩ : ∃ A cv, vo' = .slice A z cv := by
        rcases hCA.row.2 with ⟨h, h2⟩ | ⟨g, cap, cur, h, _⟩
        · exact ⟨none, 0, by rw [h, h2]⟩
        · exact ⟨_, _, h⟩
      subst hvo3
      have HO := Lib.hid ho
      have HCA := Lib.hid hCA
      clear hIr hCA ho
      cases o with
      | none =>
        have hv : v = .nilIface := hcz
        subst hv
        have heq := neq_nil_nil
        have BB : Below wr.heap.size wr wr := Below.refl _ _
        have HN : Hid (CellNew wr wr .nilIface none) := rfl
        clear hcz
        have O1 := Lib.hid (owns_later HCA.out.row BB)
        have D1 := Lib.hid (HCA.out.blk.below BB)
        have HV : Hid (Reads (wr.alloc (.cells #[.nilIface] 86)) (wr.heap.size + 1) 1 (some ⟨wr.heap.size, 0, none⟩) 1 [.nilIface]) := ⟨rfl, fun _ => ⟨_, rfl, Nat.lt_succ_self _, cell_one_new _ _ _⟩⟩
        have e3 : wr.cell? ⟨q, 3, none⟩ = some (.slice A3 z cv3) := D1.out.cell 3
        clear d3 f3
        go_wp2_with (at_builtin; refine (wpList_append_any _ rfl (.tmp 45) (.tmp 47) _ rfl 0 86 i0 _ 1 16 Tryd.underlying64 hi hz0 hz1 hz2 rfl (by omega) (.slice A3 z cv3) z os' rfl (O1.out.alloc _) (wr.heap.size + 1) (some ⟨wr.heap.size, 0, none⟩) 1 1 [.nilIface] rfl HV.out (fun u hu => by simp at hu; subst hu; rfl) (by simp only [maxLen]; omega) (by omega) (Nat.zero_le _) ?_); intro v2 w2 hown2 hgrow2 hat2; refine Hid.out ?_)
        refine Lib.hid ?_
        have HG := Lib.hid hgrow2
        have hqv : some q ≠ (Value.slice A3 z cv3).ownBlock := fun e => by have h1 := HCA.out.rowOwn q e.symm; rw [HCA.out.own] at h1; cases h1
        have D2 := (D1.out.alloc (.cells #[.nilIface] 86)).keep (hgrow2.block q (by have := D1.out.lt; simp; omega) hqv)
        have s3 : w2.cell? ⟨q, 3, none⟩ = some (.slice A3 z cv3) := D2.cell 3
        have t3 := D2.frozen 3
        have HST := Lib.hid (HCA.out.step HO.out BB HN.out hown2 hgrow2 hat2)
        obtain ⟨va2, vn2, vc2, hv2⟩ : ∃ a n c, v2 = .slice a n c := by
          rcases hown2.2 with ⟨h, _⟩ | ⟨g, cap, cur, h, _⟩ <;> exact ⟨_, _, _, h⟩
        subst hv2
        clear hown2 hgrow2 hat2 D2 O1 D1 HV e3 HG hqv HCA
        go_wp2
        go_roundw
        case rel => exact ⟨z + 1, _, _, _, by omega, by go_num, HST.out⟩
        case measure => simp [intOf]; omega
      | some o =>
        cases o with
        | pair a d =>
          obtain ⟨b, rfl, _, hb0⟩ := hcz
          have heq := neq_nil_iface 77 (.pointer (some ⟨b, 0, none⟩))
          have hm := mcopied_pair ⟨b, 0, none⟩
          have CC := Lib.hid (copied_pair b a d wr hb0)
          clear hb0
          go_wp2_with fail
          refine CC.out.mono ?_
          rintro e w1 ⟨b', rfl, hN, BB⟩
          have HN : Hid (CellNew wr w1 (.iface 77 (.pointer (some ⟨b', 0, none⟩))) (some (.pair a d))) := hN
          have B' : Below wr.heap.size wr w1 := ⟨BB.os, BB.tape, BB.output, BB.size, BB.block⟩
          clear hN CC hm heq x0
          have O1 := Lib.hid (owns_later HCA.out.row B')
          have D1 := Lib.hid (HCA.out.blk.below B')
          have HV : Hid (Reads (w1.alloc (.cells #[.iface 77 (.pointer (some ⟨b', 0, none⟩))] 86)) (w1.heap.size + 1) 1 (some ⟨w1.heap.size, 0, none⟩) 1 [.iface 77 (.pointer (some ⟨b', 0, none⟩))]) := ⟨rfl, fun _ => ⟨_, rfl, Nat.lt_succ_self _, cell_one_new _ _ _⟩⟩
          have e3 : w1.cell? ⟨q, 3, none⟩ = some (.slice A3 z cv3) := D1.out.cell 3
          clear d3 f3
          go_wp2_with (at_builtin; refine (wpList_append_any _ rfl (.tmp 45) (.tmp 47) _ rfl 0 86 i0 _ 1 16 Tryd.underlying64 hi hz0 hz1 hz2 rfl (by omega) (.slice A3 z cv3) z os' rfl (O1.out.alloc _) (w1.heap.size + 1) (some ⟨w1.heap.size, 0, none⟩) 1 1 [.iface 77 (.pointer (some ⟨b', 0, none⟩))] rfl HV.out (fun u hu => by simp at hu; subst hu; rfl) (by simp only [maxLen]; omega) (by omega) (Nat.zero_le _) ?_); intro v2 w2 hown2 hgrow2 hat2; refine Hid.out ?_)
          refine Lib.hid ?_
          have HG := Lib.hid hgrow2
          have hqv : some q ≠ (Value.slice A3 z cv3).ownBlock := fun e => by have h1 := HCA.out.rowOwn q e.symm; rw [HCA.out.own] at h1; cases h1
          have D2 := (D1.out.alloc (.cells #[.iface 77 (.pointer (some ⟨b', 0, none⟩))] 86)).keep (hgrow2.block q (by have := D1.out.lt; simp; omega) hqv)
          have s3 : w2.cell? ⟨q, 3, none⟩ = some (.slice A3 z cv3) := D2.cell 3
          have t3 := D2.frozen 3
          have HST := Lib.hid (HCA.out.step HO.out B' HN.out hown2 hgrow2 hat2)
          obtain ⟨va2, vn2, vc2, hv2⟩ : ∃ a n c, v2 = .slice a n c := by
            rcases hown2.2 with ⟨h, _⟩ | ⟨g, cap, cur, h, _⟩ <;> exact ⟨_, _, _, h⟩
          subst hv2
          clear hown2 hgrow2 hat2 D2 O1 D1 HV e3 HG hqv HCA
          go_wp2
          go_roundw
          case rel => exact ⟨z + 1, _, _, _, by omega, by go_num, HST.out⟩
          case measure => simp [intOf]; omega
        | text s =>
          obtain ⟨b, rfl, _, hb0⟩ := hcz
          have heq := neq_nil_iface 74 (.pointer (some ⟨b, 0, none⟩))
          have hm := mcopied_text ⟨b, 0, none⟩
          have CC := Lib.hid (copied_text b s wr hb0)
          clear hb0
          go_wp2_with fail
          refine CC.out.mono ?_
          rintro e w1 ⟨b', rfl, hN, BB⟩
          have HN : Hid (CellNew wr w1 (.iface 74 (.pointer (some ⟨b', 0, none⟩))) (some (.text s))) := hN
          have B' : Below wr.heap.size wr w1 := ⟨BB.os, BB.tape, BB.output, BB.size, BB.block⟩
          clear hN CC hm heq x0
          have O1 := Lib.hid (owns_later HCA.out.row B')
          have D1 := Lib.hid (HCA.out.blk.below B')
          have HV : Hid (Reads (w1.alloc (.cells #[.iface 74 (.pointer (some ⟨b', 0, none⟩))] 86)) (w1.heap.size + 1) 1 (some ⟨w1.heap.size, 0, none⟩) 1 [.iface 74 (.pointer (some ⟨b', 0, none⟩))]) := ⟨rfl, fun _ => ⟨_, rfl, Nat.lt_succ_self _, cell_one_new _ _ _⟩⟩
          have e3 : w1.cell? ⟨q, 3, none⟩ = some (.slice A3 z cv3) := D1.out.cell 3
          clear d3 f3
          go_wp2_with (at_builtin; refine (wpList_append_any _ rfl (.tmp 45) (.tmp 47) _ rfl 0 86 i0 _ 1 16 Tryd.underlying64 hi hz0 hz1 hz2 rfl (by omega) (.slice A3 z cv3) z os' rfl (O1.out.alloc _) (w1.heap.size + 1) (some ⟨w1.heap.size, 0, none⟩) 1 1 [.iface 74 (.pointer (some ⟨b', 0, none⟩))] rfl HV.out (fun u hu => by simp at hu; subst hu; rfl) (by simp only [maxLen]; omega) (by omega) (Nat.zero_le _) ?_); intro v2 w2 hown2 hgrow2 hat2; refine Hid.out ?_)
          refine Lib.hid ?_
          have HG := Lib.hid hgrow2
          have hqv : some q ≠ (Value.slice A3 z cv3).ownBlock := fun e => by have h1 := HCA.out.rowOwn q e.symm; rw [HCA.out.own] at h1; cases h1
          have D2 := (D1.out.alloc (.cells #[.iface 74 (.pointer (some ⟨b', 0, none⟩))] 86)).keep (hgrow2.block q (by have := D1.out.lt; simp; omega) hqv)
          have s3 : w2.cell? ⟨q, 3, none⟩ = some (.slice A3 z cv3) := D2.cell 3
          have t3 := D2.frozen 3
          have HST := Lib.hid (HCA.out.step HO.out B' HN.out hown2 hgrow2 hat2)
          obtain ⟨va2, vn2, vc2, hv2⟩ : ∃ a n c, v2 = .slice a n c := by
            rcases hown2.2 with ⟨h, _⟩ | ⟨g, cap, cur, h, _⟩ <;> exact ⟨_, _, _, h⟩
          subst hv2
          clear hown2 hgrow2 hat2 D2 O1 D1 HV e3 HG hqv HCA
          go_wp2
          go_roundw
          case rel => exact ⟨z + 1, _, _, _, by omega, by go_num, HST.out⟩
          case measure => simp [intOf]; omega
        | vec l =>
          obtain ⟨b, r, rfl, _, hb0, hr0⟩ := hcz
          have hll : l.length ≤ 2000000 := by have h1 := HOK.out.used; have h2 := HO.out; have h3 := size_le_used h2; simp only [HObj.size] at h3; omega
          have heq := neq_nil_iface 69 (.pointer (some ⟨b, 0, none⟩))
          have hm := mcopied_vector ⟨b, 0, none⟩
          have CC := Lib.hid (copied_vector b r l wr hb0 hr0 hll)
          clear hb0 hr0 hll
          go_wp2_with fail
          refine CC.out.mono ?_
          rintro e w1 ⟨b', rfl, hN, BB⟩
          have HN : Hid (CellNew wr w1 (.iface 69 (.pointer (some ⟨b', 0, none⟩))) (some (.vec l))) := hN
          have B' : Below wr.heap.size wr w1 := ⟨BB.os, BB.tape, BB.output, BB.size, BB.block⟩
          clear hN CC hm heq x0
          have O1 := Lib.hid (owns_later HCA.out.row B')
          have D1 := Lib.hid (HCA.out.blk.below B')
          have HV : Hid (Reads (w1.alloc (.cells #[.iface 69 (.pointer (some ⟨b', 0, none⟩))] 86)) (w1.heap.size + 1) 1 (some ⟨w1.heap.size, 0, none⟩) 1 [.iface 69 (.pointer (some ⟨b', 0, none⟩))]) := ⟨rfl, fun _ => ⟨_, rfl, Nat.lt_succ_self _, cell_one_new _ _ _⟩⟩
          have e3 : w1.cell? ⟨q, 3, none⟩ = some (.slice A3 z cv3) := D1.out.cell 3
          clear d3 f3
          go_wp2_with (at_builtin; refine (wpList_append_any _ rfl (.tmp 45) (.tmp 47) _ rfl 0 86 i0 _ 1 16 Tryd.underlying64 hi hz0 hz1 hz2 rfl (by omega) (.slice A3 z cv3) z os' rfl (O1.out.alloc _) (w1.heap.size + 1) (some ⟨w1.heap.size, 0, none⟩) 1 1 [.iface 69 (.pointer (some ⟨b', 0, none⟩))] rfl HV.out (fun u hu => by simp at hu; subst hu; rfl) (by simp only [maxLen]; omega) (by omega) (Nat.zero_le _) ?_); intro v2 w2 hown2 hgrow2 hat2; refine Hid.out ?_)
          refine Lib.hid ?_
          have HG := Lib.hid hgrow2
          have hqv : some q ≠ (Value.slice A3 z cv3).ownBlock := fun e => by have h1 := HCA.out.rowOwn q e.symm; rw [HCA.out.own] at h1; cases h1
          have D2 := (D1.out.alloc (.cells #[.iface 69 (.pointer (some ⟨b', 0, none⟩))] 86)).keep (hgrow2.block q (by have := D1.out.lt; simp; omega) hqv)
          have s3 : w2.cell? ⟨q, 3, none⟩ = some (.slice A3 z cv3) := D2.cell 3
          have t3 := D2.frozen 3
          have HST := Lib.hid (HCA.out.step HO.out B' HN.out hown2 hgrow2 hat2)
          obtain ⟨va2, vn2, vc2, hv2⟩ : ∃ a n c, v2 = .slice a n c := by
            rcases hown2.2 with ⟨h, _⟩ | ⟨g, cap, cur, h, _⟩ <;> exact ⟨_, _, _, h⟩
          subst hv2
          clear hown2 hgrow2 hat2 D2 O1 D1 HV e3 HG hqv HCA
          go_wp2
          go_roundw
          case rel => exact ⟨z + 1, _, _, _, by omega, by go_num, HST.out⟩
          case measure => simp [intOf]; omega
        | code cx cy cz bs cs =>
          obtain ⟨b, r, q2, rfl, _, hb0, hr0, hq0⟩ := hcz
          have hll : bs.length ≤ 2000000 := by have h1 := HOK.out.used; have h2 := HO.out; have h3 := size_le_used h2; simp only [HObj.size] at h3; omega
          have hll2 : cs.length ≤ 2000000 := by have h1 := HOK.out.used; have h2 := HO.out; have h3 := size_le_used h2; simp only [HObj.size] at h3; omega
          have heq := neq_nil_iface 88 (.pointer (some ⟨b, 0, none⟩))
          have hm := mcopied_code ⟨b, 0, none⟩
          have CC := Lib.hid (copied_code b r q2 cx cy cz bs cs wr hb0 hr0 hq0 hll hll2)
          clear hb0 hr0 hq0 hll hll2
          go_wp2_with fail
          refine CC.out.mono ?_
          rintro e w1 ⟨b', rfl, hN, BB⟩
          have HN : Hid (CellNew wr w1 (.iface 88 (.pointer (some ⟨b', 0, none⟩))) (some (.code cx cy cz bs cs))) := hN
          have B' : Below wr.heap.size wr w1 := ⟨BB.os, BB.tape, BB.output, BB.size, BB.block⟩
          clear hN CC hm heq x0
          have O1 := Lib.hid (owns_later HCA.out.row B')
          have D1 := Lib.hid (HCA.out.blk.below B')
          have HV : Hid (Reads (w1.alloc (.cells #[.iface 88 (.pointer (some ⟨b', 0, none⟩))] 86)) (w1.heap.size + 1) 1 (some ⟨w1.heap.size, 0, none⟩) 1 [.iface 88 (.pointer (some ⟨b', 0, none⟩))]) := ⟨rfl, fun _ => ⟨_, rfl, Nat.lt_succ_self _, cell_one_new _ _ _⟩⟩
          have e3 : w1.cell? ⟨q, 3, none⟩ = some (.slice A3 z cv3) := D1.out.cell 3
          clear d3 f3
          go_wp2_with (at_builtin; refine (wpList_append_any _ rfl (.tmp 45) (.tmp 47) _ rfl 0 86 i0 _ 1 16 Tryd.underlying64 hi hz0 hz1 hz2 rfl (by omega) (.slice A3 z cv3) z os' rfl (O1.out.alloc _) (w1.heap.size + 1) (some ⟨w1.heap.size, 0, none⟩) 1 1 [.iface 88 (.pointer (some ⟨b', 0, none⟩))] rfl HV.out (fun u hu => by simp at hu; subst hu; rfl) (by simp only [maxLen]; omega) (by omega) (Nat.zero_le _) ?_); intro v2 w2 hown2 hgrow2 hat2; refine Hid.out ?_)
          refine Lib.hid ?_
          have HG := Lib.hid hgrow2
          have hqv : some q ≠ (Value.slice A3 z cv3).ownBlock := fun e => by have h1 := HCA.out.rowOwn q e.symm; rw [HCA.out.own] at h1; cases h1
          have D2 := (D1.out.alloc (.cells #[.iface 88 (.pointer (some ⟨b', 0, none⟩))] 86)).keep (hgrow2.block q (by have := D1.out.lt; simp; omega) hqv)
          have s3 : w2.cell? ⟨q, 3, none⟩ = some (.slice A3 z cv3) := D2.cell 3
          have t3 := D2.frozen 3
          have HST := Lib.hid (HCA.out.step HO.out B' HN.out hown2 hgrow2 hat2)
          obtain ⟨va2, vn2, vc2, hv2⟩ : ∃ a n c, v2 = .slice a n c := by
            rcases hown2.2 with ⟨h, _⟩ | ⟨g, cap, cur, h, _⟩ <;> exact ⟨_, _, _, h⟩
          subst hv2
          clear hown2 hgrow2 hat2 D2 O1 D1 HV e3 HG hqv HCA
          go_wp2
          go_roundw
          case rel => exact ⟨z + 1, _, _, _, by omega, by go_num, HST.out⟩
          case measure => simp [intOf]; omega
    · have hzl : z = m.objs.length := by rw [← HI.out.len]; omega
      have HD := Lib.hid hCA
      clear hCA
      go_wp2
      go_ret
      have hD := HD.out
      rw [hzl] at hD
      exact ⟨q, Sz, rfl, hqw, hD.done HOK.out HF.out, hD.below, fun b e => (hD.new b e).1⟩
end Go.Proofs.YthmfiahmfdadgaaDoor
