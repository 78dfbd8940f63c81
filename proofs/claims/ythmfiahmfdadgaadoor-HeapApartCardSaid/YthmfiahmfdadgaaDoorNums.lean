/-
  The free numbers (heap.numbers) through container/heap: Push where the pushed number is greater than all that lie there; Pop where one number lies there. Conditions: as each says.
-/
import Derived.Test.YthmfiahmfdadgaaDoorPush
import Derived.Test.YthmfiahmfdadgaaDoorLen
import Derived.BigRegion
import Derived.Deep.RegionLaw
namespace Go.Proofs.YthmfiahmfdadgaaDoor
open Go.RowKit
set_option maxRecDepth 100000

/-- A method of a value receiver, met through a pointer: the value is loaded. -/
theorem method_val {P : Program} {w : World} {t elem : TypeId} {a : Addr} {fuel : Nat} {name : String} {i : TypeInfo} {m : Method} {f : FuncId} {v : Value} (hi : P.info? t = some i) (hm : i.methods.find? (·.name == name) = some m) (hp : m.path = #[]) (hf : m.func = some (f, false))
    (ht : P.underlying t = some (.pointer elem)) (hl : (loadVar elem a).run P w = .ok v w) : (method (fuel + 1) t (.pointer (some a)) name).run P w = .ok (f, v) w := by
  have hw : ∀ (A : Array TypeId) (y : TypeId) (s n : ByteArray), (Builtin.ssaWrapNilChk_ A y #[.pointer (some a), .string s, .string n]).run P w = .ok (.pointer (some a)) w := fun _ _ _ _ => rfl
  simp [method, typeInfo, hi, hm, hp, hf, follow, receiverAt, run_underlying ht, Place.get, strVal, asAddr, hl, hw]
theorem method_parts {P : Program} {t : TypeId} {name : String} {f : FuncId} (h : ((P.info? t).bind fun i => i.methods.find? (·.name == name)).map (fun m => (m.path, m.func)) = some (#[], some (f, false))) :
    ∃ i m, P.info? t = some i ∧ i.methods.find? (·.name == name) = some m ∧ m.path = #[] ∧ m.func = some (f, false) := by
  cases hi : P.info? t with
  | none => rw [hi] at h; simp at h
  | some i =>
    rw [hi] at h
    simp only [Option.bind_some] at h
    cases hm : i.methods.find? (·.name == name) with
    | none => rw [hm] at h; simp at h
    | some m =>
      rw [hm] at h
      simp at h
      exact ⟨i, m, rfl, hm, h.1, h.2⟩
theorem load_num (p : Nat) (v : Value) (w : World) (h : w.cell? ⟨p, 4, none⟩ = some v) : (loadVar 65 ⟨p, 4, none⟩).run Tryd.prog w = .ok v w := by
  have e : ∀ w : World, (isAgg 65).run Tryd.prog w = .ok false w := fun _ => by kernel_rfl
  simp [loadVar, e, go_sem, h]
theorem mnum_len (p : Nat) (v : Value) (w : World) (h : w.cell? ⟨p, 4, none⟩ = some v) : (method 232 94 (.pointer (some ⟨p, 4, none⟩)) "Len").run Tryd.prog w = .ok (74, v) w := by
  obtain ⟨i, m, h1, h2, h3, h4⟩ := method_parts (P := Tryd.prog) (t := 94) (name := "Len") (f := 74) (by kernel_rfl)
  exact method_val h1 h2 h3 h4 Tryd.underlying94 (load_num p v w h)
theorem mnum_less (p : Nat) (v : Value) (w : World) (h : w.cell? ⟨p, 4, none⟩ = some v) : (method 232 94 (.pointer (some ⟨p, 4, none⟩)) "Less").run Tryd.prog w = .ok (75, v) w := by
  obtain ⟨i, m, h1, h2, h3, h4⟩ := method_parts (P := Tryd.prog) (t := 94) (name := "Less") (f := 75) (by kernel_rfl)
  exact method_val h1 h2 h3 h4 Tryd.underlying94 (load_num p v w h)
theorem mnum_swap (p : Nat) (v : Value) (w : World) (h : w.cell? ⟨p, 4, none⟩ = some v) : (method 232 94 (.pointer (some ⟨p, 4, none⟩)) "Swap").run Tryd.prog w = .ok (76, v) w := by
  obtain ⟨i, m, h1, h2, h3, h4⟩ := method_parts (P := Tryd.prog) (t := 94) (name := "Swap") (f := 76) (by kernel_rfl)
  exact method_val h1 h2 h3 h4 Tryd.underlying94 (load_num p v w h)
theorem mnum_pop (a : Addr) (w : World) : (method 232 94 (.pointer (some a)) "Pop").run Tryd.prog w = .ok (89, .pointer (some a)) w := by kernel_rfl
theorem mnum_push (a : Addr) (w : World) : (method 232 94 (.pointer (some a)) "Push").run Tryd.prog w = .ok (90, .pointer (some a)) w := by kernel_rfl
theorem nlen (A : Option Addr) (n c : Nat) (w : World) : Calls Tryd.prog 74 #[.slice A n c] w fun e w' => e = .returned (.int .i64 n) ∧ w = w' := by
  go_enter Tryd.func74, Tryd.ntmps74
  go_wp2
  go_ret
  exact ⟨rfl, rfl⟩
theorem nless (g n c i j : Nat) (a b : Int) (w : World) (hi : i < n) (hj : j < n) (h1 : w.cell? ⟨g, i, none⟩ = some (.int .i64 a)) (h2 : w.cell? ⟨g, j, none⟩ = some (.int .i64 b)) :
    Calls Tryd.prog 75 #[.slice (some ⟨g, 0, none⟩) n c, .int .i64 i, .int .i64 j] w fun e w' => e = .returned (.bool (decide (a < b))) ∧ ∃ q, w' = w.drewN q := by
  have i1 : (0 : Int) ≤ (i : Int) := by omega
  have i2 : (i : Int) < (n : Int) := by omega
  have i3 : (0 : Int) ≤ (j : Int) := by omega
  have i4 : (j : Int) < (n : Int) := by omega
  go_enter Tryd.func75, Tryd.ntmps75
  go_wp2
  go_quiet (fail)
  go_wp2
  go_ret
  exact ⟨rfl, _, rfl⟩
/-- What Push leaves: one number more in the row. -/
def Pushed (w : World) (p : Nat) (v0 v1 v2 v3 vf : Value) (xs : List Int) (k : Int) (e : Ending) (w' : World) : Prop :=
  e = .returned (.tuple #[]) ∧ ∃ u, w'.ownsRow 0 3 1 u (xs.length + 1) ((xs ++ [k]).map (Value.int .i64)) ∧ (u.ownBlock = vf.ownBlock ∨ ∃ g, u.ownBlock = some g ∧ w.heap.size ≤ g) ∧
    Blk w' p 67 #[v0, v1, v2, v3, u] ∧ Turn (Own.core p vf) w w' (Own.core p vf)
set_option maxHeartbeats 1000000 in
theorem npush (p : Nat) (k : Int) (v0 v1 v2 v3 vf : Value) (xs : List Int) (w : World) (hB : Blk w p 67 #[v0, v1, v2, v3, vf]) (hown : w.ownsRow 0 3 1 vf xs.length (xs.map (Value.int .i64))) (hne : vf.ownBlock ≠ some p) (hlen : xs.length ≤ 70000) :
    Calls Tryd.prog 90 #[.pointer (some ⟨p, 4, none⟩), .iface 3 (.int .i64 k)] w (Pushed w p v0 v1 v2 v3 vf xs k) := by
  obtain ⟨i0, hi, hz0, hz1, hz2⟩ := info_parts info_int
  have c4 : w.cell? ⟨p, 4, none⟩ = some vf := hB.cell 4
  have f4 := hB.frozen 4
  have hlt := hB.lt
  obtain ⟨A, cv, hvf⟩ : ∃ A cv, vf = .slice A xs.length cv := by
    rcases hown.2 with ⟨h, h2⟩ | ⟨g, cap, cur, h, _⟩
    · exact ⟨none, 0, by rw [h, h2]⟩
    · exact ⟨_, _, h⟩
  subst hvf
  have HO := Lib.hid hown
  have HB := Lib.hid hB
  have HNE := Lib.hid hne
  have HN : Hid (Reads (w.alloc (.cells #[.int .i64 k] 3)) (w.heap.size + 1) 1 (some ⟨w.heap.size, 0, none⟩) 1 [.int .i64 k]) := ⟨rfl, fun _ => ⟨_, rfl, Nat.lt_succ_self _, cell_one_new _ _ _⟩⟩
  have hta : ∀ w : World, (Instr.typeAssert (.iface 3 (.int .i64 k)) 20 3 false).run Tryd.prog w = .ok (.int .i64 k) w := fun _ => rfl
  clear hown hB hne
  go_enter Tryd.func90, Tryd.ntmps90
  go_wp2
  go_region_law ((refine step_append_any _ rfl (.tmp 7) (.tmp 10) _ (by rfl) 0 3 i0 _ 1 8 Tryd.underlying65 hi hz0 hz1 hz2 rfl (by omega) (.slice A xs.length cv) xs.length (xs.map (Value.int .i64)) (by rfl) ((HO.out.alloc _).drew) (w.heap.size + 1) (some ⟨w.heap.size, 0, none⟩) 1 1 [.int .i64 k] (by rfl) (HN.out.drew) (fun u hu => by simp at hu; subst hu; rfl) (by simp only [maxLen]; omega) (by omega) (Nat.zero_le _) ?_; intro v2' w2 hown2 hgrow2 hat2; have D2 : Blk w2 p 67 #[v0, v1, v2, v3, .slice A xs.length cv] := (HB.out.alloc _).keep (hgrow2.block p (by show p < (w.alloc _).heap.size; simp; omega) (fun e => HNE.out e.symm)); have s4 : w2.cell? ⟨p, 4, none⟩ = some (.slice A xs.length cv) := D2.cell 4; have t4 := D2.frozen 4; obtain ⟨a2, n2, c2, rfl⟩ : ∃ a n c, v2' = .slice a n c := (by rcases hown2.2 with ⟨h, _⟩ | ⟨g, cap, cur, h, _⟩ <;> exact ⟨_, _, _, h⟩)))
  all_goals
    go_end0
    have hnp : ∀ g, (Value.slice a2 n2 c2).ownBlock = some g → g ≠ p := fun g hg => by
      rcases hat2 with h | h
      · rintro rfl; exact HNE.out (h ▸ hg)
      · rw [h] at hg; have hg' : (w.alloc (.cells #[.int .i64 k] 3)).heap.size = g := by simpa using hg
        simp at hg'; omega
    refine ⟨rfl, .slice a2 n2 c2, ?_, ?_, ?_, ?_⟩
    · have := owns_keep (w' := w2.setCell ⟨p, 4, none⟩ (.slice a2 n2 c2)) hown2 fun g hg => Below.heap_setCell _ _ _ _ (hnp g hg)
      simpa using this
    · rcases hat2 with h | h
      · exact .inl h
      · exact .inr ⟨_, h, by show w.heap.size ≤ (w.alloc _).heap.size; simp⟩
    · exact D2.set 4 _
    · have T1 : Turn (Own.core p (.slice A xs.length cv)) w w2 (Own.core p (.slice A xs.length cv)) := by
        have hg2 : (w.alloc (.cells #[.int .i64 k] 3)).grownBy w2 (Value.slice A xs.length cv).ownBlock := ⟨hgrow2.os, hgrow2.tape, hgrow2.output, hgrow2.size, hgrow2.block⟩
        exact ((Turn.refl _ w).alloc _).grown hg2 (fun g hg => by simp [Own.core, hg])
      exact T1.setCell (p := ⟨p, 4, none⟩) (Own.core_p p _) _
theorem up_zero (p : Nat) (w : World) :
    Calls Tryd.prog 54 #[.iface 94 (.pointer (some ⟨p, 4, none⟩)), .int .i64 0] w fun e w' => e = .returned (.tuple #[]) ∧ ∃ q, w' = w.drewN q := by
  go_enter Tryd.func54, Tryd.ntmps54
  go_wp2
  refine wp_loop_rounds 1 ?_
  rw [rounds_succ]
  go_wp2
  go_end0
  exact ⟨rfl, 0, rfl⟩
theorem up_asc (p g c : Nat) (xs : List Int) (k : Int) (w : World) (h0 : 0 < xs.length) (hlen : xs.length ≤ 70000) (hc : w.cell? ⟨p, 4, none⟩ = some (.slice (some ⟨g, 0, none⟩) (xs.length + 1) c))
    (hcell : ∀ j x, (xs ++ [k])[j]? = some x → w.cell? ⟨g, j, none⟩ = some (.int .i64 x)) (hlt : ∀ x ∈ xs, x < k) :
    Calls Tryd.prog 54 #[.iface 94 (.pointer (some ⟨p, 4, none⟩)), .int .i64 xs.length] w fun e w' => e = .returned (.tuple #[]) ∧ ∃ q, w' = w.drewN q := by
  have hj : (xs.length - 1) / 2 < xs.length := by omega
  obtain ⟨x, hx⟩ : ∃ x, xs[(xs.length - 1) / 2]? = some x := ⟨_, List.getElem?_eq_getElem hj⟩
  have hxk : ¬ k < x := by have := hlt x (List.mem_of_getElem? hx); omega
  have c1 := hcell xs.length k (by simp)
  have c2 := hcell ((xs.length - 1) / 2) x (by rw [List.getElem?_append_left hj]; exact hx)
  have CL := Lib.hid (nless g (xs.length + 1) c xs.length ((xs.length - 1) / 2) k x w (by omega) (by omega) c1 c2)
  rw [decide_eq_false hxk] at CL
  have hm := mnum_less p _ w hc
  have e1 : ((xs.length : Int) - 1) / 2 = (((xs.length - 1) / 2 : Nat) : Int) := by omega
  have HE := Lib.hid e1
  have b1 : (((xs.length : Int) - 1) / 2 == (xs.length : Int)) = false := beq_eq_false_iff_ne.2 (by omega)
  have i0 : (0 : Int) ≤ (xs.length : Int) - 1 := by omega
  clear e1 hcell hlt c1 c2 hx hxk
  go_enter Tryd.func54, Tryd.ntmps54
  go_wp2
  refine wp_loop_rounds 1 ?_
  rw [rounds_succ]
  go_wp2_with fail
  rw [HE.out]
  refine CL.out.mono ?_
  rintro e w1 ⟨rfl, q, rfl⟩
  go_wp2
  go_end0
  exact ⟨rfl, q, rfl⟩
/-- container/heap.Push where the number is greater than all that lie there. -/
theorem hpush (p : Nat) (k : Int) (v0 v1 v2 v3 vf : Value) (xs : List Int) (w : World) (hB : Blk w p 67 #[v0, v1, v2, v3, vf]) (hown : w.ownsRow 0 3 1 vf xs.length (xs.map (Value.int .i64))) (hne : vf.ownBlock ≠ some p) (hlen : xs.length ≤ 70000) (hlt : ∀ x ∈ xs, x < k) :
    Calls Tryd.prog 48 #[.iface 94 (.pointer (some ⟨p, 4, none⟩)), .iface 3 (.int .i64 k)] w (Pushed w p v0 v1 v2 v3 vf xs k) := by
  have CP := Lib.hid (npush p k v0 v1 v2 v3 vf xs w hB hown hne hlen)
  have hm := mnum_push ⟨p, 4, none⟩
  have HLT := Lib.hid hlt
  clear hB hown hne hlt
  go_enter Tryd.func48, Tryd.ntmps48
  go_wp2_with (go_at_call 90; refine CP.out.mono ?_; rintro e w1 ⟨rfl, u, hown1, hat1, hB1, hT1⟩; refine Hid.out ?_)
  refine Lib.hid ?_
  have c4 : w1.cell? ⟨p, 4, none⟩ = some u := hB1.cell 4
  obtain ⟨g, cap, hu, _, _⟩ := hown1.form (by omega)
  subst hu
  have hm2 := mnum_len p _ w1 c4
  have H1 := Lib.hid (And.intro hown1 (And.intro hat1 (And.intro hB1 hT1)))
  have b1 : (xs.length : Int) + 1 - 1 = xs.length := by omega
  clear hat1 hB1 hT1
  have CU : Hid (Calls Tryd.prog 54 #[.iface 94 (.pointer (some ⟨p, 4, none⟩)), .int .i64 xs.length] w1 fun e w' => e = .returned (.tuple #[]) ∧ ∃ q, w' = w1.drewN q) := by
    by_cases h0 : 0 < xs.length
    · refine up_asc p g cap xs k w1 h0 hlen c4 (fun j x hj => ?_) HLT.out
      have := hown1.cells (g := g) rfl j (.int .i64 x) (by rw [List.getElem?_map, hj]; rfl)
      have hadd : (⟨g, 0, none⟩ : Addr).add j = ⟨g, j, none⟩ := by unfold Addr.add; split <;> simp_all
      rwa [hadd] at this
    · have hz : xs.length = 0 := by omega
      rw [hz]
      exact up_zero p w1
  clear hown1
  go_wp2_with (go_at_call 74; refine (nlen _ _ _ _).mono ?_; rintro e w' ⟨rfl, rfl⟩)
  refine CU.out.mono ?_
  rintro e w2 ⟨rfl, q, rfl⟩
  go_wp2
  go_end0
  obtain ⟨h1, h2, h3, h4⟩ := H1.out
  exact ⟨rfl, _, owns_keep h1 fun _ _ => rfl, h2, h3.drewN q, h4.drewN q⟩
end Go.Proofs.YthmfiahmfdadgaaDoor
