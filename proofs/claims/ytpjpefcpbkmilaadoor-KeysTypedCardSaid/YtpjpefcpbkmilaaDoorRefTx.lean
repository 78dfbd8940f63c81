/-
  Contracts of the reference's Is, bytes, Text alone. Conditions: sizes as stated.
-/
import Derived.Test.YtpjpefcpbkmilaaDoorText
import Derived.Test.YtpjpefcpbkmilaaDoorKit
import Derived.Test.YtpjpefcpbkmilaaDoorJoins
namespace Go.Proofs.YtpjpefcpbkmilaaDoor
open Go.RowKit Go.Lib
set_option maxRecDepth 100000
theorem ref_is (c : Int) (w : World) : Calls Tryd.prog 11 #[.int .i64 c] w fun e w' => e = .returned (.bool (chB c)) ∧ w = w' := by
  by_cases h0 : 0 ≤ c
  · by_cases h1 : c ≤ 1114111
    · by_cases h2 : c < 55296
      · have e : chB c = true := by rw [chB_iff]; omega
        rw [e]; clear e
        go_enter Tryd.func11, Tryd.ntmps11
        go_wp2
        go_ret
        exact ⟨rfl, rfl⟩
      · by_cases h3 : 57343 < c
        · have e : chB c = true := by rw [chB_iff]; omega
          rw [e]; clear e
          go_enter Tryd.func11, Tryd.ntmps11
          go_wp2
          go_ret
          exact ⟨rfl, rfl⟩
        · have e : chB c = false := by simp only [chB, decide_eq_false_iff_not]; omega
          rw [e]; clear e
          go_enter Tryd.func11, Tryd.ntmps11
          go_wp2
          go_ret
          exact ⟨rfl, rfl⟩
    · have e : chB c = false := by simp only [chB, decide_eq_false_iff_not]; omega
      rw [e]; clear e
      go_enter Tryd.func11, Tryd.ntmps11
      go_wp2
      go_ret
      exact ⟨rfl, rfl⟩
  · have e : chB c = false := by simp only [chB, decide_eq_false_iff_not]; omega
    rw [e]; clear e
    go_enter Tryd.func11, Tryd.ntmps11
    go_wp2
    go_ret
    exact ⟨rfl, rfl⟩

theorem cells_new (w : World) (e : TypeId) (cs : List Value) : ∀ j u, cs[j]? = some u → (w.alloc (.cells cs.toArray e)).cell? ((⟨w.heap.size, 0, none⟩ : Addr).add j) = some u := by
  intro j u hj
  have hadd : (⟨w.heap.size, 0, none⟩ : Addr).add j = ⟨w.heap.size, j, none⟩ := by unfold Addr.add; split <;> simp_all
  rw [hadd, cell_of_row (w.alloc (.cells cs.toArray e)) w.heap.size j _ e (0, 0) (heap_alloc_new w _), List.getElem?_toArray]
  exact hj
theorem runeCells_one (c : Int) : ∀ u ∈ runeCells c, u.oneCell' = true := by
  intro u hu
  obtain ⟨x, _, rfl⟩ := List.mem_map.1 hu
  rfl

theorem ref_bytes (c : Int) (w : World) (hc : chB c = true) : Calls Tryd.prog 37 #[.int .i64 c] w fun e w' => e = .returned (.slice (some ⟨w.heap.size, 0, none⟩) (runeCells c).length (runeCells c).length) ∧ w.alloc (.cells (runeCells c).toArray 5) = w' := by
  obtain ⟨h0, h1, h2⟩ := chB_iff.1 hc
  clear hc
  by_cases a : c < 128
  · have E := Lib.hid (encodeRuneZ_one h0 (show c ≤ 127 by omega))
    go_enter Tryd.func37, Tryd.ntmps37
    go_wp2
    go_ret
    unfold runeCells
    rw [E.out]
    exact ⟨rfl, rfl⟩
  · by_cases b : c < 2048
    · have E := Lib.hid (encodeRuneZ_two (show 128 ≤ c by omega) (show c ≤ 2047 by omega))
      go_enter Tryd.func37, Tryd.ntmps37
      go_wp2
      go_ret
      unfold runeCells
      rw [E.out]
      exact ⟨rfl, rfl⟩
    · by_cases d : c < 65536
      · have E := Lib.hid (encodeRuneZ_three (r := c) (by omega))
        go_enter Tryd.func37, Tryd.ntmps37
        go_wp2
        go_ret
        unfold runeCells
        rw [E.out]
        exact ⟨rfl, rfl⟩
      · have E := Lib.hid (encodeRuneZ_four (show 65536 ≤ c by omega) h1)
        go_enter Tryd.func37, Tryd.ntmps37
        go_wp2
        go_ret
        unfold runeCells
        rw [E.out]
        exact ⟨rfl, rfl⟩

set_option maxHeartbeats 2000000 in
theorem ref_text_walk (b off c : Nat) (xs : List Int) (w : World) (h0 : 0 < xs.length) (hn : xs.length ≤ 65536) (hb : b < w.heap.size)
    (h1 : ∀ j x, xs[j]? = some x → w.cell? ⟨b, off + j, none⟩ = some (.int .i64 x)) :
    Calls Tryd.prog 17 #[.slice (some ⟨b, off, none⟩) xs.length c] w fun e w' => e = .returned (.tuple #[.string ⟨(textOf xs).toArray⟩, .int .i64 (textE xs)]) ∧ Below w.heap.size w w' := by
  obtain ⟨i0, hi, hz0, hz1, hz2⟩ := info_parts info_byte
  have H1 := Lib.hid h1
  clear h1
  go_enter Tryd.func17, Tryd.ntmps17
  go_wp2
  go_loopw [4, 5] (fun bv i wr => ∃ k : Nat, k ≤ xs.length ∧ i = .int .i64 k ∧ wr.ownsRow w.heap.size 5 1 bv (encA (xs.take k)).length (byteCells (encA (xs.take k))) ∧ Below w.heap.size w wr ∧ Hid (∀ x ∈ xs.take k, chB x = true)) (fun _ i _ => xs.length - (Lib.intOf i).toNat)
  case atStart => exact ⟨0, Nat.zero_le _, rfl, World.ownsRow_nil _ _ _ _, Below.refl _ _, by simp [Hid]⟩
  case round =>
    obtain ⟨k, hk, rfl, hown, hbw, HC⟩ := hrel
    by_cases hlt : k < xs.length
    · obtain ⟨x, hxk⟩ : ∃ x, xs[k]? = some x := ⟨_, List.getElem?_eq_getElem hlt⟩
      have hc : wr.cell? ⟨b, off + k, none⟩ = some (.int .i64 x) := (hbw.cell (p := ⟨b, off + k, none⟩) hb).trans (H1.out k x hxk)
      have HM := Lib.hid (List.mem_of_getElem? hxk)
      have hsn := Lib.hid (take_snoc hxk)
      have hkz : (k : Int) < (xs.length : Int) := by omega
      clear hxk
      cases hch : chB x with
      | true =>
        have I1 := Lib.hid (fun w' => ref_is x w')
        rw [hch] at I1
        have HCH := Lib.hid hch
        have BB := Lib.hid (fun w' => ref_bytes x w' hch)
        have hm4 := (runeCells_le x).2
        have hlen : (encA (xs.take k)).length ≤ 262144 := by
          have := encA_len (xs.take k)
          have h2 : (xs.take k).length ≤ k := List.length_take_le _ _
          omega
        have OC := Lib.hid (runeCells_one x)
        have hs2 := hbw.size
        have ER := Lib.hid (runeCells_eq x)
        generalize runeCells x = cs at BB hm4 OC ER
        clear hch
        go_wp2_with (first
          | (go_at_call 11; refine (I1.out _).mono ?_; rintro e w' ⟨rfl, rfl⟩)
          | (go_at_call 37; refine (BB.out _).mono ?_; rintro e w1 ⟨rfl, rfl⟩)
          | (at_builtin; refine wpList_append_own _ rfl _ _ 43 rfl w.heap.size 5 i0 (.int .u8 0) 1 1 Tryd.underlying43 hi hz0 hz1 hz2 rfl (by decide) _ _ _ rfl (hown.alloc _) ⟨wr.heap.size, 0, none⟩ cs.length cs.length cs rfl (Nat.mul_one _).symm (cells_new _ _ _) OC.out (by simp only [maxLen]; omega) (by omega) (by simp; omega) ?_; intro v' w3 hown' hgrow3 hnil3))
        have hbw3 : Below w.heap.size w w3 := Below.grown (hbw.alloc hs2 _) hgrow3 (by simp; omega) (fun j hj => (hown.lt _ hj).1)
        have e1 : byteCells (encA (xs.take k)) ++ byteCells (encodeRune x) = byteCells (encA (xs.take k) ++ encodeRune x) := by simp [byteCells]
        have e2 : encA (xs.take k) ++ encodeRune x = encA (xs.take (k + 1)) := by rw [hsn.out, encA_append, encA_cons, encA_nil, List.append_nil]
        rw [ER.out, e1, byteCells_length, ← List.length_append, e2] at hown'
        have OB2 := Lib.hid (And.intro hown' hbw3)
        clear hown' hbw3 e1 e2 hgrow3 hnil3 hown hbw hlen
        go_wp2
        go_roundw
        case rel =>
          refine ⟨k + 1, by omega, by go_num, OB2.out.1, OB2.out.2, ?_⟩
          show ∀ y ∈ _, _
          rw [hsn.out]
          intro y hy
          rcases List.mem_append.1 hy with hy | hy
          · exact HC.out y hy
          · rw [List.mem_singleton.1 hy]; exact HCH.out
        case measure => simp [Lib.intOf]; omega
      | false =>
        have I1 := Lib.hid (fun w' => ref_is x w')
        rw [hch] at I1
        have hall : allCh xs = false := by
          cases h : allCh xs with
          | false => rfl
          | true =>
            have := allCh_iff.1 h x HM.out
            rw [hch] at this
            cases this
        have HAll := Lib.hid hall
        have OB := Lib.hid hbw
        clear hch hall hbw hown
        go_wp2_with (go_at_call 11; refine (I1.out _).mono ?_; rintro e w' ⟨rfl, rfl⟩)
        go_ret2
        refine ⟨?_, OB.out⟩
        rw [(text_no HAll.out).1, (text_no HAll.out).2]
        rfl
    · have hkn : xs.take k = xs := List.take_of_length_le (by omega)
      have hall : allCh xs = true := by rw [allCh_iff]; have := HC.out; rwa [hkn] at this
      rw [hkn] at hown
      have hcv := run_string_own wr 43 9 5 Tryd.underlying43 Tryd.underlying5 Tryd.underlying9 hown
      have OB := Lib.hid hbw
      have HAll := Lib.hid hall
      clear hbw hown hkn hall
      go_wp2
      go_ret2
      refine ⟨?_, OB.out⟩
      rw [(text_yes HAll.out).1, (text_yes HAll.out).2]
      rfl
end Go.Proofs.YtpjpefcpbkmilaaDoor
