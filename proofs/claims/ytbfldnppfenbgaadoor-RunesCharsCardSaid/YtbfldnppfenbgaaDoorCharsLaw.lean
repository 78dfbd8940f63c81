/-
  RunesChars: for every integer the law returns true; nothing that lay before is changed. Conditions: the tables of unicode/utf8 lie as laid.
-/
import Derived.Test.YtbfldnppfenbgaaDoorRefChars
namespace Go.Proofs.YtbfldnppfenbgaaDoor
open Go.RowKit Go.Lib
set_option maxRecDepth 100000
set_option maxHeartbeats 2000000 in
theorem chars_any (c : Int) (w : World) (h0 : -9223372036854775808 ≤ c) (h1 : c ≤ 9223372036854775807) (hT : Tabs w) :
    Calls Tryd.prog 6 #[.int .i64 c] w fun e w' => e = .returned (.bool true) ∧ Below w.heap.size w w' := by
  have C := Lib.hid (lives_any w hT)
  have I1 := Lib.hid (fun w' => is_any c w')
  have I2 := Lib.hid (fun w' => ref_is c w')
  have W1 := Lib.hid (fun w' => width_any c w')
  have W2 := Lib.hid (fun w' => ref_width c w')
  have U1 := Lib.hid (fun w' => up_any c w' h0 h1)
  have U2 := Lib.hid (fun w' => ref_up c w')
  have D1 := Lib.hid (fun w' => down_any c w')
  have D2 := Lib.hid (fun w' => ref_down c w')
  have F1 := Lib.hid (fun w' => fold_any c w' h0 h1)
  have F2 := Lib.hid (fun w' => ref_fold c w')
  have O1 := Lib.hid (fun w' => word_any c w')
  have O2 := Lib.hid (fun w' => ref_word c w')
  clear hT h0 h1
  generalize chB c = b at I1 I2
  generalize widthOf c = wd at W1 W2
  generalize upOf c = u at U1 U2
  generalize downOf c = d at D1 D2
  generalize foldOf c = f at F1 F2
  generalize inAny c wordT = o at O1 O2
  go_enter Tryd.func6, Tryd.ntmps6
  go_wp2_with (go_at_call 10; refine C.out.mono ?_; rintro e w1 ⟨rfl, B1⟩)
  refine (I1.out w1).mono ?_
  rintro e w1x1 ⟨rfl, rfl⟩
  go_wp2_with fail
  refine (I2.out w1).mono ?_
  rintro e w1x2 ⟨rfl, rfl⟩
  go_wp2_with fail
  refine (W1.out w1).mono ?_
  rintro e w2 ⟨rfl, hb2⟩
  have B2 : Below w.heap.size w w2 := B1.trans (hb2.mono B1.size)
  clear hb2
  go_wp2_with fail
  refine (W2.out w2).mono ?_
  rintro e w3 ⟨rfl, hb3⟩
  have B3 : Below w.heap.size w w3 := B2.trans (hb3.mono B2.size)
  clear hb3
  go_wp2_with fail
  refine (U1.out w3).mono ?_
  rintro e w4 ⟨rfl, hb4⟩
  have B4 : Below w.heap.size w w4 := B3.trans (hb4.mono B3.size)
  clear hb4
  go_wp2_with fail
  refine (U2.out w4).mono ?_
  rintro e w4x3 ⟨rfl, rfl⟩
  go_wp2_with fail
  refine (D1.out w4).mono ?_
  rintro e w5 ⟨rfl, hb5⟩
  have B5 : Below w.heap.size w w5 := B4.trans (hb5.mono B4.size)
  clear hb5
  go_wp2_with fail
  refine (D2.out w5).mono ?_
  rintro e w6 ⟨rfl, hb6⟩
  have B6 : Below w.heap.size w w6 := B5.trans (hb6.mono B5.size)
  clear hb6
  go_wp2_with fail
  refine (F1.out w6).mono ?_
  rintro e w7 ⟨rfl, hb7⟩
  have B7 : Below w.heap.size w w7 := B6.trans (hb7.mono B6.size)
  clear hb7
  go_wp2_with fail
  refine (F2.out w7).mono ?_
  rintro e w8 ⟨rfl, hb8⟩
  have B8 : Below w.heap.size w w8 := B7.trans (hb8.mono B7.size)
  clear hb8
  go_wp2_with fail
  refine (O1.out w8).mono ?_
  rintro e w9 ⟨rfl, hb9⟩
  have B9 : Below w.heap.size w w9 := B8.trans (hb9.mono B8.size)
  clear hb9
  go_wp2_with fail
  refine (O2.out w9).mono ?_
  rintro e w10 ⟨rfl, hb10⟩
  have B10 : Below w.heap.size w w10 := B9.trans (hb10.mono B9.size)
  clear hb10
  go_wp2
  go_ret
  exact ⟨rfl, B10⟩
end Go.Proofs.YtbfldnppfenbgaaDoor
